/- Contracts of the functions of the given program, first half. No condition. -/
import Derived.Test.YtpmknffollpnaaaGreatMa
import Derived.Test.YtpmknffollpnaaaGreatProg
import Derived.KernelRfl
import Derived.Test.YtpmknffollpnaaaGreatMb
import Derived.Shelf.Sort.Plain
import Derived.Ground.Names2Prog
import Derived.Shelf.Slices.In.SortNone
set_option linter.unusedVariables false
set_option linter.unusedSimpArgs false
namespace Go.Proofs.YtpmknffollpnaaaGreat
open Go Go.VS
theorem tsz_3 : tsz Tryz.prog 3 = 1 := by kernel_rfl
theorem tsz_4 : tsz Tryz.prog 4 = 1 := by kernel_rfl
theorem tsz_9 : tsz Tryz.prog 9 = 1 := by kernel_rfl
theorem tsz_22 : tsz Tryz.prog 22 = 1 := by kernel_rfl
theorem tsz_23 : tsz Tryz.prog 23 = 1 := by kernel_rfl
theorem tsz_25 : tsz Tryz.prog 25 = 6 := by kernel_rfl
theorem tsz_26 : tsz Tryz.prog 26 = 1 := by kernel_rfl
theorem tsz_30 : tsz Tryz.prog 30 = 1 := by kernel_rfl
theorem tsz_34 : tsz Tryz.prog 34 = 9 := by kernel_rfl
theorem tsz_45 : tsz Tryz.prog 45 = 2 := by kernel_rfl
theorem tsz_51 : tsz Tryz.prog 51 = 2 := by kernel_rfl
theorem tsz_56 : tsz Tryz.prog 56 = 3 := by kernel_rfl
theorem tsz_64 : tsz Tryz.prog 64 = 2 := by kernel_rfl
theorem tsz_68 : tsz Tryz.prog 68 = 3 := by kernel_rfl
theorem tsz_83 : tsz Tryz.prog 83 = 2 := by kernel_rfl
theorem tsz_84 : tsz Tryz.prog 84 = 1 := by kernel_rfl
theorem tsz_87 : tsz Tryz.prog 87 = 1 := by kernel_rfl
theorem tsz_89 : tsz Tryz.prog 89 = 10 := by kernel_rfl
theorem tsz_114 : tsz Tryz.prog 114 = 2 := by kernel_rfl
theorem tsz_117 : tsz Tryz.prog 117 = 2 := by kernel_rfl
theorem tsz_127 : tsz Tryz.prog 127 = 1 := by kernel_rfl
theorem tsz_134 : tsz Tryz.prog 134 = 2 := by kernel_rfl
theorem tsz_137 : tsz Tryz.prog 137 = 4 := by kernel_rfl
theorem tsz_138 : tsz Tryz.prog 138 = 1 := by kernel_rfl
theorem tsz_140 : tsz Tryz.prog 140 = 11 := by kernel_rfl
theorem tsz_152 : tsz Tryz.prog 152 = 1 := by kernel_rfl
theorem tsz_154 : tsz Tryz.prog 154 = 1 := by kernel_rfl
theorem tsz_155 : tsz Tryz.prog 155 = 4 := by kernel_rfl
theorem tsz_158 : tsz Tryz.prog 158 = 10 := by kernel_rfl
theorem tsz_166 : tsz Tryz.prog 166 = 1 := by kernel_rfl
theorem tsz_194 : tsz Tryz.prog 194 = 3 := by kernel_rfl
theorem tsz_197 : tsz Tryz.prog 197 = 2 := by kernel_rfl
theorem tsz_229 : tsz Tryz.prog 229 = 16 := by kernel_rfl
theorem tsz_231 : tsz Tryz.prog 231 = 22 := by kernel_rfl
theorem tsz_232 : tsz Tryz.prog 232 = 1 := by kernel_rfl
theorem tsz_254 : tsz Tryz.prog 254 = 1 := by kernel_rfl
theorem tsz_258 : tsz Tryz.prog 258 = 18 := by kernel_rfl
theorem tagg_3 : tagg Tryz.prog 3 = some false := by kernel_rfl
theorem tagg_4 : tagg Tryz.prog 4 = some false := by kernel_rfl
theorem tagg_9 : tagg Tryz.prog 9 = some false := by kernel_rfl
theorem tagg_22 : tagg Tryz.prog 22 = some false := by kernel_rfl
theorem tagg_23 : tagg Tryz.prog 23 = some false := by kernel_rfl
theorem tagg_25 : tagg Tryz.prog 25 = some true := by kernel_rfl
theorem tagg_26 : tagg Tryz.prog 26 = some false := by kernel_rfl
theorem tagg_30 : tagg Tryz.prog 30 = some false := by kernel_rfl
theorem tagg_34 : tagg Tryz.prog 34 = some true := by kernel_rfl
theorem tagg_45 : tagg Tryz.prog 45 = some true := by kernel_rfl
theorem tagg_51 : tagg Tryz.prog 51 = some true := by kernel_rfl
theorem tagg_56 : tagg Tryz.prog 56 = some true := by kernel_rfl
theorem tagg_64 : tagg Tryz.prog 64 = some true := by kernel_rfl
theorem tagg_68 : tagg Tryz.prog 68 = some true := by kernel_rfl
theorem tagg_83 : tagg Tryz.prog 83 = some true := by kernel_rfl
theorem tagg_84 : tagg Tryz.prog 84 = some false := by kernel_rfl
theorem tagg_87 : tagg Tryz.prog 87 = some false := by kernel_rfl
theorem tagg_89 : tagg Tryz.prog 89 = some true := by kernel_rfl
theorem tagg_114 : tagg Tryz.prog 114 = some true := by kernel_rfl
theorem tagg_117 : tagg Tryz.prog 117 = some true := by kernel_rfl
theorem tagg_127 : tagg Tryz.prog 127 = some false := by kernel_rfl
theorem tagg_134 : tagg Tryz.prog 134 = some true := by kernel_rfl
theorem tagg_137 : tagg Tryz.prog 137 = some true := by kernel_rfl
theorem tagg_138 : tagg Tryz.prog 138 = some false := by kernel_rfl
theorem tagg_140 : tagg Tryz.prog 140 = some true := by kernel_rfl
theorem tagg_152 : tagg Tryz.prog 152 = some false := by kernel_rfl
theorem tagg_155 : tagg Tryz.prog 155 = some true := by kernel_rfl
theorem tagg_158 : tagg Tryz.prog 158 = some true := by kernel_rfl
theorem tagg_166 : tagg Tryz.prog 166 = some true := by kernel_rfl
theorem tagg_197 : tagg Tryz.prog 197 = some true := by kernel_rfl
theorem tagg_229 : tagg Tryz.prog 229 = some true := by kernel_rfl
theorem tagg_231 : tagg Tryz.prog 231 = some true := by kernel_rfl
theorem tagg_232 : tagg Tryz.prog 232 = some false := by kernel_rfl
theorem tagg_254 : tagg Tryz.prog 254 = some true := by kernel_rfl
theorem tagg_258 : tagg Tryz.prog 258 = some true := by kernel_rfl
theorem tel_9 : tel Tryz.prog 9 = none := by kernel_rfl
theorem tel_22 : tel Tryz.prog 22 = some 89 := by kernel_rfl
theorem tel_23 : tel Tryz.prog 23 = some 3 := by kernel_rfl
theorem tel_26 : tel Tryz.prog 26 = some 64 := by kernel_rfl
theorem tel_74 : tel Tryz.prog 74 = some 137 := by kernel_rfl
theorem tel_84 : tel Tryz.prog 84 = some 83 := by kernel_rfl
theorem tel_87 : tel Tryz.prog 87 = some 231 := by kernel_rfl
theorem tel_90 : tel Tryz.prog 90 = some 26 := by kernel_rfl
theorem tel_123 : tel Tryz.prog 123 = some 4 := by kernel_rfl
theorem tel_129 : tel Tryz.prog 129 = none := by kernel_rfl
theorem tel_138 : tel Tryz.prog 138 = some 194 := by kernel_rfl
theorem tel_155 : tel Tryz.prog 155 = none := by kernel_rfl
theorem tel_205 : tel Tryz.prog 205 = some 23 := by kernel_rfl
theorem tel_255 : tel Tryz.prog 255 = some 258 := by kernel_rfl
theorem tarr_129 : tarr Tryz.prog 129 = some (4096, 4) := by kernel_rfl
theorem tarr_155 : tarr Tryz.prog 155 = some (4, 154) := by kernel_rfl
theorem tstr_9 : tstr Tryz.prog 9 = true := by kernel_rfl
theorem tby_3 : tby Tryz.prog 3 = 8 := by kernel_rfl
theorem tby_4 : tby Tryz.prog 4 = 1 := by kernel_rfl
theorem tby_23 : tby Tryz.prog 23 = 24 := by kernel_rfl
theorem tby_26 : tby Tryz.prog 26 = 24 := by kernel_rfl
theorem tby_64 : tby Tryz.prog 64 = 32 := by kernel_rfl
theorem tby_83 : tby Tryz.prog 83 = 16 := by kernel_rfl
theorem tby_89 : tby Tryz.prog 89 = 120 := by kernel_rfl
theorem tby_137 : tby Tryz.prog 137 = 48 := by kernel_rfl
theorem tby_194 : tby Tryz.prog 194 = 56 := by kernel_rfl
theorem tby_231 : tby Tryz.prog 231 = 80 := by kernel_rfl
theorem tby_258 : tby Tryz.prog 258 = 32 := by kernel_rfl
theorem tzero_3 : tzero Tryz.prog 3 = some [.v (.int .i64 0)] := by kernel_rfl
theorem tzero_4 : tzero Tryz.prog 4 = some [.v (.bool false)] := by kernel_rfl
theorem tzero_23 : tzero Tryz.prog 23 = some [.v (.slice none 0 0)] := by kernel_rfl
theorem tzero_25 : tzero Tryz.prog 25 = some [.v (.slice none 0 0), .v (.slice none 0 0), .v (.slice none 0 0), .v (.slice none 0 0), .v (.int .i64 0), .v (.int .i64 0)] := by kernel_rfl
theorem tzero_26 : tzero Tryz.prog 26 = some [.v (.slice none 0 0)] := by kernel_rfl
theorem tzero_30 : tzero Tryz.prog 30 = some [.v (.int .i64 0)] := by kernel_rfl
theorem tzero_34 : tzero Tryz.prog 34 = some [.v (.slice none 0 0), .v (.slice none 0 0), .v (.slice none 0 0), .v (.slice none 0 0), .v (.int .i64 0), .v (.int .i64 0), .v (.slice none 0 0), .v (.int .i64 0), .v (.int .i64 0)] := by kernel_rfl
theorem tzero_45 : tzero Tryz.prog 45 = some [.v (.int .i64 0), .v (.int .i64 0)] := by kernel_rfl
theorem tzero_51 : tzero Tryz.prog 51 = some [.v (.slice none 0 0), .v (.int .i64 0)] := by kernel_rfl
theorem tzero_56 : tzero Tryz.prog 56 = some [.v (.slice none 0 0), .v (.slice none 0 0), .v (.int .i64 0)] := by kernel_rfl
theorem tzero_64 : tzero Tryz.prog 64 = some [.v (.int .i64 0), .v (.slice none 0 0)] := by kernel_rfl
theorem tzero_68 : tzero Tryz.prog 68 = some [.v (.slice none 0 0), .v (.slice none 0 0), .v (.int .i64 0)] := by kernel_rfl
theorem tzero_83 : tzero Tryz.prog 83 = some [.v (.int .i64 0), .v (.int .i64 0)] := by kernel_rfl
theorem tzero_84 : tzero Tryz.prog 84 = some [.v (.slice none 0 0)] := by kernel_rfl
theorem tzero_89 : tzero Tryz.prog 89 = some [.v (.int .i64 0), .v (.int .i64 0), .v (.int .i64 0), .v (.int .i64 0), .v (.int .i64 0), .v (.bool false), .v (.slice none 0 0), .v (.int .i64 0), .v (.string ⟨#[]⟩), .v (.slice none 0 0)] := by kernel_rfl
theorem tzero_100 : tzero Tryz.prog 100 = some [.v (.slice none 0 0)] := by kernel_rfl
theorem tzero_102 : tzero Tryz.prog 102 = some [.v (.slice none 0 0), .v (.slice none 0 0)] := by kernel_rfl
theorem tzero_114 : tzero Tryz.prog 114 = some [.v (.int .i64 0), .v (.int .i64 0)] := by kernel_rfl
theorem tzero_117 : tzero Tryz.prog 117 = some [.v (.slice none 0 0), .v (.int .i64 0)] := by kernel_rfl
theorem tzero_127 : tzero Tryz.prog 127 = some [.v (.pointer none)] := by kernel_rfl
theorem tzero_134 : tzero Tryz.prog 134 = some [.v (.slice none 0 0), .v (.int .i64 0)] := by kernel_rfl
theorem tzero_137 : tzero Tryz.prog 137 = some [.v (.int .i64 0), .v (.int .i64 0), .v (.slice none 0 0), .v (.bool false)] := by kernel_rfl
theorem tzero_140 : tzero Tryz.prog 140 = some [.v (.slice none 0 0), .v (.slice none 0 0), .v (.slice none 0 0), .v (.slice none 0 0), .v (.int .i64 0), .v (.int .i64 0), .v (.slice none 0 0), .v (.int .i64 0), .v (.slice none 0 0), .v (.slice none 0 0), .v (.slice none 0 0)] := by kernel_rfl
theorem tzero_151 : tzero Tryz.prog 151 = some [.v (.slice none 0 0), .v (.slice none 0 0), .v (.slice none 0 0), .v (.slice none 0 0), .v (.int .i64 0), .v (.int .i64 0), .v (.int .i64 0), .v (.slice none 0 0), .v (.slice none 0 0)] := by kernel_rfl
theorem tzero_154 : tzero Tryz.prog 154 = some [.v (.nilFunc)] := by kernel_rfl
theorem tzero_155 : tzero Tryz.prog 155 = some [.v (.nilFunc), .v (.nilFunc), .v (.nilFunc), .v (.nilFunc)] := by kernel_rfl
theorem tzero_158 : tzero Tryz.prog 158 = some [.v (.slice none 0 0), .v (.slice none 0 0), .v (.slice none 0 0), .v (.slice none 0 0), .v (.int .i64 0), .v (.int .i64 0), .v (.slice none 0 0), .v (.int .i64 0), .v (.slice none 0 0), .v (.slice none 0 0)] := by kernel_rfl
theorem tzero_166 : tzero Tryz.prog 166 = some [.v (.int .i64 0)] := by kernel_rfl
theorem tzero_194 : tzero Tryz.prog 194 = some [.v (.int .i64 0), .v (.slice none 0 0), .v (.slice none 0 0)] := by kernel_rfl
theorem tzero_197 : tzero Tryz.prog 197 = some [.v (.slice none 0 0), .v (.int .i64 0)] := by kernel_rfl
theorem tzero_229 : tzero Tryz.prog 229 = some [.v (.int .u8 0), .v (.int .u8 0), .v (.int .u8 0), .v (.int .u8 0), .v (.int .u8 0), .v (.int .u8 0), .v (.int .u8 0), .v (.int .u8 0), .v (.int .u8 0), .v (.int .u8 0), .v (.int .u8 0), .v (.int .u8 0), .v (.int .u8 0), .v (.int .u8 0), .v (.int .u8 0), .v (.int .u8 0)] := by kernel_rfl
theorem tzero_231 : tzero Tryz.prog 231 = some [.v (.string ⟨#[]⟩), .v (.string ⟨#[]⟩), .v (.int .i64 0), .v (.int .i64 0), .v (.int .i64 0), .v (.int .i64 0), .v (.int .u8 0), .v (.int .u8 0), .v (.int .u8 0), .v (.int .u8 0), .v (.int .u8 0), .v (.int .u8 0), .v (.int .u8 0), .v (.int .u8 0), .v (.int .u8 0), .v (.int .u8 0), .v (.int .u8 0), .v (.int .u8 0), .v (.int .u8 0), .v (.int .u8 0), .v (.int .u8 0), .v (.int .u8 0)] := by kernel_rfl
theorem tzero_232 : tzero Tryz.prog 232 = some [.v (.int .u64 0)] := by kernel_rfl
theorem tzero_243 : tzero Tryz.prog 243 = some [.v (.slice none 0 0), .v (.slice none 0 0), .v (.slice none 0 0), .v (.slice none 0 0), .v (.int .i64 0), .v (.int .i64 0)] := by kernel_rfl
theorem tzero_254 : tzero Tryz.prog 254 = some [.v (.int .i64 0)] := by kernel_rfl
theorem tzero_258 : tzero Tryz.prog 258 = some [.v (.int .i64 0), .v (.int .i64 0), .v (.int .u8 0), .v (.int .u8 0), .v (.int .u8 0), .v (.int .u8 0), .v (.int .u8 0), .v (.int .u8 0), .v (.int .u8 0), .v (.int .u8 0), .v (.int .u8 0), .v (.int .u8 0), .v (.int .u8 0), .v (.int .u8 0), .v (.int .u8 0), .v (.int .u8 0), .v (.int .u8 0), .v (.int .u8 0)] := by kernel_rfl
theorem info_3 : (Tryz.prog.info? 3).isSome = true := by kernel_rfl
theorem info_4 : (Tryz.prog.info? 4).isSome = true := by kernel_rfl
theorem info_9 : (Tryz.prog.info? 9).isSome = true := by kernel_rfl
theorem info_22 : (Tryz.prog.info? 22).isSome = true := by kernel_rfl
theorem info_23 : (Tryz.prog.info? 23).isSome = true := by kernel_rfl
theorem info_25 : (Tryz.prog.info? 25).isSome = true := by kernel_rfl
theorem info_26 : (Tryz.prog.info? 26).isSome = true := by kernel_rfl
theorem info_30 : (Tryz.prog.info? 30).isSome = true := by kernel_rfl
theorem info_34 : (Tryz.prog.info? 34).isSome = true := by kernel_rfl
theorem info_45 : (Tryz.prog.info? 45).isSome = true := by kernel_rfl
theorem info_51 : (Tryz.prog.info? 51).isSome = true := by kernel_rfl
theorem info_56 : (Tryz.prog.info? 56).isSome = true := by kernel_rfl
theorem info_64 : (Tryz.prog.info? 64).isSome = true := by kernel_rfl
theorem info_68 : (Tryz.prog.info? 68).isSome = true := by kernel_rfl
theorem info_83 : (Tryz.prog.info? 83).isSome = true := by kernel_rfl
theorem info_84 : (Tryz.prog.info? 84).isSome = true := by kernel_rfl
theorem info_87 : (Tryz.prog.info? 87).isSome = true := by kernel_rfl
theorem info_89 : (Tryz.prog.info? 89).isSome = true := by kernel_rfl
theorem info_114 : (Tryz.prog.info? 114).isSome = true := by kernel_rfl
theorem info_117 : (Tryz.prog.info? 117).isSome = true := by kernel_rfl
theorem info_127 : (Tryz.prog.info? 127).isSome = true := by kernel_rfl
theorem info_134 : (Tryz.prog.info? 134).isSome = true := by kernel_rfl
theorem info_137 : (Tryz.prog.info? 137).isSome = true := by kernel_rfl
theorem info_138 : (Tryz.prog.info? 138).isSome = true := by kernel_rfl
theorem info_140 : (Tryz.prog.info? 140).isSome = true := by kernel_rfl
theorem info_152 : (Tryz.prog.info? 152).isSome = true := by kernel_rfl
theorem info_154 : (Tryz.prog.info? 154).isSome = true := by kernel_rfl
theorem info_155 : (Tryz.prog.info? 155).isSome = true := by kernel_rfl
theorem info_158 : (Tryz.prog.info? 158).isSome = true := by kernel_rfl
theorem info_166 : (Tryz.prog.info? 166).isSome = true := by kernel_rfl
theorem info_184 : (Tryz.prog.info? 184).isSome = true := by kernel_rfl
theorem info_194 : (Tryz.prog.info? 194).isSome = true := by kernel_rfl
theorem info_197 : (Tryz.prog.info? 197).isSome = true := by kernel_rfl
theorem info_208 : (Tryz.prog.info? 208).isSome = true := by kernel_rfl
theorem info_215 : (Tryz.prog.info? 215).isSome = true := by kernel_rfl
theorem info_217 : (Tryz.prog.info? 217).isSome = true := by kernel_rfl
theorem info_229 : (Tryz.prog.info? 229).isSome = true := by kernel_rfl
theorem info_231 : (Tryz.prog.info? 231).isSome = true := by kernel_rfl
theorem info_232 : (Tryz.prog.info? 232).isSome = true := by kernel_rfl
theorem info_254 : (Tryz.prog.info? 254).isSome = true := by kernel_rfl
theorem info_258 : (Tryz.prog.info? 258).isSome = true := by kernel_rfl
theorem info_270 : (Tryz.prog.info? 270).isSome = true := by kernel_rfl
theorem tfo_25_0 : tfo Tryz.prog 25 0 = some 0 := by kernel_rfl
theorem tfo_25_1 : tfo Tryz.prog 25 1 = some 1 := by kernel_rfl
theorem tfo_25_2 : tfo Tryz.prog 25 2 = some 2 := by kernel_rfl
theorem tfo_25_3 : tfo Tryz.prog 25 3 = some 3 := by kernel_rfl
theorem tfo_25_4 : tfo Tryz.prog 25 4 = some 4 := by kernel_rfl
theorem tfo_25_5 : tfo Tryz.prog 25 5 = some 5 := by kernel_rfl
theorem tfo_34_0 : tfo Tryz.prog 34 0 = some 0 := by kernel_rfl
theorem tfo_34_1 : tfo Tryz.prog 34 1 = some 6 := by kernel_rfl
theorem tfo_34_2 : tfo Tryz.prog 34 2 = some 7 := by kernel_rfl
theorem tfo_34_3 : tfo Tryz.prog 34 3 = some 8 := by kernel_rfl
theorem tfo_45_0 : tfo Tryz.prog 45 0 = some 0 := by kernel_rfl
theorem tfo_45_1 : tfo Tryz.prog 45 1 = some 1 := by kernel_rfl
theorem tfo_51_0 : tfo Tryz.prog 51 0 = some 0 := by kernel_rfl
theorem tfo_51_1 : tfo Tryz.prog 51 1 = some 1 := by kernel_rfl
theorem tfo_56_0 : tfo Tryz.prog 56 0 = some 0 := by kernel_rfl
theorem tfo_56_1 : tfo Tryz.prog 56 1 = some 1 := by kernel_rfl
theorem tfo_56_2 : tfo Tryz.prog 56 2 = some 2 := by kernel_rfl
theorem tfo_64_0 : tfo Tryz.prog 64 0 = some 0 := by kernel_rfl
theorem tfo_64_1 : tfo Tryz.prog 64 1 = some 1 := by kernel_rfl
theorem tfo_68_0 : tfo Tryz.prog 68 0 = some 0 := by kernel_rfl
theorem tfo_68_1 : tfo Tryz.prog 68 1 = some 1 := by kernel_rfl
theorem tfo_68_2 : tfo Tryz.prog 68 2 = some 2 := by kernel_rfl
theorem tfo_83_0 : tfo Tryz.prog 83 0 = some 0 := by kernel_rfl
theorem tfo_83_1 : tfo Tryz.prog 83 1 = some 1 := by kernel_rfl
theorem tfo_89_0 : tfo Tryz.prog 89 0 = some 0 := by kernel_rfl
theorem tfo_89_1 : tfo Tryz.prog 89 1 = some 1 := by kernel_rfl
theorem tfo_89_2 : tfo Tryz.prog 89 2 = some 2 := by kernel_rfl
theorem tfo_89_3 : tfo Tryz.prog 89 3 = some 3 := by kernel_rfl
theorem tfo_89_4 : tfo Tryz.prog 89 4 = some 4 := by kernel_rfl
theorem tfo_89_5 : tfo Tryz.prog 89 5 = some 5 := by kernel_rfl
theorem tfo_89_6 : tfo Tryz.prog 89 6 = some 6 := by kernel_rfl
theorem tfo_89_7 : tfo Tryz.prog 89 7 = some 7 := by kernel_rfl
theorem tfo_89_8 : tfo Tryz.prog 89 8 = some 8 := by kernel_rfl
theorem tfo_89_9 : tfo Tryz.prog 89 9 = some 9 := by kernel_rfl
theorem tfo_100_0 : tfo Tryz.prog 100 0 = some 0 := by kernel_rfl
theorem tfo_102_0 : tfo Tryz.prog 102 0 = some 0 := by kernel_rfl
theorem tfo_102_1 : tfo Tryz.prog 102 1 = some 1 := by kernel_rfl
theorem tfo_117_0 : tfo Tryz.prog 117 0 = some 0 := by kernel_rfl
theorem tfo_117_1 : tfo Tryz.prog 117 1 = some 1 := by kernel_rfl
theorem tfo_134_0 : tfo Tryz.prog 134 0 = some 0 := by kernel_rfl
theorem tfo_134_1 : tfo Tryz.prog 134 1 = some 1 := by kernel_rfl
theorem tfo_137_0 : tfo Tryz.prog 137 0 = some 0 := by kernel_rfl
theorem tfo_137_1 : tfo Tryz.prog 137 1 = some 1 := by kernel_rfl
theorem tfo_137_2 : tfo Tryz.prog 137 2 = some 2 := by kernel_rfl
theorem tfo_137_3 : tfo Tryz.prog 137 3 = some 3 := by kernel_rfl
theorem tfo_140_0 : tfo Tryz.prog 140 0 = some 0 := by kernel_rfl
theorem tfo_140_1 : tfo Tryz.prog 140 1 = some 6 := by kernel_rfl
theorem tfo_140_2 : tfo Tryz.prog 140 2 = some 7 := by kernel_rfl
theorem tfo_140_3 : tfo Tryz.prog 140 3 = some 8 := by kernel_rfl
theorem tfo_140_4 : tfo Tryz.prog 140 4 = some 9 := by kernel_rfl
theorem tfo_140_5 : tfo Tryz.prog 140 5 = some 10 := by kernel_rfl
theorem tfo_151_0 : tfo Tryz.prog 151 0 = some 0 := by kernel_rfl
theorem tfo_151_1 : tfo Tryz.prog 151 1 = some 6 := by kernel_rfl
theorem tfo_151_2 : tfo Tryz.prog 151 2 = some 7 := by kernel_rfl
theorem tfo_151_3 : tfo Tryz.prog 151 3 = some 8 := by kernel_rfl
theorem tfo_154_0 : tfo Tryz.prog 154 0 = some 0 := by kernel_rfl
theorem tfo_158_0 : tfo Tryz.prog 158 0 = some 0 := by kernel_rfl
theorem tfo_158_1 : tfo Tryz.prog 158 1 = some 6 := by kernel_rfl
theorem tfo_158_2 : tfo Tryz.prog 158 2 = some 7 := by kernel_rfl
theorem tfo_158_3 : tfo Tryz.prog 158 3 = some 8 := by kernel_rfl
theorem tfo_158_4 : tfo Tryz.prog 158 4 = some 9 := by kernel_rfl
theorem tfo_166_0 : tfo Tryz.prog 166 0 = some 0 := by kernel_rfl
theorem tfo_194_0 : tfo Tryz.prog 194 0 = some 0 := by kernel_rfl
theorem tfo_194_1 : tfo Tryz.prog 194 1 = some 1 := by kernel_rfl
theorem tfo_194_2 : tfo Tryz.prog 194 2 = some 2 := by kernel_rfl
theorem tfo_231_0 : tfo Tryz.prog 231 0 = some 0 := by kernel_rfl
theorem tfo_231_1 : tfo Tryz.prog 231 1 = some 1 := by kernel_rfl
theorem tfo_231_2 : tfo Tryz.prog 231 2 = some 2 := by kernel_rfl
theorem tfo_231_3 : tfo Tryz.prog 231 3 = some 3 := by kernel_rfl
theorem tfo_231_4 : tfo Tryz.prog 231 4 = some 4 := by kernel_rfl
theorem tfo_231_5 : tfo Tryz.prog 231 5 = some 5 := by kernel_rfl
theorem tfo_231_6 : tfo Tryz.prog 231 6 = some 6 := by kernel_rfl
theorem tfo_243_0 : tfo Tryz.prog 243 0 = some 0 := by kernel_rfl
theorem tfo_254_0 : tfo Tryz.prog 254 0 = some 0 := by kernel_rfl
theorem tfo_258_0 : tfo Tryz.prog 258 0 = some 0 := by kernel_rfl
theorem tfo_258_1 : tfo Tryz.prog 258 1 = some 1 := by kernel_rfl
theorem tpl_25_0 : tpl Tryz.prog 25 0 = some (0, 1) := by kernel_rfl
theorem tpl_25_1 : tpl Tryz.prog 25 1 = some (1, 1) := by kernel_rfl
theorem tpl_25_3 : tpl Tryz.prog 25 3 = some (3, 1) := by kernel_rfl
theorem tpl_25_4 : tpl Tryz.prog 25 4 = some (4, 1) := by kernel_rfl
theorem tpl_25_5 : tpl Tryz.prog 25 5 = some (5, 1) := by kernel_rfl
theorem tpl_34_0 : tpl Tryz.prog 34 0 = some (0, 6) := by kernel_rfl
theorem tpl_34_1 : tpl Tryz.prog 34 1 = some (6, 1) := by kernel_rfl
theorem tpl_34_3 : tpl Tryz.prog 34 3 = some (8, 1) := by kernel_rfl
theorem tpl_45_0 : tpl Tryz.prog 45 0 = some (0, 1) := by kernel_rfl
theorem tpl_45_1 : tpl Tryz.prog 45 1 = some (1, 1) := by kernel_rfl
theorem tpl_51_0 : tpl Tryz.prog 51 0 = some (0, 1) := by kernel_rfl
theorem tpl_51_1 : tpl Tryz.prog 51 1 = some (1, 1) := by kernel_rfl
theorem tpl_56_2 : tpl Tryz.prog 56 2 = some (2, 1) := by kernel_rfl
theorem tpl_64_0 : tpl Tryz.prog 64 0 = some (0, 1) := by kernel_rfl
theorem tpl_64_1 : tpl Tryz.prog 64 1 = some (1, 1) := by kernel_rfl
theorem tpl_68_2 : tpl Tryz.prog 68 2 = some (2, 1) := by kernel_rfl
theorem tpl_83_0 : tpl Tryz.prog 83 0 = some (0, 1) := by kernel_rfl
theorem tpl_83_1 : tpl Tryz.prog 83 1 = some (1, 1) := by kernel_rfl
theorem tpl_89_0 : tpl Tryz.prog 89 0 = some (0, 1) := by kernel_rfl
theorem tpl_89_1 : tpl Tryz.prog 89 1 = some (1, 1) := by kernel_rfl
theorem tpl_89_2 : tpl Tryz.prog 89 2 = some (2, 1) := by kernel_rfl
theorem tpl_89_8 : tpl Tryz.prog 89 8 = some (8, 1) := by kernel_rfl
theorem tpl_100_0 : tpl Tryz.prog 100 0 = some (0, 1) := by kernel_rfl
theorem tpl_102_0 : tpl Tryz.prog 102 0 = some (0, 1) := by kernel_rfl
theorem tpl_102_1 : tpl Tryz.prog 102 1 = some (1, 1) := by kernel_rfl
theorem tpl_114_0 : tpl Tryz.prog 114 0 = some (0, 1) := by kernel_rfl
theorem tpl_114_1 : tpl Tryz.prog 114 1 = some (1, 1) := by kernel_rfl
theorem tpl_117_0 : tpl Tryz.prog 117 0 = some (0, 1) := by kernel_rfl
theorem tpl_117_1 : tpl Tryz.prog 117 1 = some (1, 1) := by kernel_rfl
theorem tpl_134_0 : tpl Tryz.prog 134 0 = some (0, 1) := by kernel_rfl
theorem tpl_134_1 : tpl Tryz.prog 134 1 = some (1, 1) := by kernel_rfl
theorem tpl_140_0 : tpl Tryz.prog 140 0 = some (0, 6) := by kernel_rfl
theorem tpl_140_1 : tpl Tryz.prog 140 1 = some (6, 1) := by kernel_rfl
theorem tpl_140_2 : tpl Tryz.prog 140 2 = some (7, 1) := by kernel_rfl
theorem tpl_140_3 : tpl Tryz.prog 140 3 = some (8, 1) := by kernel_rfl
theorem tpl_140_4 : tpl Tryz.prog 140 4 = some (9, 1) := by kernel_rfl
theorem tpl_140_5 : tpl Tryz.prog 140 5 = some (10, 1) := by kernel_rfl
theorem tpl_154_0 : tpl Tryz.prog 154 0 = some (0, 1) := by kernel_rfl
theorem tpl_155_1 : tpl Tryz.prog 155 1 = some (1, 1) := by kernel_rfl
theorem tpl_155_2 : tpl Tryz.prog 155 2 = some (2, 1) := by kernel_rfl
theorem tpl_155_3 : tpl Tryz.prog 155 3 = some (3, 1) := by kernel_rfl
theorem tpl_158_0 : tpl Tryz.prog 158 0 = some (0, 6) := by kernel_rfl
theorem tpl_158_1 : tpl Tryz.prog 158 1 = some (6, 1) := by kernel_rfl
theorem tpl_158_2 : tpl Tryz.prog 158 2 = some (7, 1) := by kernel_rfl
theorem tpl_158_3 : tpl Tryz.prog 158 3 = some (8, 1) := by kernel_rfl
theorem tpl_158_4 : tpl Tryz.prog 158 4 = some (9, 1) := by kernel_rfl
theorem tpl_166_0 : tpl Tryz.prog 166 0 = some (0, 1) := by kernel_rfl
theorem tpl_194_0 : tpl Tryz.prog 194 0 = some (0, 1) := by kernel_rfl
theorem tpl_194_1 : tpl Tryz.prog 194 1 = some (1, 1) := by kernel_rfl
theorem tpl_194_2 : tpl Tryz.prog 194 2 = some (2, 1) := by kernel_rfl
theorem tpl_197_0 : tpl Tryz.prog 197 0 = some (0, 1) := by kernel_rfl
theorem tpl_197_1 : tpl Tryz.prog 197 1 = some (1, 1) := by kernel_rfl
theorem tpl_243_0 : tpl Tryz.prog 243 0 = some (0, 6) := by kernel_rfl
theorem tpl_254_0 : tpl Tryz.prog 254 0 = some (0, 1) := by kernel_rfl
theorem tfa_114_0 : tfa Tryz.prog 114 0 = some false := by kernel_rfl
theorem tfa_197_0 : tfa Tryz.prog 197 0 = some false := by kernel_rfl
theorem tplOk_25 : tplOk Tryz.prog 25 = true := by kernel_rfl
theorem tplOk_34 : tplOk Tryz.prog 34 = true := by kernel_rfl
theorem tplOk_45 : tplOk Tryz.prog 45 = true := by kernel_rfl
theorem tplOk_51 : tplOk Tryz.prog 51 = true := by kernel_rfl
theorem tplOk_56 : tplOk Tryz.prog 56 = true := by kernel_rfl
theorem tplOk_64 : tplOk Tryz.prog 64 = true := by kernel_rfl
theorem tplOk_68 : tplOk Tryz.prog 68 = true := by kernel_rfl
theorem tplOk_83 : tplOk Tryz.prog 83 = true := by kernel_rfl
theorem tplOk_89 : tplOk Tryz.prog 89 = true := by kernel_rfl
theorem tplOk_100 : tplOk Tryz.prog 100 = true := by kernel_rfl
theorem tplOk_102 : tplOk Tryz.prog 102 = true := by kernel_rfl
theorem tplOk_114 : tplOk Tryz.prog 114 = true := by kernel_rfl
theorem tplOk_117 : tplOk Tryz.prog 117 = true := by kernel_rfl
theorem tplOk_129 : tplOk Tryz.prog 129 = true := by kernel_rfl
theorem tplOk_134 : tplOk Tryz.prog 134 = true := by kernel_rfl
theorem tplOk_140 : tplOk Tryz.prog 140 = true := by kernel_rfl
theorem tplOk_151 : tplOk Tryz.prog 151 = true := by kernel_rfl
theorem tplOk_154 : tplOk Tryz.prog 154 = true := by kernel_rfl
theorem tplOk_155 : tplOk Tryz.prog 155 = true := by kernel_rfl
theorem tplOk_158 : tplOk Tryz.prog 158 = true := by kernel_rfl
theorem tplOk_166 : tplOk Tryz.prog 166 = true := by kernel_rfl
theorem tplOk_194 : tplOk Tryz.prog 194 = true := by kernel_rfl
theorem tplOk_197 : tplOk Tryz.prog 197 = true := by kernel_rfl
theorem tplOk_243 : tplOk Tryz.prog 243 = true := by kernel_rfl
theorem tplOk_254 : tplOk Tryz.prog 254 = true := by kernel_rfl
theorem tplOk_258 : tplOk Tryz.prog 258 = true := by kernel_rfl
theorem tifc_9 : tifc Tryz.prog 9 = some false := by kernel_rfl
theorem tifc_20 : tifc Tryz.prog 20 = some true := by kernel_rfl
theorem tifc_166 : tifc Tryz.prog 166 = some false := by kernel_rfl
theorem tifc_254 : tifc Tryz.prog 254 = some false := by kernel_rfl
theorem tbool_4 : tbool Tryz.prog 4 = true := by kernel_rfl
theorem tint_3 : tint Tryz.prog 3 = some .i64 := by kernel_rfl
theorem tint_5 : tint Tryz.prog 5 = some .u8 := by kernel_rfl
theorem tint_184 : tint Tryz.prog 184 = some .u64 := by kernel_rfl
theorem tint_215 : tint Tryz.prog 215 = some .u32 := by kernel_rfl
theorem tint_217 : tint Tryz.prog 217 = some .u64 := by kernel_rfl
theorem tint_232 : tint Tryz.prog 232 = some .u64 := by kernel_rfl
theorem tzero_129 : tzero Tryz.prog 129 = some (reps 4096 (.v (.bool false))) := by kernel_rfl
attribute [go_sem] tsz_3 tsz_4 tsz_9 tsz_22 tsz_23 tsz_25 tsz_26 tsz_30 tsz_34 tsz_45 tsz_51 tsz_56 tsz_64 tsz_68 tsz_83 tsz_84 tsz_87 tsz_89 tsz_114 tsz_117 tsz_127 tsz_134 tsz_137 tsz_138 tsz_140 tsz_152 tsz_154 tsz_155 tsz_158 tsz_166 tsz_194 tsz_197 tsz_229 tsz_231 tsz_232 tsz_254 tsz_258 tagg_3 tagg_4 tagg_9
attribute [go_sem] tagg_22 tagg_23 tagg_25 tagg_26 tagg_30 tagg_34 tagg_45 tagg_51 tagg_56 tagg_64 tagg_68 tagg_83 tagg_84 tagg_87 tagg_89 tagg_114 tagg_117 tagg_127 tagg_134 tagg_137 tagg_138 tagg_140 tagg_152 tagg_155 tagg_158 tagg_166 tagg_197 tagg_229 tagg_231 tagg_232 tagg_254 tagg_258 tel_9 tel_22 tel_23 tel_26 tel_74 tel_84 tel_87 tel_90
attribute [go_sem] tel_123 tel_129 tel_138 tel_155 tel_205 tel_255 tarr_129 tarr_155 tstr_9 tby_3 tby_4 tby_23 tby_26 tby_64 tby_83 tby_89 tby_137 tby_194 tby_231 tby_258 tzero_3 tzero_4 tzero_23 tzero_25 tzero_26 tzero_30 tzero_34 tzero_45 tzero_51 tzero_56 tzero_64 tzero_68 tzero_83 tzero_84 tzero_89 tzero_100 tzero_102 tzero_114 tzero_117 tzero_127
attribute [go_sem] tzero_134 tzero_137 tzero_140 tzero_151 tzero_154 tzero_155 tzero_158 tzero_166 tzero_194 tzero_197 tzero_229 tzero_231 tzero_232 tzero_243 tzero_254 tzero_258 info_3 info_4 info_9 info_22 info_23 info_25 info_26 info_30 info_34 info_45 info_51 info_56 info_64 info_68 info_83 info_84 info_87 info_89 info_114 info_117 info_127 info_134 info_137 info_138
attribute [go_sem] info_140 info_152 info_154 info_155 info_158 info_166 info_184 info_194 info_197 info_208 info_215 info_217 info_229 info_231 info_232 info_254 info_258 info_270 tfo_25_0 tfo_25_1 tfo_25_2 tfo_25_3 tfo_25_4 tfo_25_5 tfo_34_0 tfo_34_1 tfo_34_2 tfo_34_3 tfo_45_0 tfo_45_1 tfo_51_0 tfo_51_1 tfo_56_0 tfo_56_1 tfo_56_2 tfo_64_0 tfo_64_1 tfo_68_0 tfo_68_1 tfo_68_2
attribute [go_sem] tfo_83_0 tfo_83_1 tfo_89_0 tfo_89_1 tfo_89_2 tfo_89_3 tfo_89_4 tfo_89_5 tfo_89_6 tfo_89_7 tfo_89_8 tfo_89_9 tfo_100_0 tfo_102_0 tfo_102_1 tfo_117_0 tfo_117_1 tfo_134_0 tfo_134_1 tfo_137_0 tfo_137_1 tfo_137_2 tfo_137_3 tfo_140_0 tfo_140_1 tfo_140_2 tfo_140_3 tfo_140_4 tfo_140_5 tfo_151_0 tfo_151_1 tfo_151_2 tfo_151_3 tfo_154_0 tfo_158_0 tfo_158_1 tfo_158_2 tfo_158_3 tfo_158_4 tfo_166_0
attribute [go_sem] tfo_194_0 tfo_194_1 tfo_194_2 tfo_231_0 tfo_231_1 tfo_231_2 tfo_231_3 tfo_231_4 tfo_231_5 tfo_231_6 tfo_243_0 tfo_254_0 tfo_258_0 tfo_258_1 tpl_25_0 tpl_25_1 tpl_25_3 tpl_25_4 tpl_25_5 tpl_34_0 tpl_34_1 tpl_34_3 tpl_45_0 tpl_45_1 tpl_51_0 tpl_51_1 tpl_56_2 tpl_64_0 tpl_64_1 tpl_68_2 tpl_83_0 tpl_83_1 tpl_89_0 tpl_89_1 tpl_89_2 tpl_89_8 tpl_100_0 tpl_102_0 tpl_102_1 tpl_114_0
attribute [go_sem] tpl_114_1 tpl_117_0 tpl_117_1 tpl_134_0 tpl_134_1 tpl_140_0 tpl_140_1 tpl_140_2 tpl_140_3 tpl_140_4 tpl_140_5 tpl_154_0 tpl_155_1 tpl_155_2 tpl_155_3 tpl_158_0 tpl_158_1 tpl_158_2 tpl_158_3 tpl_158_4 tpl_166_0 tpl_194_0 tpl_194_1 tpl_194_2 tpl_197_0 tpl_197_1 tpl_243_0 tpl_254_0 tfa_114_0 tfa_197_0 tplOk_25 tplOk_34 tplOk_45 tplOk_51 tplOk_56 tplOk_64 tplOk_68 tplOk_83 tplOk_89 tplOk_100
attribute [go_sem] tplOk_102 tplOk_114 tplOk_117 tplOk_129 tplOk_134 tplOk_140 tplOk_151 tplOk_154 tplOk_155 tplOk_158 tplOk_166 tplOk_194 tplOk_197 tplOk_243 tplOk_254 tplOk_258 tifc_9 tifc_20 tifc_166 tifc_254 tbool_4 tint_3 tint_5 tint_184 tint_215 tint_217 tint_232 tzero_129
end Go.Proofs.YtpmknffollpnaaaGreat
namespace Go.Proofs.YtpmknffollpnaaaGreat
open Go Go.VS
abbrev I (n : Int) : C := .v (.int .i64 n)
abbrev Bo (b : Bool) : C := .v (.bool b)
structure Fr where
  v : Int
  p : List Int
  deriving DecidableEq
def frC (f : Fr) : List C := [I f.v, .li none (intsE f.p)]
def frsE (l : List Fr) : List (List C) := l.map frC
abbrev LI (l : List Int) : C := .li none (intsE l)
abbrev LF (l : List Fr) : C := .li none (frsE l)
/-- What a failure's panic hands on. -/
def fail (e : Int) : List PanicEntry := [{ v := .iface 166 (.agg #[.int .i64 e]), recovered := false }]

theorem need_c (b : Bool) (e : Int) (s : St) : CallC Tryz.prog 45 [Bo b, I e] s (fun _ s' => b = true ∧ s' = s) (fun ch s' => b = false ∧ ch = fail e ∧ s' = s) := by
  refine CallC_of Tryz.func45 rfl (by rfl) Tryz.ntmps45 (by simp) ?_
  refine W_seq (W_reg ?_)
  simp [go_sem]
  cases b
  · refine W_ifs true (by simp [go_sem]) (fun _ => W_reg ?_) (fun h => by cases h)
    simp [go_sem]
    refine WL_panic (t := 166) (u := .agg #[.int .i64 e]) (by simp [go_sem]) ?_
    simp only [go_sem]
    exact ⟨trivial, s, Sub.refl _, by simp [fail]⟩
  · refine W_ifs false (by simp [go_sem]) (fun h => by cases h) (fun _ => W_skip ?_)
    simp only [go_sem]
    exact ⟨trivial, _, rfl, s, Sub.refl _, by simp⟩
theorem must_c (e : Int) (s : St) : CallC Tryz.prog 53 [I e] s (fun _ s' => e = 0 ∧ s' = s) (fun ch s' => e ≠ 0 ∧ ch = fail e ∧ s' = s) := by
  refine CallC_of Tryz.func53 rfl (by rfl) Tryz.ntmps53 (by simp) ?_
  refine W_seq (W_reg ?_)
  simp [go_sem]
  by_cases he : e = 0
  · refine W_ifs false (by simp [go_sem, he]) (fun h => by cases h) (fun _ => W_skip ?_)
    simp only [go_sem]
    exact ⟨trivial, _, rfl, s, Sub.refl _, by simp [he]⟩
  · refine W_ifs true (by simp [go_sem, he]) (fun _ => W_reg ?_) (fun h => by cases h)
    simp [go_sem]
    refine WL_panic (t := 166) (u := .agg #[.int .i64 e]) (by simp [go_sem]) ?_
    simp only [go_sem]
    exact ⟨trivial, s, Sub.refl _, by simp [he, fail]⟩
theorem within_c (n lo hi : Int) : Pure Tryz.prog 46 [I n, I lo, I hi] (Bo (decide (lo ≤ n) && decide (n ≤ hi))) := by
  intro s
  refine CallC_of Tryz.func46 rfl (by rfl) Tryz.ntmps46 (by simp) ?_
  by_cases h1 : lo ≤ n
  all_goals
    refine W_seq (W_reg ?_)
    simp [go_sem]
    refine W_seq (W_reg ?_)
    simp [go_sem, h1]
    refine W_ret ?_
    simp only [go_sem]
    exact ⟨trivial, _, rfl, _, Sub.refl _, by simp, rfl⟩
/-- A number that has been seen. -/
theorem add_c (b : Nat) (bs : List Bool) (n : Int) (s : St) (hb : VS.look s.objs b = some (bs.map Bo)) (hl : bs.length = 4096) (h0 : 0 ≤ n) (h1 : n < 4096) :
    CallC Tryz.prog 72 [.v (.pointer (some ⟨b, 0, none⟩)), I n] s (fun c s' => c = Bo (!(bs.getD n.toNat false)) ∧ s' = { s with objs := putAt s.objs b ((bs.set n.toNat true).map Bo) }) (fun _ _ => False) := by
  refine CallC_of Tryz.func72 rfl (by rfl) Tryz.ntmps72 (by simp) ?_
  have hn : n.toNat < bs.length := by omega
  have hn' : n ≤ 4095 := by omega
  refine W_seq (W_reg ?_)
  simp [go_sem]
  refine W_seq (W_reg ?_)
  simp [go_sem, h0, h1, hb, hn]
  refine W_seq (W_reg ?_)
  simp [go_sem, h0, h1, hb, hn, hl, hn']
  refine W_seq (W_reg ?_)
  simp [go_sem]
  refine W_ret ?_
  simp only [go_sem]
  exact ⟨trivial, _, rfl, _, Sub.refl _, by simp [hn], by simp⟩

/-! ### increasing -/
def badI (l : List Int) (pages : Int) (k : Nat) : Bool := !(decide (2 ≤ l.getD k 0) && decide (l.getD k 0 ≤ pages - 1)) || (decide (0 < k) && decide (l.getD (k - 1) 0 ≥ l.getD k 0))
def incr (l : List Int) (pages : Int) : Bool := (List.range l.length).all fun k => !badI l pages k
theorem incr_false {l : List Int} {pages : Int} {k : Nat} (hk : k < l.length) (h : badI l pages k = true) : incr l pages = false := by
  unfold incr
  rw [List.all_eq_false]
  exact ⟨k, by simpa using hk, by simp [h]⟩
theorem incr_true {l : List Int} {pages : Int} (h : ∀ j, j < l.length → badI l pages j = false) : incr l pages = true := by
  unfold incr
  rw [List.all_eq_true]
  intro k hk
  simp [h k (by simpa using hk)]
theorem intsE_get (l : List Int) (i : Nat) : (intsE l)[i]? = (l[i]?).map fun n => [I n] := by simp [intsE]

theorem increasing_c (l : List Int) (pages : Int) (hp : -1000000000 ≤ pages) (hp2 : pages ≤ 1000000000) : Pure Tryz.prog 48 [LI l, I pages] (Bo (incr l pages)) := by
  intro s
  refine CallC_of Tryz.func48 rfl (by rfl) Tryz.ntmps48 (by simp) ?_
  refine W_seq (W_reg ?_)
  simp [go_sem]
  refine W_seq_k fun K hK => W_seq (W_reg ?_)
  simp [go_sem, intsE_length]
  refine W_len 7 (tok := none) (es := intsE l) (by simp [go_sem]) fun hlen => ?_
  rw [intsE_length] at hlen
  refine W_range l.length (fun k l' s' => l' = [(0, LI l), (7, LI l), (1, I pages)] ∧ s' = s ∧ ∀ j, j < k → badI l pages j = false) (ds := []) (l0 := [(0, LI l), (7, LI l), (1, I pages)])
    (by omega) (by decide) ⟨rfl, rfl, fun j hj => by omega⟩ (by simp [go_sem]) rfl (by rintro k _ _ ⟨rfl, _⟩; simp [notIn]) ?_ ?_
  · rintro k _ s1 hk ⟨rfl, rfl, hall⟩
    refine W_seq (W_reg ?_)
    simp [go_sem, intsE_get, hk]
    have hkl : l.getD k 0 = l[k] := by simp [List.getD, hk]
    refine W_seq_k fun K2 hK2 => W_reg ?_
    have key : ∀ E', Has E' [(31, Bo (badI l pages k)), (9, I k), (8, I l.length), (0, LI l), (7, LI l), (1, I pages)] → E'.ds = [] → K2 E' s1 := fun E' h1 h2 => hK2 _ _ (W_keep _ h1 (by
      rw [h2]
      refine W_ifs (badI l pages k) (by simp [go_sem]) (fun h => W_seq (W_reg ?_)) (fun h => W_skip ?_)
      · simp [go_sem]
        refine W_ret ?_
        simp only [go_sem]
        refine ⟨trivial, _, rfl, _, Sub.refl _, ?_, rfl⟩
        rw [incr_false hk h]
        rfl
      · simp [go_sem]
        refine ⟨_, ⟨rfl, fun j hj => ?_⟩, by simp [go_sem]⟩
        rcases Nat.lt_succ_iff_lt_or_eq.1 hj with hj | hj
        · exact hall j hj
        · rw [hj]; exact h))
    simp [go_sem]
    rw [wrap_in (by omega) (by omega)]
    refine Pure.use (within_c _ _ _) ?_
    have hb : badI l pages k = (!(decide (2 ≤ l[k]) && decide (l[k] ≤ pages - 1)) || (decide (0 < k) && decide (l.getD (k - 1) 0 ≥ l[k]))) := by simp only [badI, hkl]
    generalize hwb : (decide (2 ≤ l[k]) && decide (l[k] ≤ pages - 1)) = wb at hb ⊢
    cases wb
    · simp [go_sem]
      exact key _ (by simp [go_sem, hb]) (by simp [go_sem])
    · by_cases h0 : 0 < k
      · have e1 : IntKind.i64.wrap ((k : Int) - 1) = ((k - 1 : Nat) : Int) := by rw [wrap_in (by omega) (by omega)]; omega
        have hk1 : k - 1 < l.length := by omega
        have hkl1 : l.getD (k - 1) 0 = l[k - 1] := by simp [List.getD, hk1]
        rw [hkl1] at hb
        simp [go_sem, h0, e1, intsE_get, hk1]
        exact key _ (by simp [go_sem, hb, h0]) (by simp [go_sem])
      · simp [go_sem, h0]
        exact key _ (by simp [go_sem, hb, h0]) (by simp [go_sem])
  · rintro _ _ x ⟨rfl, rfl, hall⟩
    refine hK _ _ ?_
    refine W_seq (W_reg ?_)
    simp [go_sem]
    refine W_ret ?_
    simp only [go_sem]
    refine ⟨trivial, _, rfl, _, Sub.refl _, ?_, rfl⟩
    rw [incr_true hall]
    rfl
end Go.Proofs.YtpmknffollpnaaaGreat
namespace Go.Proofs.YtpmknffollpnaaaGreat
open Go Go.VS
theorem each_c (l : List Fr) (s : St) : CallC Tryz.prog 68 [LF l] s (fun c s' => ∃ b, Fresh b s ∧ c = .v (.func (.func 112) #[] #[.pointer (some ⟨b, 0, none⟩)]) ∧ s' = { s with objs := (b, [LF l]) :: s.objs }) (fun _ _ => False) := by
  refine CallC_of Tryz.func68 rfl (by rfl) Tryz.ntmps68 (by simp) ?_
  refine W_seq (W_reg ?_)
  simp [go_sem]
  refine WL_box (by simp [go_sem]) (by simp) fun b hb => WL_run _ _ _ ?_
  simp [go_sem]
  refine W_seq (W_reg ?_)
  simp [go_sem]
  refine W_ret ?_
  simp only [go_sem]
  exact ⟨trivial, _, rfl, _, Sub.refl _, b, hb, by simp [go_sem], rfl⟩
/-- The numbers of a list, each with its version. -/
def pairs (l : List Fr) : List (Int × Int) := l.flatMap fun f => f.p.map fun n => (f.v, n)
abbrev pairC (l : List Fr) : Nat → List C := fun i => [I ((pairs l).getD i (0, 0)).1, I ((pairs l).getD i (0, 0)).2]
theorem pairs_append (a b : List Fr) : pairs (a ++ b) = pairs a ++ pairs b := by simp [pairs]
theorem pairs_at (l : List Fr) (k j : Nat) (hk : k < l.length) (hj : j < (l[k]).p.length) : (pairs l).getD ((pairs (l.take k)).length + j) (0, 0) = ((l[k]).v, (l[k]).p[j]) ∧ (pairs (l.take k)).length + j < (pairs l).length := by
  have e1 : l = l.take k ++ l[k] :: l.drop (k + 1) := by rw [← List.drop_eq_getElem_cons hk, List.take_append_drop]
  have e2 : pairs l = pairs (l.take k) ++ (((l[k]).p.map fun n => ((l[k]).v, n)) ++ pairs (l.drop (k + 1))) := by
    conv => lhs; rw [e1]
    rw [pairs_append]
    simp only [pairs, List.flatMap_cons]
  constructor
  · rw [List.getD_eq_getElem?_getD]
    conv => lhs; rw [e2]
    rw [List.getElem?_append_right (by omega), Nat.add_sub_cancel_left, List.getElem?_append_left (by simpa using hj)]
    simp [hj]
  · conv => rhs; rw [e2]
    simp only [List.length_append, List.length_map]
    omega
theorem pairs_take_succ (l : List Fr) (k : Nat) (hk : k < l.length) : (pairs (l.take (k + 1))).length = (pairs (l.take k)).length + (l[k]).p.length := by
  rw [List.take_succ_eq_append_getElem hk, pairs_append]
  simp [pairs]
theorem frsE_length (l : List Fr) : (frsE l).length = l.length := by simp [frsE]
theorem frsE_get (l : List Fr) (i : Nat) : (frsE l)[i]? = (l[i]?).map frC := by simp [frsE]

theorem each_it (l : List Fr) (b : Nat) (s1 : St) (hb : VS.look s1.objs b = some [LF l]) : IterC Tryz.prog 112 [.pointer (some ⟨b, 0, none⟩)] (pairC l) (pairs l).length s1 := by
  intro lp J Jx hup hdom hY h0
  refine CallC_of Tryz.func112 rfl (by rfl) Tryz.ntmps112 (by simp) ?_
  refine W_seq (W_reg ?_)
  simp [go_sem, hb, frsE_length]
  refine W_len 7 (tok := none) (es := frsE l) (by simp [go_sem]) fun hlen => ?_
  rw [frsE_length] at hlen
  refine W_range l.length (fun k l' s' => l' = [(0, .v (.func (.yield lp) #[] #[])), (7, LF l)] ∧ J (pairs (l.take k)).length s') (ds := []) (l0 := [(0, .v (.func (.yield lp) #[] #[])), (7, LF l)])
    (by omega) (by decide) ⟨rfl, by simpa [pairs] using h0⟩ (by simp [go_sem]) rfl (by rintro k _ _ ⟨rfl, _⟩; simp [notIn]) ?_ ?_
  · rintro k _ s2 hk ⟨rfl, hJ⟩
    refine W_seq (W_reg ?_)
    simp [go_sem, frsE_get, hk, frC]
    refine WL_alloc tzero_64 (by simp) fun bx hbx => WL_run _ _ _ ?_
    simp [go_sem]
    have hn1 : VS.look s1.objs bx = none := by
      cases hq : VS.look s1.objs bx with
      | none => rfl
      | some q => have := hdom _ _ hJ bx (by rw [hq]; rfl); rw [hbx.1] at this; cases this
    have hJ3 := hup _ s2 { s2 with objs := (bx, [I l[k].v, .li none (intsE l[k].p)]) :: s2.objs } hJ (fun b' cs hb' => by
      have : bx ≠ b' := fun e => by subst e; rw [hbx.1] at hb'; cases hb'
      simp [VS.look, this, hb']) rfl rfl rfl
    have hlb : VS.look ({ s2 with objs := (bx, [I l[k].v, .li none (intsE l[k].p)]) :: s2.objs } : St).objs bx = some [I l[k].v, .li none (intsE l[k].p)] := by simp [VS.look]
    generalize ({ s2 with objs := (bx, [I l[k].v, .li none (intsE l[k].p)]) :: s2.objs } : St) = s3 at hJ3 hlb ⊢
    refine W_seq_k fun K2 hK2 => ?_
    refine W_reg ?_
    simp [go_sem, hlb, intsE_length]
    refine hK2 _ _ ?_
    refine W_len 14 (tok := none) (es := intsE l[k].p) (by simp [go_sem]) fun hlen2 => ?_
    rw [intsE_length] at hlen2
    refine W_range l[k].p.length (fun j l' s' => l' = [(0, .v (.func (.yield lp) #[] #[])), (7, LF l), (9, I k), (8, I l.length), (4, .v (.pointer (some ⟨bx, 0, none⟩))), (14, LI l[k].p)] ∧ J ((pairs (l.take k)).length + j) s' ∧ VS.look s'.objs bx = some [I l[k].v, .li none (intsE l[k].p)])
      (ds := []) (l0 := [(0, .v (.func (.yield lp) #[] #[])), (7, LF l), (9, I k), (8, I l.length), (4, .v (.pointer (some ⟨bx, 0, none⟩))), (14, LI l[k].p)])
      (by omega) (by decide) ⟨rfl, by simpa using hJ3, hlb⟩ (by simp [go_sem]) rfl (by rintro k _ _ ⟨rfl, _⟩; simp [notIn]) ?_ ?_
    · rintro j _ s4 hj ⟨rfl, hJ4, hl4⟩
      obtain ⟨hp1, hp2⟩ := pairs_at l k j hk hj
      rw [List.getD_eq_getElem?_getD] at hp1
      refine W_seq (W_reg ?_)
      simp [go_sem, intsE_get, hj]
      refine W_seq (W_reg ?_)
      simp [go_sem, hl4]
      refine WL_yield rfl (by simp [go_sem]) hY hp2 hJ4 (by simp [go_sem, hp1]) (by simp) (fun s5 hJ5 hF => WL_run _ _ _ ?_) (fun s5 hJ5 hF => WL_run _ _ _ ?_)
      · simp [go_sem]
        refine W_ifs false (by simp [go_sem]) (fun h => by cases h) (fun _ => W_skip ?_)
        simp [go_sem]
        exact ⟨_, ⟨rfl, by rw [← Nat.add_assoc]; exact hJ5, hF.1 _ _ hn1 hl4⟩, by simp [go_sem]⟩
      · simp [go_sem]
        refine W_ifs true (by simp [go_sem]) (fun _ => W_ret ?_) (fun h => by cases h)
        simp only [go_sem]
        exact ⟨trivial, _, rfl, s5, Sub.refl _, .inr hJ5⟩
    · rintro _ s4 x ⟨rfl, hJ4, hl4⟩
      simp [go_sem]
      refine ⟨_, ⟨rfl, ?_⟩, by simp [go_sem]⟩
      rw [pairs_take_succ l k hk]
      exact hJ4
  · rintro _ s3 x ⟨rfl, hJ⟩
    simp only [go_sem]
    refine ⟨trivial, _, rfl, s3, Sub.refl _, ?_⟩
    left
    simpa using hJ
end Go.Proofs.YtpmknffollpnaaaGreat
namespace Go.Proofs.YtpmknffollpnaaaGreat
open Go Go.VS
theorem Tryz.mixed : Tryz.prog.follows .mixedOrders = true := by kernel_rfl

def nums (l : List Fr) : List Int := (pairs l).map (·.2)
def badF (l : List Fr) (pages : Int) (i : Nat) : Bool :=
  !(decide (0 ≤ (l.getD i ⟨0, []⟩).v) && decide ((l.getD i ⟨0, []⟩).v ≤ 1099511627776)) || (decide (0 < i) && decide ((l.getD (i - 1) ⟨0, []⟩).v ≥ (l.getD i ⟨0, []⟩).v)) ||
    decide ((l.getD i ⟨0, []⟩).p.length = 0) || !incr (l.getD i ⟨0, []⟩).p pages
def validB (l : List Fr) (pages : Int) : Bool :=
  (decide (2 ≤ pages) && decide (pages ≤ 4096)) && ((List.range l.length).all fun i => !badF l pages i) && decide (nums l).Nodup

def zeros : List Bool := List.replicate 4096 false
theorem zeros_length : zeros.length = 4096 := List.length_replicate
theorem zeros_get (k : Nat) : zeros[k]?.getD false = false := by
  unfold zeros
  rw [List.getElem?_replicate]
  split <;> rfl
theorem zeros_map : zeros.map Bo = reps 4096 (Bo false) := List.map_replicate
def seenOf (ns : List Int) : List Bool := ns.foldl (fun bs n => bs.set n.toNat true) zeros
theorem seenOf_length (ns : List Int) : (seenOf ns).length = 4096 := by
  unfold seenOf
  suffices h : ∀ bs : List Bool, (ns.foldl (fun bs n => bs.set n.toNat true) bs).length = bs.length by rw [h]; exact zeros_length
  induction ns with
  | nil => intro bs; rfl
  | cons n ns ih => intro bs; simp [ih]
theorem seenOf_snoc (ns : List Int) (n : Int) : seenOf (ns ++ [n]) = (seenOf ns).set n.toNat true := by simp [seenOf]
theorem seenOf_get (ns : List Int) (h : ∀ n ∈ ns, 0 ≤ n ∧ n < 4096) (m : Int) (h0 : 0 ≤ m) (h1 : m < 4096) : (seenOf ns).getD m.toNat false = decide (m ∈ ns) := by
  unfold seenOf
  suffices hs : ∀ bs : List Bool, bs.length = 4096 → (ns.foldl (fun bs n => bs.set n.toNat true) bs).getD m.toNat false = (bs.getD m.toNat false || decide (m ∈ ns)) by
    rw [hs _ zeros_length, List.getD_eq_getElem?_getD, zeros_get]
    simp
  induction ns with
  | nil => intro bs _; simp
  | cons n ns ih =>
    intro bs hb
    simp only [List.foldl_cons]
    rw [ih (fun x hx => h x (by simp [hx])) _ (by simpa using hb)]
    have hn := h n (by simp)
    have hlt : n.toNat < bs.length := by omega
    by_cases e : m = n
    · subst e
      simp [List.getD_eq_getElem?_getD, List.getElem?_set_self hlt]
    · have : n.toNat ≠ m.toNat := by omega
      simp [List.getD_eq_getElem?_getD, List.getElem?_set_ne this, e]

theorem validB_bad {l : List Fr} {pages : Int} {k : Nat} (hk : k < l.length) (h : badF l pages k = true) : validB l pages = false := by
  have : ((List.range l.length).all fun i => !badF l pages i) = false := by
    rw [List.all_eq_false]
    exact ⟨k, by simpa using hk, by simp [h]⟩
  simp [validB, this]
theorem incr_range {l : List Int} {pages : Int} (h : incr l pages = true) : ∀ n ∈ l, 2 ≤ n ∧ n ≤ pages - 1 := by
  intro n hn
  obtain ⟨k, hk, rfl⟩ := List.getElem_of_mem hn
  unfold incr at h
  rw [List.all_eq_true] at h
  have := h k (by simpa using hk)
  simp [badI, hk] at this
  exact this.1
theorem nums_mem {l : List Fr} {n : Int} : n ∈ nums l ↔ ∃ f ∈ l, n ∈ f.p := by
  simp only [nums, pairs, List.mem_map, List.mem_flatMap]
  constructor
  · rintro ⟨p, ⟨f, hf, m, hm, rfl⟩, rfl⟩; exact ⟨f, hf, hm⟩
  · rintro ⟨f, hf, hn⟩; exact ⟨(f.v, n), ⟨f, hf, n, hn, rfl⟩, rfl⟩
theorem nums_range {l : List Fr} {pages : Int} (h : ∀ j, j < l.length → badF l pages j = false) : ∀ n ∈ nums l, 2 ≤ n ∧ n ≤ pages - 1 := by
  intro n hn
  obtain ⟨f, hf, hnf⟩ := nums_mem.1 hn
  obtain ⟨k, hk, rfl⟩ := List.getElem_of_mem hf
  have := h k hk
  simp [badF, hk] at this
  exact incr_range this.2 n hnf
theorem validB_dup {l : List Fr} {pages : Int} (h : ¬ (nums l).Nodup) : validB l pages = false := by simp [validB, h]
theorem validB_ok {l : List Fr} {pages : Int} (hp : 2 ≤ pages ∧ pages ≤ 4096) (hall : ∀ j, j < l.length → badF l pages j = false) (h : (nums l).Nodup) : validB l pages = true := by
  have : ((List.range l.length).all fun i => !badF l pages i) = true := by
    rw [List.all_eq_true]
    intro k hk
    simp [hall k (by simpa using hk)]
  simp [validB, h, this, hp]
theorem sub_obj {s : St} {b : Nat} (h : Fresh b s) (cs : List C) : Sub { s with objs := (b, cs) :: s.objs } s :=
  ⟨fun k x hk => by
    have : b ≠ k := fun e => by subst e; rw [h.1] at hk; cases hk
    simp [VS.look, this, hk], fun _ _ h => h, fun _ _ h => h, fun _ _ h => h⟩
theorem sub_put {s s' : St} (hs : Sub s' s) {b : Nat} (h : VS.look s.objs b = none) (cs : List C) : Sub { s' with objs := putAt s'.objs b cs } s :=
  ⟨fun k x hk => by
    have : k ≠ b := fun e => by subst e; rw [h] at hk; cases hk
    simp [look_putAt, this, hs.objs _ _ hk], hs.rows, hs.toks, hs.maps⟩
theorem Sub.trans {s s' s'' : St} (h : Sub s s') (h' : Sub s' s'') : Sub s s'' :=
  ⟨fun _ _ x => h.objs _ _ (h'.objs _ _ x), fun _ _ x => h.rows _ _ (h'.rows _ _ x), fun _ _ x => h.toks _ _ (h'.toks _ _ x), fun _ _ x => h.maps _ _ (h'.maps _ _ x)⟩
theorem valid_c (l : List Fr) (pages : Int) (hp : -1000000000 ≤ pages) (hp2 : pages ≤ 1000000000) : Pure Tryz.prog 47 [LF l, I pages] (Bo (validB l pages)) := by
  intro s
  refine CallC_ofM Tryz.func47 rfl (by rfl) Tryz.ntmps47 (by simp) ?_
  refine W_seq (W_reg ?_)
  simp [go_sem]
  refine WL_alloc tzero_4 (by simp) fun b4 hb4 => WL_run _ _ _ ?_
  simp [go_sem]
  refine W_seq (W_seq (W_reg ?_))
  simp [go_sem]
  refine Pure.use (within_c _ _ _) ?_
  simp [go_sem]
  by_cases hpg : 2 ≤ pages ∧ pages ≤ 4096
  · refine (W_ifs false (by simp [go_sem, hpg]) (fun h => by cases h) (fun _ => W_skip ?_))
    simp only [go_sem]
    refine W_seq_k fun K hK => W_seq (W_reg ?_)
    simp [go_sem, frsE_length]
    refine W_len 13 (tok := none) (es := frsE l) (by simp [go_sem]) fun hlen => ?_
    rw [frsE_length] at hlen
    have hl4 : VS.look ({ s with objs := (b4, [Bo false]) :: s.objs } : St).objs b4 = some [Bo false] := by simp [VS.look]
    have hsub : Sub { s with objs := (b4, [Bo false]) :: s.objs } s := sub_obj hb4 _
    generalize ({ s with objs := (b4, [Bo false]) :: s.objs } : St) = s1 at hl4 hsub ⊢ hK
    refine W_range l.length (fun k l' s' => l' = [(0, LF l), (13, LF l), (1, I pages), (4, .v (.pointer (some ⟨b4, 0, none⟩)))] ∧ Sub s' s1 ∧ ∀ j, j < k → badF l pages j = false) (ds := []) (l0 := [(0, LF l), (13, LF l), (1, I pages), (4, .v (.pointer (some ⟨b4, 0, none⟩)))])
      (by omega) (by decide) ⟨rfl, Sub.refl _, fun j hj => by omega⟩ (by simp [go_sem]) rfl (by rintro k _ _ ⟨rfl, _⟩; simp [notIn]) ?_ ?_
    · rintro k _ s2 hk ⟨rfl, hs2, hall⟩
      have hl2 := hs2.objs _ _ hl4
      refine W_seq (W_reg ?_)
      simp [go_sem, frsE_get, hk, frC]
      refine WL_alloc tzero_64 (by simp) fun bx hbx => WL_run _ _ _ ?_
      simp [go_sem]
      have hl3 : VS.look ({ s2 with objs := (bx, [I l[k].v, .li none (intsE l[k].p)]) :: s2.objs } : St).objs bx = some [I l[k].v, .li none (intsE l[k].p)] := by simp [VS.look]
      have hs3 := Sub.trans (sub_obj hbx [I l[k].v, .li none (intsE l[k].p)]) hs2
      generalize ({ s2 with objs := (bx, [I l[k].v, .li none (intsE l[k].p)]) :: s2.objs } : St) = s3 at hl3 hs3 ⊢
      have hkl : l.getD k ⟨0, []⟩ = l[k] := by simp [List.getD, hk]
      have hl5 := hs3.objs _ _ hl4
      refine W_seq_k fun K2 hK2 => W_drawr 32 Tryz.mixed (by kernel_rfl) ?_
      have key : ∀ E', Has E' [(51, Bo (badF l pages k)), (15, I k), (14, I l.length), (0, LF l), (13, LF l), (1, I pages), (4, .v (.pointer (some ⟨b4, 0, none⟩)))] → E'.ds = [] → K2 E' s3 := fun E' h1 h2 => hK2 _ _ (W_keep _ h1 (by
        rw [h2]
        refine W_ifs (badF l pages k) (by simp [go_sem]) (fun h => W_seq (W_reg ?_)) (fun h => W_skip ?_)
        · simp [go_sem, hl5]
          refine W_ret ?_
          simp only [go_sem]
          refine .inl ⟨trivial, Bo false, by simp [go_sem, look_putAt, hl5], s, sub_put (Sub.trans hs3 hsub) hb4.1 _, ?_, rfl⟩
          rw [validB_bad hk h]
          rfl
        · simp [go_sem]
          refine ⟨_, ⟨rfl, hs3, fun j hj => ?_⟩, by simp [go_sem]⟩
          rcases Nat.lt_succ_iff_lt_or_eq.1 hj with hj | hj
          · exact hall j hj
          · rw [hj]; exact h))
      simp [go_sem, hl3]
      refine ⟨_, within_c _ _ _, ?_⟩
      have hb : badF l pages k = (!(decide (0 ≤ l[k].v) && decide (l[k].v ≤ 1099511627776)) || (decide (0 < k) && decide ((l.getD (k - 1) ⟨0, []⟩).v ≥ l[k].v)) || decide (l[k].p.length = 0) || !incr l[k].p pages) := by simp only [badF, hkl]
      generalize hwb : (decide (0 ≤ l[k].v) && decide (l[k].v ≤ 1099511627776)) = wb at hb ⊢
      cases wb
      · simp [go_sem]
        exact key _ (by simp [go_sem, hb]) (by simp [go_sem])
      · have htail : ∀ t : Bool, (decide (0 < k) && decide ((l.getD (k - 1) ⟨0, []⟩).v ≥ l[k].v)) = t → True := fun _ _ => trivial
        by_cases h0 : 0 < k
        · have e1 : IntKind.i64.wrap ((k : Int) - 1) = ((k - 1 : Nat) : Int) := by rw [wrap_in (by omega) (by omega)]; omega
          have hk1 : k - 1 < l.length := by omega
          have hkl1 : l.getD (k - 1) ⟨0, []⟩ = l[k - 1] := by simp [List.getD, hk1]
          rw [hkl1] at hb
          by_cases hv : l[k - 1].v ≥ l[k].v
          · simp [go_sem, hl3, h0, e1, frsE_get, hk1, frC, hv]
            exact key _ (by simp [go_sem, hb, h0, hv]) (by simp [go_sem])
          · by_cases hz : l[k].p.length = 0
            · simp [go_sem, hl3, h0, e1, frsE_get, hk1, frC, hv, intsE_length, hz]
              exact key _ (by simp [go_sem, hb, h0, hv, hz]) (by simp [go_sem])
            · have hz' : ((l[k].p.length : Int) == 0) = false := by simpa using hz
              simp [go_sem, hl3, h0, e1, frsE_get, hk1, frC, hv, intsE_length, hz']
              refine ⟨_, increasing_c _ _ hp hp2, ?_⟩
              simp [go_sem]
              exact key _ (by simp [go_sem, hb, h0, hv, hz]) (by simp [go_sem])
        · by_cases hz : l[k].p.length = 0
          · simp [go_sem, hl3, h0, intsE_length, hz]
            exact key _ (by simp [go_sem, hb, h0, hz]) (by simp [go_sem])
          · have hz' : ((l[k].p.length : Int) == 0) = false := by simpa using hz
            simp [go_sem, hl3, h0, intsE_length, hz']
            refine ⟨_, increasing_c _ _ hp hp2, ?_⟩
            simp [go_sem]
            exact key _ (by simp [go_sem, hb, h0, hz]) (by simp [go_sem])
    · rintro _ s2 x ⟨rfl, hs2, hall⟩
      simp only [go_sem]
      refine hK _ _ ?_
      have hs0 : Sub s2 s := Sub.trans hs2 hsub
      have hl2 := hs2.objs _ _ hl4
      refine W_seq (W_reg ?_)
      simp [go_sem]
      refine WL_box (by simp [go_sem]; intro x hx; rw [List.eq_of_mem_replicate hx]) (by simp) fun bb hbb => WL_run _ _ _ ?_
      simp [go_sem]
      refine WL_alloc tzero_127 (by simp) fun b7 hb7 => WL_run _ _ _ ?_
      simp [go_sem]
      have hbne : ¬ bb = b7 := fun e => by have := hb7.1; simp [VS.look, e] at this
      have h47 : ¬ b7 = b4 := fun e => by have := hb7.1; simp only [VS.look, e] at this; split at this; cases this; rw [hl2] at this; cases this
      have h4b : ¬ bb = b4 := fun e => by have := hbb.1; rw [e, hl2] at this; cases this
      have q7 : VS.look ((b7, [C.v (.pointer (some ⟨bb, 0, none⟩))]) :: (bb, reps 4096 (Bo false)) :: s2.objs) b7 = some [.v (.pointer (some ⟨bb, 0, none⟩))] := by simp [VS.look]
      have qb : VS.look ((b7, [C.v (.pointer (some ⟨bb, 0, none⟩))]) :: (bb, reps 4096 (Bo false)) :: s2.objs) bb = some ((seenOf []).map Bo) := by simp [VS.look, show ¬ b7 = bb from fun e => hbne e.symm, seenOf, zeros_map]
      have q4 : VS.look ((b7, [C.v (.pointer (some ⟨bb, 0, none⟩))]) :: (bb, reps 4096 (Bo false)) :: s2.objs) b4 = some [Bo false] := by simp [VS.look, h47, h4b, hl2]
      have qs : Sub { s2 with objs := (b7, [C.v (.pointer (some ⟨bb, 0, none⟩))]) :: (bb, reps 4096 (Bo false)) :: s2.objs } s := Sub.trans (sub_obj (s := { s2 with objs := (bb, reps 4096 (Bo false)) :: s2.objs }) hb7 _) (Sub.trans (sub_obj hbb _) hs0)
      have h4n := hb4.1
      have hbs : VS.look s.objs bb = none := by
        cases hq : VS.look s.objs bb with
        | none => rfl
        | some q => have := hs0.objs _ _ hq; rw [hbb.1] at this; cases this
      have h7s : VS.look s.objs b7 = none := by
        cases hq : VS.look s.objs b7 with
        | none => rfl
        | some q =>
          have h1 := hs0.objs _ _ hq
          have := hb7.1
          simp only [VS.look, hbne, if_false] at this
          rw [h1] at this
          cases this
      generalize hs3 : ({ s2 with objs := (b7, [C.v (.pointer (some ⟨bb, 0, none⟩))]) :: (bb, reps 4096 (Bo false)) :: s2.objs } : St) = s3 at qs
      have ho3 : (b7, [C.v (.pointer (some ⟨bb, 0, none⟩))]) :: (bb, reps 4096 (Bo false)) :: s2.objs = s3.objs := by rw [← hs3]
      rw [ho3] at q7 qb q4
      have hr0 := nums_range hall
      have hln : (nums l).length = (pairs l).length := by simp [nums]
      refine W_seq (W_seq (W_reg ?_))
      simp [go_sem]
      refine CallC.use (each_c l s3) ?_ (fun _ _ h => h.elim)
      rintro c s4 ⟨be, hbe, rfl, rfl⟩
      simp [go_sem]
      have hne : ∀ k x, VS.look s3.objs k = some x → VS.look ((be, [LF l]) :: s3.objs) k = some x := fun k x hk => by
        have : be ≠ k := fun e => by subst e; rw [hbe.1] at hk; cases hk
        simp [VS.look, this, hk]
      refine W_block (W_rangeFunc (m := (pairs l).length) (x1 := fun i => I ((pairs l).getD i (0, 0)).1) (x2 := fun i => I ((pairs l).getD i (0, 0)).2) rfl (by simp [go_sem]) (by simp) (by simp) (fun s5 h5 => each_it l be s5 (by rw [h5]; simp [VS.look]))
        (fun i O R => VS.look O b7 = some [.v (.pointer (some ⟨bb, 0, none⟩))] ∧ VS.look O bb = some ((seenOf ((nums l).take i)).map Bo) ∧ VS.look O b4 = some [Bo false] ∧ ((nums l).take i).Nodup ∧ (∀ k x, VS.look s.objs k = some x → VS.look O k = some x) ∧ (∀ k x, VS.look s.rows k = some x → VS.look R k = some x))
        (fun O R => VS.look O b4 = some [Bo false] ∧ ¬ (nums l).Nodup ∧ (∀ k x, VS.look s.objs k = some x → VS.look O k = some x) ∧ (∀ k x, VS.look s.rows k = some x → VS.look R k = some x))
        (fun i O O' R h ho => ⟨ho _ _ h.1, ho _ _ h.2.1, ho _ _ h.2.2.1, h.2.2.2.1, fun k x hk => ho _ _ (h.2.2.2.2.1 k x hk), h.2.2.2.2.2⟩)
        ⟨hne _ _ q7, by simpa using hne _ _ qb, hne _ _ q4, by simp, fun k x hk => hne _ _ (qs.objs _ _ hk), qs.rows⟩ ?_ ?_ ?_)
      · rintro i lp s5 hi ⟨r7, rb, r4, rn, ro, rr⟩
        refine W_reg ?_
        simp [go_sem, roundE]
        intro s6 ho hrw
        have hil : i < (nums l).length := by omega
        have hn : ((pairs l)[i]?.getD (0, 0)).snd = (nums l)[i] := by simp [nums, show i < (pairs l).length from hi]
        rw [hn]
        have hrg := hr0 _ (List.getElem_mem hil)
        have hn0 : 0 ≤ (nums l)[i] := by omega
        have hn1 : (nums l)[i] < 4096 := by omega
        have htake : (nums l).take (i + 1) = (nums l).take i ++ [(nums l)[i]] := List.take_succ_eq_append_getElem hil
        have hget := seenOf_get ((nums l).take i) (fun n hn => by have := hr0 n (List.mem_of_mem_take hn); omega) (nums l)[i] hn0 hn1
        refine W_keep [(9, I (nums l)[i]), (7, .v (.pointer (some ⟨b7, 0, none⟩))), (4, .v (.pointer (some ⟨b4, 0, none⟩)))] (by simp [go_sem, vOnly]) ?_
        refine W_block (W_seq (W_reg ?_))
        simp [go_sem, ho, r7]
        refine CallC.use (add_c bb _ (nums l)[i] s6 (by rw [ho]; exact rb) (seenOf_length _) hn0 hn1) ?_ (fun _ _ h => h.elim)
        rintro c s7 ⟨rfl, rfl⟩
        rw [hget]
        have hput : ∀ k x, VS.look s.objs k = some x → VS.look (putAt s6.objs bb (((seenOf ((nums l).take i)).set (nums l)[i].toNat true).map Bo)) k = some x := fun k x hk => by
          have : k ≠ bb := fun e => by subst e; rw [hbs] at hk; cases hk
          rw [look_putAt, if_neg this, ho]
          exact ro k x hk
        have hisb : (VS.look s3.objs bb).isSome := by rw [qb]; rfl
        have hfr : ∀ O0 : List (Nat × List C), (VS.look O0 bb).isSome → FrameO O0 s6.objs (putAt s6.objs bb (((seenOf ((nums l).take i)).set (nums l)[i].toNat true).map Bo)) := fun O0 h0 => ⟨fun k cs hk hk' => by
          have : k ≠ bb := fun e => by subst e; rw [hk] at h0; cases h0
          rw [look_putAt, if_neg this]
          exact hk', fun k hk => by rw [isSome_putAt]; exact hk⟩
        have hb4' : VS.look (putAt s6.objs bb (((seenOf ((nums l).take i)).set (nums l)[i].toNat true).map Bo)) b4 = some [Bo false] := by rw [look_putAt, if_neg (fun e => h4b e.symm), ho]; exact r4
        have hbb' : VS.look (putAt s6.objs bb (((seenOf ((nums l).take i)).set (nums l)[i].toNat true).map Bo)) bb = some ((seenOf ((nums l).take (i + 1))).map Bo) := by rw [look_putAt, if_pos rfl, ho, rb, htake, seenOf_snoc]; rfl
        have hb7' : VS.look (putAt s6.objs bb (((seenOf ((nums l).take i)).set (nums l)[i].toNat true).map Bo)) b7 = some [.v (.pointer (some ⟨bb, 0, none⟩))] := by rw [look_putAt, if_neg (fun e => hbne e.symm), ho]; exact r7
        have hfr' := hfr ((be, [LF l]) :: s3.objs) (isSome_of (hne bb) hisb)
        clear hfr
        generalize putAt s6.objs bb (((seenOf ((nums l).take i)).set (nums l)[i].toNat true).map Bo) = O7 at hput hfr' hb4' hbb' hb7' ⊢
        by_cases hmem : (nums l)[i] ∈ (nums l).take i
        · simp [go_sem, hmem]
          refine W_ifs true (by simp [go_sem]) (fun _ => W_seq (W_reg ?_)) (fun h => by cases h)
          simp [go_sem, hb4']
          refine W_ret ?_
          simp only [go_sem, roundQ]
          refine ⟨⟨by rw [look_putAt, if_pos rfl, hb4']; rfl, fun hnd => ?_, fun k x hk => ?_, by rw [hrw]; exact fun k a b h => rr k (a, b) h⟩, trivial, trivial, ?_⟩
          · have := List.nodup_append.1 (by rw [← htake]; exact hnd.sublist (List.take_sublist _ _))
            exact this.2.2 _ hmem _ (by simp) rfl
          · have : k ≠ b4 := fun e => by subst e; rw [h4n] at hk; cases hk
            rw [look_putAt, if_neg this]
            exact hput k x hk
          · refine ⟨fun k cs hk hk' => ?_, fun k hk => by rw [isSome_putAt]; exact hfr'.2 k hk⟩
            have : k ≠ b4 := fun e => by subst e; rw [hne _ _ q4] at hk; cases hk
            rw [look_putAt, if_neg this]
            exact hfr'.1 k cs hk hk'
        · simp [go_sem, hmem]
          refine W_ifs false (by simp [go_sem]) (fun h => by cases h) (fun _ => W_skip ?_)
          simp only [go_sem, roundQ]
          refine ⟨⟨hb7', hbb', hb4', ?_, hput, by rw [hrw]; exact fun k a b h => rr k (a, b) h⟩, trivial, trivial, hfr'⟩
          rw [htake, List.nodup_append]
          refine ⟨rn, by simp, fun a ha b hb => ?_⟩
          simp at hb
          subst hb
          exact fun e => hmem (e ▸ ha)
      · rintro s5 D ⟨r7, rb, r4, rn, ro, rr⟩ hD hDn htk hmp
        simp only [go_sem]
        refine W_keep [(4, .v (.pointer (some ⟨b4, 0, none⟩)))] (by simp [go_sem]) ?_
        refine W_seq (W_reg ?_)
        simp [go_sem, r4]
        refine W_ret ?_
        simp only [go_sem]
        refine .inr ⟨D, rfl, hD, Bo true, by simp [go_sem, look_putAt, r4], s, ?_, ?_, rfl⟩
        · refine ⟨fun k x hk => ?_, rr, fun k x hk => htk k x (qs.toks _ _ hk), fun k x hk => ?_⟩
          · have : k ≠ b4 := fun e => by subst e; rw [h4n] at hk; cases hk
            simp only [look_putAt, if_neg this]
            exact ro k x hk
          · have hk' := qs.maps _ _ hk
            have : k ≠ D := fun e => by subst e; rw [show VS.look s3.maps k = none from hDn] at hk'; cases hk'
            simp only [look_putAt, if_neg this]
            exact hmp k x hk'
        · rw [validB_ok hpg hall (by rw [List.take_of_length_le (by omega)] at rn; exact rn)]
          rfl
      · rintro s5 D ⟨r4, rn, ro, rr⟩ hD hDn htk hmp
        refine .inr ⟨D, rfl, hD, Bo false, by simp [go_sem, r4], s, ?_, ?_, rfl⟩
        · refine ⟨ro, rr, fun k x hk => htk k x (qs.toks _ _ hk), fun k x hk => ?_⟩
          have hk' := qs.maps _ _ hk
          have : k ≠ D := fun e => by subst e; rw [show VS.look s3.maps k = none from hDn] at hk'; cases hk'
          simp only [look_putAt, if_neg this]
          exact hmp k x hk'
        · rw [validB_dup rn]
          rfl
  · refine (W_ifs true (by simp [go_sem]; omega) (fun _ => W_seq (W_reg ?_)) (fun h => by cases h))
    simp [go_sem]
    refine W_ret ?_
    simp only [go_sem]
    refine .inl ⟨trivial, Bo false, by simp [go_sem, VS.look], s, sub_obj hb4 _, ?_, rfl⟩
    have : (decide (2 ≤ pages) && decide (pages ≤ 4096)) = false := by simp; omega
    simp [go_sem, validB, this]
end Go.Proofs.YtpmknffollpnaaaGreat
namespace Go.Proofs.YtpmknffollpnaaaGreat
open Go Go.VS
theorem sameInts_c (a b : List Int) : Pure Tryz.prog 31 [LI a, LI b] (Bo (decide (a = b))) := by
  intro s
  refine CallC_of Tryz.func31 rfl (by rfl) Tryz.ntmps31 (by simp) ?_
  refine W_seq (W_reg ?_)
  simp [go_sem]
  refine W_len 0 (tok := none) (es := intsE a) (by simp [go_sem]) fun hla => ?_
  rw [intsE_length] at hla
  refine W_seq (W_seq (W_reg ?_))
  simp [go_sem, intsE_length]
  by_cases hl : a.length = b.length
  · refine W_ifs false (by simp [go_sem, hl]) (fun h => by cases h) (fun _ => W_skip ?_)
    simp only [go_sem]
    refine W_seq (W_seq (W_reg ?_))
    simp [go_sem]
    refine W_for a.length (fun k l s' => l = [(0, LI a), (1, LI b), (5, I k)] ∧ s' = s ∧ ∀ j, j < k → a[j]? = b[j]?) (l0 := [(0, LI a), (1, LI b), (5, I 0)]) (ds := []) ⟨rfl, rfl, fun j hj => by omega⟩ (by simp [go_sem]) rfl ?_
    rintro k _ s1 hk ⟨rfl, rfl, hall⟩ K hK
    refine W_reg ?_
    simp [go_sem, intsE_length]
    refine hK _ _ (decide (k < a.length)) [(0, LI a), (1, LI b), (5, I k)] (by simp [go_sem]) (by simp [go_sem]) (by simp [go_sem]) (fun hlt => ?_) (fun hge => ?_)
    · simp only [decide_eq_true_eq] at hlt
      refine ⟨hlt, W_seq_k fun K2 hK2 => W_drawr 9 Tryz.mixed (by kernel_rfl) ?_⟩
      have hkb : k < b.length := by omega
      simp [go_sem, intsE_get, hlt, hkb]
      refine hK2 _ _ ?_
      by_cases he : a[k] = b[k]
      · refine W_ifs false (by simp [go_sem, he]) (fun h => by cases h) (fun _ => W_skip ?_)
        simp only [go_sem]
        refine W_reg ?_
        have hw : IntKind.i64.wrap ((k : Int) + 1) = ((k + 1 : Nat) : Int) := by rw [wrap_in (by omega) (by omega)]; omega
        simp [go_sem, hw]
        refine ⟨_, ⟨rfl, fun j hj => ?_⟩, by simp [go_sem]⟩
        rcases Nat.lt_succ_iff_lt_or_eq.1 hj with hj | hj
        · exact hall j hj
        · rw [hj]; simp [hlt, hkb, he]
      · refine W_ifs true (by simp [go_sem, he]) (fun _ => W_seq (W_reg ?_)) (fun h => by cases h)
        simp [go_sem]
        refine W_ret ?_
        simp only [go_sem]
        refine ⟨trivial, _, rfl, s1, Sub.refl _, ?_, rfl⟩
        have : a ≠ b := fun e => he (by subst e; rfl)
        simp [this, go_sem]
    · simp only [go_sem]
      refine W_seq (W_reg ?_)
      simp [go_sem]
      refine W_ret ?_
      simp only [go_sem]
      refine ⟨trivial, _, rfl, s1, Sub.refl _, ?_, rfl⟩
      have : a = b := List.ext_getElem? fun j => by
        simp only [decide_eq_false_iff_not] at hge
        by_cases hj : j < k
        · exact hall j hj
        · rw [List.getElem?_eq_none (by omega), List.getElem?_eq_none (by omega)]
      simp [this, go_sem]
  · refine W_ifs true (by simp [go_sem]; omega) (fun _ => W_seq (W_reg ?_)) (fun h => by cases h)
    simp [go_sem]
    refine W_ret ?_
    simp only [go_sem]
    refine ⟨trivial, _, rfl, s, Sub.refl _, ?_, rfl⟩
    have : a ≠ b := fun e => hl (by rw [e])
    simp [this, go_sem]
def total (l : List Fr) : Int := ((l.map fun f => f.p.length).sum : Nat)
theorem refTotal_c (l : List Fr) (hs : (l.map fun f => f.p.length).sum ≤ 9223372036854775807) : Pure Tryz.prog 30 [LF l] (I (total l)) := by
  intro s
  refine CallC_of Tryz.func30 rfl (by rfl) Tryz.ntmps30 (by simp) ?_
  refine W_seq (W_reg ?_)
  simp [go_sem]
  refine W_len 0 (tok := none) (es := frsE l) (by simp [go_sem]) fun hla => ?_
  rw [frsE_length] at hla
  refine W_seq (W_reg ?_)
  simp [go_sem]
  refine W_seq (W_seq (W_reg ?_))
  simp [go_sem]
  have hpre : ∀ k, ((l.take k).map fun f => f.p.length).sum ≤ (l.map fun f => f.p.length).sum := fun k => by
    conv => rhs; rw [← List.take_append_drop k l]
    rw [List.map_append, List.sum_append]
    omega
  refine W_for l.length (fun k L s' => L = [(0, LF l), (4, I k), (3, I (total (l.take k)))] ∧ s' = s) (l0 := [(0, LF l), (4, I 0), (3, I 0)]) (ds := []) ⟨by simp [total], rfl⟩ (by simp [go_sem]) rfl ?_
  rintro k _ s1 hk ⟨rfl, rfl⟩ K hK
  refine W_reg ?_
  simp [go_sem, frsE_length]
  refine hK _ _ (decide (k < l.length)) [(0, LF l), (4, I k), (3, I (total (l.take k)))] (by simp [go_sem]) (by simp [go_sem]) (by simp [go_sem]) (fun hlt => ?_) (fun hge => ?_)
  · simp only [decide_eq_true_eq] at hlt
    refine ⟨hlt, W_reg ?_⟩
    have hsucc : total (l.take (k + 1)) = total (l.take k) + l[k].p.length := by
      unfold total
      rw [List.take_succ_eq_append_getElem hlt, List.map_append, List.sum_append]
      simp only [List.map_cons, List.map_nil, List.sum_cons, List.sum_nil]
      omega
    have hb := hpre (k + 1)
    have hw : IntKind.i64.wrap (total (l.take k) + l[k].p.length) = total (l.take (k + 1)) := by
      rw [← hsucc, wrap_in] <;> (simp only [total]; omega)
    have hw2 : IntKind.i64.wrap ((k : Int) + 1) = ((k + 1 : Nat) : Int) := by rw [wrap_in (by omega) (by omega)]; omega
    simp [go_sem, frsE_get, hlt, frC, intsE_length, hw]
    refine W_reg ?_
    simp [go_sem, hw2]
  · simp only [decide_eq_false_iff_not] at hge
    simp only [go_sem]
    refine W_seq (W_reg ?_)
    simp [go_sem]
    refine W_ret ?_
    simp only [go_sem]
    refine ⟨trivial, _, rfl, s1, Sub.refl _, ?_, rfl⟩
    rw [List.take_of_length_le (by omega)]
    simp [go_sem]
theorem total_c (l : List Fr) (hs : (l.map fun f => f.p.length).sum ≤ 9223372036854775807) : Pure Tryz.prog 29 [LF l] (I (total l)) := by
  intro s
  refine CallC_of Tryz.func29 rfl (by rfl) Tryz.ntmps29 (by simp) ?_
  refine W_seq (W_reg ?_)
  simp [go_sem]
  refine W_seq (W_reg ?_)
  simp [go_sem]
  refine W_seq (W_seq (W_reg ?_))
  simp [go_sem, frsE_length]
  refine W_len 6 (tok := none) (es := frsE l) (by simp [go_sem]) fun hla => ?_
  rw [frsE_length] at hla
  have hpre : ∀ k, ((l.take k).map fun f => f.p.length).sum ≤ (l.map fun f => f.p.length).sum := fun k => by
    conv => rhs; rw [← List.take_append_drop k l]
    rw [List.map_append, List.sum_append]
    omega
  refine W_range l.length (fun k L s' => L = [(6, LF l), (3, I (total (l.take k)))] ∧ Sub s' s) (l0 := [(6, LF l), (3, I 0)]) (ds := []) (by omega) (by decide) ⟨by simp [total], Sub.refl _⟩ (by simp [go_sem]) rfl (by rintro k _ _ ⟨rfl, _⟩; simp [notIn]) ?_ ?_
  · rintro k _ s1 hlt ⟨rfl, hsub⟩
    refine W_seq (W_reg ?_)
    simp [go_sem, frsE_get, hlt, frC]
    refine WL_alloc tzero_64 (by simp) fun bx hbx => WL_run _ _ _ ?_
    simp [go_sem]
    refine W_reg ?_
    have hsucc : total (l.take (k + 1)) = total (l.take k) + l[k].p.length := by
      unfold total
      rw [List.take_succ_eq_append_getElem hlt, List.map_append, List.sum_append]
      simp only [List.map_cons, List.map_nil, List.sum_cons, List.sum_nil]
      omega
    have hb := hpre (k + 1)
    have hw : IntKind.i64.wrap (total (l.take k) + l[k].p.length) = total (l.take (k + 1)) := by
      rw [← hsucc, wrap_in] <;> (simp only [total]; omega)
    simp [go_sem, intsE_length, hw]
    exact ⟨_, ⟨rfl, Sub.trans (sub_obj hbx _) hsub⟩, by simp [go_sem]⟩
  · rintro _ s1 x ⟨rfl, hsub⟩
    simp only [go_sem]
    refine W_seq (W_reg ?_)
    simp [go_sem]
    refine W_ret ?_
    simp only [go_sem]
    refine ⟨trivial, _, rfl, s, hsub, ?_, rfl⟩
    simp [go_sem]
/-- The errors: 0 none, 1 ErrArg, 2 ErrForm. -/
def checkE (l : List Fr) (pages : Int) : Int := if (decide (2 ≤ pages) && decide (pages ≤ 4096)) then (if validB l pages then 0 else 2) else 1
theorem check_c (l : List Fr) (pages : Int) (hp : -1000000000 ≤ pages) (hp2 : pages ≤ 1000000000) : Pure Tryz.prog 28 [LF l, I pages] (I (checkE l pages)) := by
  intro s
  refine CallC_of Tryz.func28 rfl (by rfl) Tryz.ntmps28 (by simp) ?_
  refine W_seq (W_reg ?_)
  simp [go_sem]
  refine W_seq (W_block (W_seq (W_reg ?_)))
  simp [go_sem]
  refine Pure.use (within_c _ _ _) ?_
  have hE : checkE l pages = if (decide (2 ≤ pages) && decide (pages ≤ 4096)) then (if validB l pages then 0 else 2) else 1 := rfl
  generalize (decide (2 ≤ pages) && decide (pages ≤ 4096)) = wb at hE ⊢
  cases wb
  · simp [go_sem]
    refine W_ifs true (by simp [go_sem]) (fun _ => W_seq (W_reg ?_)) (fun h => by cases h)
    simp [go_sem]
    refine W_ret ?_
    simp only [go_sem]
    refine ⟨trivial, _, rfl, s, Sub.refl _, ?_, rfl⟩
    simp [go_sem, hE]
  · simp [go_sem]
    refine W_ifs false (by simp [go_sem]) (fun h => by cases h) (fun _ => W_seq (W_reg ?_))
    simp [go_sem]
    refine Pure.use (valid_c _ _ hp hp2) ?_
    generalize validB l pages = vb at hE ⊢
    cases vb
    · simp [go_sem]
      refine W_ifs true (by simp [go_sem]) (fun _ => W_seq (W_reg ?_)) (fun h => by cases h)
      simp [go_sem]
      refine W_ret ?_
      simp only [go_sem]
      refine ⟨trivial, _, rfl, s, Sub.refl _, ?_, rfl⟩
      simp [go_sem, hE]
    · simp [go_sem]
      refine W_ifs false (by simp [go_sem]) (fun h => by cases h) (fun _ => W_skip ?_)
      simp [go_sem]
      refine W_seq (W_reg ?_)
      simp [go_sem]
      refine W_ret ?_
      simp only [go_sem]
      refine ⟨trivial, _, rfl, s, Sub.refl _, ?_, rfl⟩
      simp [go_sem, hE]
end Go.Proofs.YtpmknffollpnaaaGreat
namespace Go.Proofs.YtpmknffollpnaaaGreat
open Go Go.VS
theorem fr_eq (x y : Fr) : (x = y) = (x.v = y.v ∧ x.p = y.p) := by
  cases x; cases y; simp
set_option maxRecDepth 4000 in
theorem sameFreed_c (a b : List Fr) : Pure Tryz.prog 18 [LF a, LF b] (Bo (decide (a = b))) := by
  intro s
  refine CallC_of Tryz.func18 rfl (by rfl) Tryz.ntmps18 (by simp) ?_
  refine W_seq (W_reg ?_)
  simp [go_sem]
  refine W_len 0 (tok := none) (es := frsE a) (by simp [go_sem]) fun hla => ?_
  rw [frsE_length] at hla
  refine W_seq (W_seq (W_reg ?_))
  simp [go_sem, frsE_length]
  by_cases hl : a.length = b.length
  · refine W_ifs false (by simp [go_sem, hl]) (fun h => by cases h) (fun _ => W_skip ?_)
    simp only [go_sem]
    refine W_seq (W_seq (W_reg ?_))
    simp [go_sem]
    refine W_for a.length (fun k l s' => l = [(0, LF a), (1, LF b), (5, I k)] ∧ s' = s ∧ ∀ j, j < k → a[j]? = b[j]?) (l0 := [(0, LF a), (1, LF b), (5, I 0)]) (ds := []) ⟨rfl, rfl, fun j hj => by omega⟩ (by simp [go_sem]) rfl ?_
    rintro k _ s1 hk ⟨rfl, rfl, hall⟩ K hK
    refine W_reg ?_
    simp [go_sem, frsE_length]
    refine hK _ _ (decide (k < a.length)) [(0, LF a), (1, LF b), (5, I k)] (by simp [go_sem]) (by simp [go_sem]) (by simp [go_sem]) (fun hlt => ?_) (fun hge => ?_)
    · simp only [decide_eq_true_eq] at hlt
      refine ⟨hlt, W_seq_k fun K2 hK2 => W_drawr 25 Tryz.mixed (by kernel_rfl) ?_⟩
      have hkb : k < b.length := by omega
      have key : ∀ E', Has E' [(41, Bo (decide (a[k] ≠ b[k]))), (0, LF a), (1, LF b), (5, I k)] → E'.ds = [] → K2 E' s1 := fun E' h1 h2 => hK2 _ _ (W_keep _ h1 (by
        rw [h2]
        by_cases he : a[k] = b[k]
        · refine W_ifs false (by simp [go_sem, he]) (fun h => by cases h) (fun _ => W_skip ?_)
          simp only [go_sem]
          refine W_reg ?_
          have hw : IntKind.i64.wrap ((k : Int) + 1) = ((k + 1 : Nat) : Int) := by rw [wrap_in (by omega) (by omega)]; omega
          simp [go_sem, hw]
          refine ⟨_, ⟨rfl, fun j hj => ?_⟩, by simp [go_sem]⟩
          rcases Nat.lt_succ_iff_lt_or_eq.1 hj with hj | hj
          · exact hall j hj
          · rw [hj]; simp [hlt, hkb, he]
        · refine W_ifs true (by simp [go_sem, he]) (fun _ => W_seq (W_reg ?_)) (fun h => by cases h)
          simp [go_sem]
          refine W_ret ?_
          simp only [go_sem]
          refine ⟨trivial, _, rfl, s1, Sub.refl _, ?_, rfl⟩
          have : a ≠ b := fun e => he (by subst e; rfl)
          simp [this, go_sem]))
      have hab := fr_eq a[k] b[k]
      by_cases hv : a[k].v = b[k].v
      · simp [go_sem, frsE_get, frC, hlt, hkb, hv]
        refine ⟨_, sameInts_c _ _, ?_⟩
        simp [go_sem]
        exact key _ (by simp [go_sem, hab, hv]) (by simp [go_sem])
      · have hv' : (a[k].v == b[k].v) = false := by simpa using hv
        simp [go_sem, frsE_get, frC, hlt, hkb, hv, hv', bne]
        exact key _ (by simp [go_sem, hab, hv]) (by simp [go_sem])
    · simp only [go_sem]
      refine W_seq (W_reg ?_)
      simp [go_sem]
      refine W_ret ?_
      simp only [go_sem]
      refine ⟨trivial, _, rfl, s1, Sub.refl _, ?_, rfl⟩
      have : a = b := List.ext_getElem? fun j => by
        simp only [decide_eq_false_iff_not] at hge
        by_cases hj : j < k
        · exact hall j hj
        · rw [List.getElem?_eq_none (by omega), List.getElem?_eq_none (by omega)]
      simp [this, go_sem]
  · refine W_ifs true (by simp [go_sem]; omega) (fun _ => W_seq (W_reg ?_)) (fun h => by cases h)
    simp [go_sem]
    refine W_ret ?_
    simp only [go_sem]
    refine ⟨trivial, _, rfl, s, Sub.refl _, ?_, rfl⟩
    have : a ≠ b := fun e => hl (by rw [e])
    simp [this, go_sem]
end Go.Proofs.YtpmknffollpnaaaGreat
namespace Go.Proofs.YtpmknffollpnaaaGreat
open Go Go.VS
theorem size_c (pages : Int) : Pure Tryz.prog 57 [I pages] (Bo (decide (2 ≤ pages) && decide (pages ≤ 4096))) := by
  intro s
  refine CallC_of Tryz.func57 rfl (by rfl) Tryz.ntmps57 (by simp) ?_
  by_cases h1 : 2 ≤ pages
  all_goals
    refine W_seq (W_reg ?_)
    simp [go_sem]
    refine W_seq (W_reg ?_)
    simp [go_sem, h1]
    refine W_ret ?_
    simp only [go_sem]
    exact ⟨trivial, _, rfl, s, Sub.refl _, by simp [go_sem, h1], rfl⟩
end Go.Proofs.YtpmknffollpnaaaGreat
namespace Go.Proofs.YtpmknffollpnaaaGreat
open Go Go.Shelf
def Tryz.lays189_ren : Go.Shelf.Ren := ⟨fun | 189 => 73 | 125 => 114 | 257 => 113 | 128 => 158 | 129 => 159 | 294 => 149 | 295 => 150 | 296 => 151 | 297 => 152 | 298 => 153 | 299 => 154 | 216 => 155 | 300 => 156 | 301 => 157 | 328 => 172 | 329 => 173 | 330 => 174 | 331 => 175 | 332 => 176 | 215 => 145 | 343 => 193 | n => n, fun | 28 => 23 | 3 => 3 | 46 => 184 | 0 => 0 | 51 => 215 | 53 => 217 | 4 => 4 | 183 => 209 | 182 => 208 | 131 => 172 | 5 => 5 | 9 => 9 | 218 => 232 | 222 => 236 | 228 => 250 | 229 => 251 | n => n, fun | n => n⟩
theorem Tryz.lays189 : Go.Proofs.Lays.n189 Tryz.prog Tryz.lays189_ren := {
  mixed := by kernel_rfl
  f125 := Tryz.func114.trans (congrArg some (by kernel_rfl))
  f128 := Tryz.func158.trans (congrArg some (by kernel_rfl))
  f129 := Tryz.func159.trans (congrArg some (by kernel_rfl))
  f189 := Tryz.func73.trans (congrArg some (by kernel_rfl))
  f215 := Tryz.func145.trans (congrArg some (by kernel_rfl))
  f216 := Tryz.func155.trans (congrArg some (by kernel_rfl))
  f257 := Tryz.func113.trans (congrArg some (by kernel_rfl))
  f294 := Tryz.func149.trans (congrArg some (by kernel_rfl))
  f295 := Tryz.func150.trans (congrArg some (by kernel_rfl))
  f296 := Tryz.func151.trans (congrArg some (by kernel_rfl))
  f297 := Tryz.func152.trans (congrArg some (by kernel_rfl))
  f298 := Tryz.func153.trans (congrArg some (by kernel_rfl))
  f299 := Tryz.func154.trans (congrArg some (by kernel_rfl))
  f300 := Tryz.func156.trans (congrArg some (by kernel_rfl))
  f301 := Tryz.func157.trans (congrArg some (by kernel_rfl))
  f328 := Tryz.func172.trans (congrArg some (by kernel_rfl))
  f329 := Tryz.func173.trans (congrArg some (by kernel_rfl))
  f330 := Tryz.func174.trans (congrArg some (by kernel_rfl))
  f331 := Tryz.func175.trans (congrArg some (by kernel_rfl))
  f332 := Tryz.func176.trans (congrArg some (by kernel_rfl))
  f343 := Tryz.func193.trans (congrArg some (by kernel_rfl))
  t0 := Tryz.underlying0
  a0 := Tryz.isAgg0
  z0 := Tryz.sizeOf0
  v0 := Tryz.zeroValue0
  t3 := Tryz.underlying3
  a3 := Tryz.isAgg3
  z3 := Tryz.sizeOf3
  v3 := Tryz.zeroValue3
  t4 := Tryz.underlying4
  a4 := Tryz.isAgg4
  z4 := Tryz.sizeOf4
  v4 := Tryz.zeroValue4
  t5 := Tryz.underlying5
  a5 := Tryz.isAgg5
  z5 := Tryz.sizeOf5
  v5 := Tryz.zeroValue5
  t9 := Tryz.underlying9
  a9 := Tryz.isAgg9
  z9 := Tryz.sizeOf9
  v9 := Tryz.zeroValue9
  t28 := Tryz.underlying23
  a28 := Tryz.isAgg23
  z28 := Tryz.sizeOf23
  v28 := Tryz.zeroValue23
  t46 := Tryz.underlying184
  a46 := Tryz.isAgg184
  z46 := Tryz.sizeOf184
  v46 := Tryz.zeroValue184
  t51 := Tryz.underlying215
  a51 := Tryz.isAgg215
  z51 := Tryz.sizeOf215
  v51 := Tryz.zeroValue215
  t53 := Tryz.underlying217
  a53 := Tryz.isAgg217
  z53 := Tryz.sizeOf217
  v53 := Tryz.zeroValue217
  t131 := Tryz.underlying172
  a131 := Tryz.isAgg172
  z131 := Tryz.sizeOf172
  v131 := Tryz.zeroValue172
  t182 := Tryz.underlying208
  a182 := Tryz.isAgg208
  z182 := Tryz.sizeOf208
  v182 := Tryz.zeroValue208
  t183 := Tryz.underlying209
  a183 := Tryz.isAgg209
  z183 := Tryz.sizeOf209
  v183 := Tryz.zeroValue209
  t218 := Tryz.underlying232
  a218 := Tryz.isAgg232
  z218 := Tryz.sizeOf232
  v218 := Tryz.zeroValue232
  t222 := Tryz.underlying236
  a222 := Tryz.isAgg236
  z222 := Tryz.sizeOf236
  v222 := Tryz.zeroValue236
  t228 := Tryz.underlying250
  a228 := Tryz.isAgg250
  z228 := Tryz.sizeOf250
  v228 := Tryz.zeroValue250
  t229 := Tryz.underlying251
  a229 := Tryz.isAgg251
  z229 := Tryz.sizeOf251
  v229 := Tryz.zeroValue251 }
open Go.VS
def sorted (l : List Int) : List Int := l.mergeSort fun x y => decide (x ≤ y)
theorem sort_callable : Callable Tryz.prog 73 := callable_of Tryz.func73 rfl (by rfl)
theorem sort_c (b : Nat) (zs : List Int) (s : St) (hl : VS.look s.rows b = some (1, intsE zs)) (hlen : zs.length < 4611686018427387904) :
    CallC Tryz.prog 73 [.rs b zs.length] s (fun _ s' => s' = { s with rows := putAt s.rows b (1, intsE (sorted zs)) }) (fun _ _ => False) := by
  refine ⟨sort_callable, fun w g vals hst hn hr => ?_⟩
  have h0 := hr 0 (by simp)
  obtain ⟨hv, hb, hle⟩ := h0.rs_inv
  have hvals : vals = #[.slice (some ⟨b, 0, none⟩) zs.length (g.rc b)] := by
    apply Array.ext
    · simpa using hn
    · intro i h1 h2
      have : i = 0 := by simpa using h2
      subst this
      exact hv
  obtain ⟨arr, et, harr, hrz, hne, hasz, hcm, hes, hel⟩ := hst.rows b 1 _ hl
  have hH : Sort.Holds (Value.int .i64) w b 0 zs.toArray := by
    intro j hj
    have hj' : j < zs.length := by simpa using hj
    obtain ⟨u, h1, h2⟩ := hel j 0 (by rw [intsE_length]; exact hj') (by rw [intsE_len zs _ (List.getElem_mem _)]; omega)
    have h3 : u = .int .i64 zs[j] := by
      have : (intsE zs)[j]'(by rw [intsE_length]; exact hj') = [I zs[j]] := by simp [intsE]
      simp only [this] at h2
      exact h2.v_eq
    subst h3
    constructor
    · simp only [World.cell?, harr, Nat.zero_add, Option.isSome_none, Bool.false_eq_true, if_false]
      have h1' : arr[j]? = some (.int .i64 zs[j]) := by simpa using h1
      rw [h1']
      simp [hj']
    · simp [World.frozen?, harr]
  have h := Any.slices_Sort_int Tryz.lays189 b 0 (g.rc b) zs w hH hb hlen
  rw [hvals]
  refine h.mono fun e w' he => ?_
  obtain ⟨rfl, n, os, rfl⟩ := he
  obtain ⟨q1, q2⟩ := sortRow (d := sorted zs) hst hl (by simp [sorted]) n os
  exact ⟨.v (.tuple #[]), _, g, q1, q2, .v _, rfl⟩
theorem sort_nil_c (s : St) : CallC Tryz.prog 73 [.li none []] s (fun _ s' => s' = s) (fun _ _ => False) := by
  refine ⟨sort_callable, fun w g vals hst hn hr => ?_⟩
  have h0 := hr 0 (by simp)
  obtain ⟨A, cap, b, o, z, u, hv, _⟩ := h0.li_inv
  have hvals : vals = #[.slice A 0 cap] := by
    apply Array.ext
    · simpa using hn
    · intro i h1 h2
      have : i = 0 := by simpa using h2
      subst this
      exact hv
  rw [hvals]
  refine (Any.slices_Sort_int_none Tryz.lays189 A cap w).mono fun e w' he => ?_
  obtain ⟨rfl, rfl⟩ := he
  exact ⟨.v (.tuple #[]), s, g, hst, Step.refl _ _ _, .v _, rfl⟩
end Go.Proofs.YtpmknffollpnaaaGreat
namespace Go.Proofs.YtpmknffollpnaaaGreat
open Go Go.VS
theorem isNaN_c (x : Int) : Pure Tryz.prog 145 [I x] (Bo false) := by
  intro s
  refine CallC_of Tryz.func145 rfl (by rfl) Tryz.ntmps145 (by simp) ?_
  refine W_seq (W_reg ?_)
  simp [go_sem]
  refine W_seq (W_reg ?_)
  simp [go_sem]
  refine W_ret ?_
  simp only [go_sem]
  exact ⟨trivial, _, rfl, s, Sub.refl _, by simp [go_sem], rfl⟩
def cmpI (x y : Int) : Int := if x < y then -1 else if x > y then 1 else 0
theorem compare_c (x y : Int) : Pure Tryz.prog 104 [I x, I y] (I (cmpI x y)) := by
  intro s
  refine CallC_of Tryz.func104 rfl (by rfl) Tryz.ntmps104 (by simp) ?_
  refine W_seq (W_reg ?_)
  simp [go_sem]
  refine W_seq (W_reg ?_)
  simp [go_sem]
  refine Pure.use (isNaN_c _) ?_
  simp [go_sem]
  refine W_seq (W_reg ?_)
  simp [go_sem]
  refine Pure.use (isNaN_c _) ?_
  simp [go_sem]
  refine W_seq (W_seq (W_reg ?_))
  simp [go_sem]
  refine W_ifs false (by simp [go_sem]) (fun h => by cases h) (fun _ => W_skip ?_)
  simp only [go_sem]
  refine W_seq (W_seq (W_reg ?_))
  simp [go_sem]
  refine W_ifs false (by simp [go_sem]) (fun h => by cases h) (fun _ => W_skip ?_)
  simp only [go_sem]
  refine W_seq (W_seq (W_reg ?_))
  simp [go_sem]
  by_cases h1 : x < y
  · refine W_ifs true (by simp [go_sem, h1]) (fun _ => W_seq (W_reg ?_)) (fun h => by cases h)
    simp [go_sem]
    refine W_ret ?_
    simp only [go_sem]
    exact ⟨trivial, _, rfl, s, Sub.refl _, by simp [go_sem, cmpI, h1], rfl⟩
  · refine W_ifs false (by simp [go_sem]; omega) (fun h => by cases h) (fun _ => W_skip ?_)
    simp only [go_sem]
    refine W_seq (W_seq (W_reg ?_))
    simp [go_sem]
    by_cases h2 : x > y
    · refine W_ifs true (by simp [go_sem]; omega) (fun _ => W_seq (W_reg ?_)) (fun h => by cases h)
      simp [go_sem]
      refine W_ret ?_
      simp only [go_sem]
      exact ⟨trivial, _, rfl, s, Sub.refl _, by simp [go_sem, cmpI, h1, h2], rfl⟩
    · refine W_ifs false (by simp [go_sem]; omega) (fun h => by cases h) (fun _ => W_skip ?_)
      simp only [go_sem]
      refine W_seq (W_reg ?_)
      simp [go_sem]
      refine W_ret ?_
      simp only [go_sem]
      exact ⟨trivial, _, rfl, s, Sub.refl _, by simp [go_sem, cmpI, h1, h2], rfl⟩
end Go.Proofs.YtpmknffollpnaaaGreat
namespace Go.Proofs.YtpmknffollpnaaaGreat
open Go Go.VS
/-- slices.Clone of integers, to be written: nil, or a row. -/
theorem cloneI_c (l : List Int) (hl : l.length * 8 ≤ 140737488355328) (s : St) : CallC Tryz.prog 96 [LI l] s (fun c s' => ∃ R', s' = { s with rows := R' } ∧ RowIn s.rows R' c 1 (intsE l)) (fun _ _ => False) := by
  refine CallC_of Tryz.func96 rfl (by rfl) Tryz.ntmps96 (by simp) ?_
  refine W_seq (W_reg ?_)
  simp [go_sem]
  refine W_seq (W_seq (W_region ?_))
  simp only [List.map, conv]
  refine WL_rd (c := LI l) (by simp [go_sem]) (by simp) ?_
  refine WL_isnil (tok := none) (es := intsE l) (e := 3) (by simp [go_sem]) tel_23 (by simp) fun t ht => ?_
  refine WL_run _ _ _ ?_
  simp [go_sem]
  cases t
  · refine W_ifs false (by simp [go_sem]) (fun h => by cases h) (fun _ => W_skip ?_)
    simp only [go_sem]
    refine W_seq (W_reg ?_)
    simp [go_sem]
    refine WL_buildSliceRow tel_23 (by simp [go_sem]) (by simp) (by simp) (by simp [partsC]) (by simp [partsC]) (by simp [go_sem]) (by simp) (by simp) fun b hb1 hb2 => WL_run _ _ _ ?_
    simp [go_sem, partsC]
    have hr : RowIn s.rows ((b, 1, []) :: s.rows) (.rs b 0) 1 [] := ⟨.inr (.inr ⟨b, rfl, by simp [VS.look]⟩), fun k x hk => by
      have : b ≠ k := fun e => by subst e; rw [hb1] at hk; cases hk
      simp [VS.look, this, hk], fun b' n hb => by cases hb; exact hb1⟩
    refine WL_appendRow (R0 := s.rows) (es := []) (es2 := intsE l) (e := 3) (by simpa [go_sem] using hr) (by simp [go_sem]) tel_23 (by simp [go_sem]) (by simp [go_sem]) (by simp [go_sem, elsC]) (fun q hq => by rw [intsE_len l q hq]; simp [go_sem]) (by simp [go_sem, intsE_length]; omega) (by simp [go_sem]) (by simp) fun c' R' hR hnl => WL_run _ _ _ ?_
    simp [go_sem]
    refine W_ret ?_
    simp only [go_sem]
    rw [tsz_3] at hR
    simp only [List.nil_append] at hR
    refine ⟨trivial, _, rfl, _, Sub.refl _, R', rfl, ?_⟩
    rcases hR.row with ⟨h1, h2⟩ | ⟨h1, h2⟩ | ⟨b', h1, h2⟩
    · exact ⟨.inr (.inl ⟨by simp [go_sem, h1], h2⟩), hR.old, fun b n hb => by simp [go_sem, h1] at hb⟩
    · exact ⟨.inr (.inl ⟨by simp [go_sem, h1], h2⟩), hR.old, fun b n hb => by simp [go_sem, h1] at hb⟩
    · have hs : strip c' = c' := by rw [h1]; rfl
      have he : ∀ x, x = c' → RowIn s.rows R' (strip x) 1 (intsE l) := fun x hx => by rw [hx, hs]; exact hR
      exact he _ (by simp [set_f])
  · have hnil : l = [] := by
      cases l with
      | nil => rfl
      | cons n l => have := ht (by simp [intsE]); cases this
    refine W_ifs true (by simp [go_sem]) (fun _ => W_seq (W_reg ?_)) (fun h => by cases h)
    simp [go_sem]
    refine W_ret ?_
    simp only [go_sem]
    refine ⟨trivial, _, rfl, s, Sub.refl _, s.rows, rfl, ?_⟩
    subst hnil
    exact ⟨.inr (.inl ⟨by simp [go_sem], rfl⟩), fun _ _ h => h, fun b n hb => by simp [go_sem] at hb⟩
theorem frsE_len (l : List Fr) : ∀ x ∈ frsE l, x.length = 2 := by
  intro e he
  obtain ⟨n, _, rfl⟩ := List.mem_map.1 he
  rfl
/-- slices.Clone of freed pages, to be written: nil, or a row. -/
theorem cloneF_c (l : List Fr) (hl : l.length * 32 ≤ 140737488355328) (s : St) : CallC Tryz.prog 98 [LF l] s (fun c s' => ∃ R', s' = { s with rows := R' } ∧ RowIn s.rows R' c 2 (frsE l)) (fun _ _ => False) := by
  refine CallC_of Tryz.func98 rfl (by rfl) Tryz.ntmps98 (by simp) ?_
  refine W_seq (W_reg ?_)
  simp [go_sem]
  refine W_seq (W_seq (W_region ?_))
  simp only [List.map, conv]
  refine WL_rd (c := LF l) (by simp [go_sem]) (by simp) ?_
  refine WL_isnil (tok := none) (es := frsE l) (e := 64) (by simp [go_sem]) tel_26 (by simp) fun t ht => ?_
  refine WL_run _ _ _ ?_
  simp [go_sem]
  cases t
  · refine W_ifs false (by simp [go_sem]) (fun h => by cases h) (fun _ => W_skip ?_)
    simp only [go_sem]
    refine W_seq (W_reg ?_)
    simp [go_sem]
    refine WL_buildSliceRow tel_26 (by simp [go_sem]) (by simp) (by simp) (by simp [partsC]) (by simp [partsC]) (by simp [go_sem]) (by simp) (by simp) fun b hb1 hb2 => WL_run _ _ _ ?_
    simp [go_sem, partsC]
    have hr : RowIn s.rows ((b, 2, []) :: s.rows) (.rs b 0) 2 [] := ⟨.inr (.inr ⟨b, rfl, by simp [VS.look]⟩), fun k x hk => by
      have : b ≠ k := fun e => by subst e; rw [hb1] at hk; cases hk
      simp [VS.look, this, hk], fun b' n hb => by cases hb; exact hb1⟩
    refine WL_appendRow (R0 := s.rows) (es := []) (es2 := frsE l) (e := 64) (by simpa [go_sem] using hr) (by simp [go_sem]) tel_26 (by simp [go_sem]) (by simp [go_sem]) (by simp [go_sem, elsC]) (fun q hq => by rw [frsE_len l q hq]; simp [go_sem]) (by simp [go_sem, frsE_length]; omega) (by simp [go_sem]) (by simp) fun c' R' hR hnl => WL_run _ _ _ ?_
    simp [go_sem]
    refine W_ret ?_
    simp only [go_sem]
    rw [tsz_64] at hR
    simp only [List.nil_append] at hR
    refine ⟨trivial, _, rfl, _, Sub.refl _, R', rfl, ?_⟩
    rcases hR.row with ⟨h1, h2⟩ | ⟨h1, h2⟩ | ⟨b', h1, h2⟩
    · exact ⟨.inr (.inl ⟨by simp [go_sem, h1], h2⟩), hR.old, fun b n hb => by simp [go_sem, h1] at hb⟩
    · exact ⟨.inr (.inl ⟨by simp [go_sem, h1], h2⟩), hR.old, fun b n hb => by simp [go_sem, h1] at hb⟩
    · have hs : strip c' = c' := by rw [h1]; rfl
      have he : ∀ x, x = c' → RowIn s.rows R' (strip x) 2 (frsE l) := fun x hx => by rw [hx, hs]; exact hR
      exact he _ (by simp [set_f])
  · have hnil : l = [] := by
      cases l with
      | nil => rfl
      | cons n l => have := ht (by simp [frsE]); cases this
    refine W_ifs true (by simp [go_sem]) (fun _ => W_seq (W_reg ?_)) (fun h => by cases h)
    simp [go_sem]
    refine W_ret ?_
    simp only [go_sem]
    refine ⟨trivial, _, rfl, s, Sub.refl _, s.rows, rfl, ?_⟩
    subst hnil
    exact ⟨.inr (.inl ⟨by simp [go_sem], rfl⟩), fun _ _ h => h, fun b n hb => by simp [go_sem] at hb⟩
end Go.Proofs.YtpmknffollpnaaaGreat
namespace Go.Proofs.YtpmknffollpnaaaGreat
open Go Go.VS
theorem _root_.Go.VS.RowIn.strip {R0 R : VS.Rows} {c : C} {z : Nat} {es : List (List C)} (h : RowIn R0 R c z es) : RowIn R0 R (VS.strip c) z es := by
  rcases h.row with ⟨h1, h2⟩ | ⟨h1, h2⟩ | ⟨b', h1, h2⟩
  · exact ⟨.inr (.inl ⟨by simp [go_sem, h1], h2⟩), h.old, fun b n hb => by simp [go_sem, h1] at hb⟩
  · exact ⟨.inr (.inl ⟨by simp [go_sem, h1], h2⟩), h.old, fun b n hb => by simp [go_sem, h1] at hb⟩
  · have : VS.strip c = c := by rw [h1]; rfl
    rw [this]; exact h
/-- Slices to be put together. -/
def lls (ps : List (List (List C))) : List (List C) := ps.map fun es => [C.li none es]
theorem lls_length (ps : List (List (List C))) : (lls ps).length = ps.length := by simp [lls]
theorem lls_get (ps : List (List (List C))) (i : Nat) : (lls ps)[i]? = (ps[i]?).map fun es => [C.li none es] := by simp [lls]
def CatI (tok : Option Nat) (ps : List (List (List C))) (z : Nat) (s1 : St) (k : Nat) (L : List (Nat × C)) (s' : St) : Prop :=
  ∃ c' R', L = [(25, .li tok (lls ps)), (6, c')] ∧ s' = { s1 with rows := R' } ∧ RowIn s1.rows R' c' z (ps.take k).flatten ∧ (c' = .li none [] → ps.flatten.length = 0)
def tot (ps : List (List (List C))) : Nat := ps.flatten.length
theorem tot_take (ps : List (List (List C))) (k : Nat) : tot (ps.take k) ≤ tot ps := by
  unfold tot
  conv => rhs; rw [← List.take_append_drop k ps]
  rw [List.flatten_append, List.length_append]
  omega
theorem flat_succ (ps : List (List (List C))) (k : Nat) (hk : k < ps.length) : (ps.take (k + 1)).flatten = (ps.take k).flatten ++ ps[k] := by
  rw [List.take_succ_eq_append_getElem hk, List.flatten_append]
  simp
/-- slices.Grow of nil: nothing, or an empty row with room. -/
theorem grow146_c (n : Nat) (hn : n * 8 ≤ 140737488355328) (s : St) : CallC Tryz.prog 146 [.v (.slice none 0 0), I n] s (fun c s' => (n = 0 ∧ c = .li none [] ∧ s' = s) ∨ (0 < n ∧ ∃ b, c = .rs b 0 ∧ VS.look s.rows b = none ∧ s' = { s with rows := (b, (1, [])) :: s.rows })) (fun _ _ => False) := by
  refine CallC_of Tryz.func146 rfl (by rfl) Tryz.ntmps146 (by simp) ?_
  refine W_seq (W_reg ?_)
  simp [go_sem]
  refine W_seq (W_seq (W_reg ?_))
  simp [go_sem]
  refine W_ifs false (by simp [go_sem]) (fun h => by cases h) (fun _ => W_skip ?_)
  simp only [go_sem]
  refine W_seq (W_seq (W_reg ?_))
  simp [go_sem]
  refine WL_capNil (by simp [go_sem]) tel_23 (by simp) (WL_run _ _ _ ?_)
  have hw0 : IntKind.i64.wrap 0 = 0 := by decide
  have hwn : IntKind.i64.wrap (n : Int) = (n : Int) := wrap_in (by omega) (by omega)
  simp [go_sem, hw0, hwn]
  refine W_seq (W_reg ?_)
  simp [go_sem]
  by_cases h0 : 0 < n
  · refine W_ifs true (by simp [go_sem, h0]) (fun _ => W_reg ?_) (fun h => by cases h)
    simp [go_sem]
    refine WL_capNil (by simp [go_sem]) tel_23 (by simp) ?_
    refine WL_sliceNil (k := .i64) (by simp [go_sem]) (by simp [go_sem]) tel_23 (by simp [go_sem]) (by simp) (WL_run _ _ _ ?_)
    simp [go_sem]
    refine WL_growNil (n := n) (k := .i64) (kn := .i64) (by simp [go_sem]) (by simp [go_sem]) tel_23 tint_3 (by simp [go_sem]) (by simp [go_sem]) (by simp [go_sem]) (by simp [go_sem]) h0 (by simp [go_sem]; omega) (by simp) fun b hb1 hb2 => WL_run _ _ _ ?_
    simp [go_sem]
    refine W_seq (W_reg ?_)
    simp [go_sem]
    refine W_ret ?_
    simp only [go_sem]
    refine ⟨trivial, _, rfl, _, Sub.refl _, .inr ⟨h0, b, by simp [go_sem], hb1, by simp [go_sem]⟩⟩
  · have h0' : n = 0 := by omega
    refine W_ifs false (by simp [go_sem, h0']) (fun h => by cases h) (fun _ => W_skip ?_)
    simp only [go_sem]
    refine W_seq (W_reg ?_)
    simp [go_sem]
    refine W_ret ?_
    simp only [go_sem]
    exact ⟨trivial, _, rfl, s, Sub.refl _, .inl ⟨h0', by simp [go_sem], rfl⟩⟩
/-- slices.Concat: a new row, or nothing. -/
theorem concat106_c (tok : Option Nat) (ps : List (List (List C))) (hz : ∀ es ∈ ps, ∀ e ∈ es, e.length = 1) (hb : tot ps * 8 ≤ 140737488355328) (s : St) :
    CallC Tryz.prog 106 [.li tok (lls ps)] s (fun c s' => ∃ R', s' = { s with rows := R' } ∧ RowIn s.rows R' c 1 ps.flatten) (fun _ _ => False) := by
  refine CallC_of Tryz.func106 rfl (by rfl) Tryz.ntmps106 (by simp) ?_
  refine W_seq (W_reg ?_)
  simp [go_sem]
  refine W_seq (W_reg ?_)
  simp [go_sem]
  refine W_seq_k fun K hK => W_seq (W_reg ?_)
  simp [go_sem, lls_length]
  refine W_len 9 (tok := tok) (es := lls ps) (by simp [go_sem]) fun hla => ?_
  rw [lls_length] at hla
  refine W_range ps.length (fun k L s' => L = [(0, .li tok (lls ps)), (9, .li tok (lls ps)), (3, I (tot (ps.take k)))] ∧ s' = s) (l0 := [(0, .li tok (lls ps)), (9, .li tok (lls ps)), (3, I 0)]) (ds := []) (by omega) (by decide) ⟨by simp [tot], rfl⟩ (by simp [go_sem]) rfl (by rintro k _ _ ⟨rfl, _⟩; simp [notIn]) ?_ ?_
  · rintro k _ s1 hlt ⟨rfl, rfl⟩
    refine W_seq (W_reg ?_)
    simp [go_sem, lls_get, hlt]
    refine W_seq (W_reg ?_)
    have hsucc : tot (ps.take (k + 1)) = tot (ps.take k) + ps[k].length := by simp only [tot, flat_succ ps k hlt, List.length_append]
    have hle := tot_take ps (k + 1)
    have hw : IntKind.i64.wrap ((tot (ps.take k) : Int) + ps[k].length) = (tot (ps.take (k + 1)) : Int) := by rw [wrap_in (by omega) (by omega)]; omega
    simp [go_sem, hw]
    refine W_seq (W_reg ?_)
    simp [go_sem]
    refine W_ifs false (by simp [go_sem]) (fun h => by cases h) (fun _ => W_skip ?_)
    simp [go_sem]
  · rintro _ s1 x ⟨rfl, rfl⟩
    simp only [go_sem]
    rw [List.take_length]
    refine hK _ _ ?_
    refine W_seq (W_reg ?_)
    simp [go_sem]
    refine (grow146_c (tot ps) hb _).use (fun c s2 hc => ?_) (fun _ _ h => h.elim)
    have hnew : ∃ R1, s2 = { s1 with rows := R1 } ∧ RowIn s1.rows R1 c 1 [] ∧ (c = .li none [] → tot ps = 0) := by
      rcases hc with ⟨h0, rfl, rfl⟩ | ⟨h0, b, rfl, hb0, rfl⟩
      · exact ⟨_, rfl, ⟨.inr (.inl ⟨rfl, rfl⟩), fun _ _ h => h, fun b n hb => by cases hb⟩, fun _ => h0⟩
      · exact ⟨_, rfl, ⟨.inr (.inr ⟨b, rfl, by simp [VS.look]⟩), fun k x hk => by
          have : b ≠ k := fun e => by subst e; rw [hb0] at hk; cases hk
          simp [VS.look, this, hk], fun b' n hb => by cases hb; exact hb0⟩, fun h => by cases h⟩
    obtain ⟨R1, rfl, hR1, hc0⟩ := hnew
    simp [go_sem]
    refine W_seq_k fun K2 hK2 => W_seq (W_reg ?_)
    simp [go_sem, lls_length]
    refine W_range ps.length (CatI tok ps 1 s1) (l0 := [(25, .li tok (lls ps)), (6, c)]) (ds := []) (by omega) (by decide) ⟨c, R1, rfl, rfl, by simpa using hR1, hc0⟩ (by simp [go_sem]) rfl (by rintro k _ _ ⟨c', R', rfl, _⟩; simp [notIn]) ?_ ?_
    · rintro k _ s3 hlt ⟨c', R', rfl, rfl, hR, hc'⟩
      refine W_seq (W_reg ?_)
      simp [go_sem, lls_get, hlt]
      refine W_reg ?_
      simp [go_sem]
      have hsucc := flat_succ ps k hlt
      have hle := tot_take ps (k + 1)
      have hlen : (ps.take (k + 1)).flatten.length = (ps.take k).flatten.length + ps[k].length := by rw [hsucc, List.length_append]
      unfold tot at hle
      by_cases hnl : c' = .li none []
      · have ht := hc' hnl
        have hp : ps[k] = [] := List.eq_nil_of_length_eq_zero (by omega)
        refine WL_append0 (tok := none) (es := []) (e := 3) (by simp [go_sem, hnl]) tel_23 (by simp [go_sem]) (by simp [go_sem, elsC, hp]) (by simp) (WL_run _ _ _ ?_)
        simp [go_sem]
        rw [hp, List.append_nil] at hsucc
        rw [hnl] at hR
        exact ⟨_, ⟨_, R', rfl, rfl, by rw [hsucc]; exact hR, fun _ => ht⟩, by simp [go_sem]⟩
      · refine WL_appendRow (R0 := s1.rows) (es := (ps.take k).flatten) (es2 := ps[k]) (e := 3) (by simpa [go_sem] using hR) (by simpa [go_sem] using hnl) tel_23 (by simp [go_sem]) (by simp [go_sem]) (by simp [go_sem, elsC]) (fun q hq => by rw [hz _ (List.getElem_mem hlt) q hq]; simp [go_sem]) (by simp only [tby_3]; unfold tot at hb; have := Nat.mul_le_mul_right 8 hle; omega) (by simp [go_sem]) (by simp) fun c2 R2 hR2 hn2 => WL_run _ _ _ ?_
        simp [go_sem]
        rw [tsz_3, ← hsucc] at hR2
        refine ⟨_, ⟨c2, R2, rfl, rfl, hR2, fun h2 => ?_⟩, by simp [go_sem]⟩
        exact absurd h2 hn2
    · rintro _ s3 x ⟨c', R', rfl, rfl, hR, hc'⟩
      rw [List.take_length] at hR
      simp only [go_sem]
      refine hK2 _ _ ?_
      refine W_seq (W_reg ?_)
      simp [go_sem]
      refine W_ret ?_
      simp only [go_sem]
      refine ⟨trivial, _, rfl, _, Sub.refl _, R', rfl, ?_⟩
      have he : ∀ x, x = c' → RowIn s1.rows R' (strip x) 1 ps.flatten := fun x hx => by rw [hx]; exact hR.strip
      exact he _ (by simp [set_f])
/-- slices.Grow of nil: nothing, or an empty row with room. -/
theorem grow171_c (n : Nat) (hn : n * 32 ≤ 140737488355328) (s : St) : CallC Tryz.prog 171 [.v (.slice none 0 0), I n] s (fun c s' => (n = 0 ∧ c = .li none [] ∧ s' = s) ∨ (0 < n ∧ ∃ b, c = .rs b 0 ∧ VS.look s.rows b = none ∧ s' = { s with rows := (b, (2, [])) :: s.rows })) (fun _ _ => False) := by
  refine CallC_of Tryz.func171 rfl (by rfl) Tryz.ntmps171 (by simp) ?_
  refine W_seq (W_reg ?_)
  simp [go_sem]
  refine W_seq (W_seq (W_reg ?_))
  simp [go_sem]
  refine W_ifs false (by simp [go_sem]) (fun h => by cases h) (fun _ => W_skip ?_)
  simp only [go_sem]
  refine W_seq (W_seq (W_reg ?_))
  simp [go_sem]
  refine WL_capNil (by simp [go_sem]) tel_26 (by simp) (WL_run _ _ _ ?_)
  have hw0 : IntKind.i64.wrap 0 = 0 := by decide
  have hwn : IntKind.i64.wrap (n : Int) = (n : Int) := wrap_in (by omega) (by omega)
  simp [go_sem, hw0, hwn]
  refine W_seq (W_reg ?_)
  simp [go_sem]
  by_cases h0 : 0 < n
  · refine W_ifs true (by simp [go_sem, h0]) (fun _ => W_reg ?_) (fun h => by cases h)
    simp [go_sem]
    refine WL_capNil (by simp [go_sem]) tel_26 (by simp) ?_
    refine WL_sliceNil (k := .i64) (by simp [go_sem]) (by simp [go_sem]) tel_26 (by simp [go_sem]) (by simp) (WL_run _ _ _ ?_)
    simp [go_sem]
    refine WL_growNil (n := n) (k := .i64) (kn := .i64) (by simp [go_sem]) (by simp [go_sem]) tel_26 tint_3 (by simp [go_sem]) (by simp [go_sem]) (by simp [go_sem]) (by simp [go_sem]) h0 (by simp [go_sem]; omega) (by simp) fun b hb1 hb2 => WL_run _ _ _ ?_
    simp [go_sem]
    refine W_seq (W_reg ?_)
    simp [go_sem]
    refine W_ret ?_
    simp only [go_sem]
    refine ⟨trivial, _, rfl, _, Sub.refl _, .inr ⟨h0, b, by simp [go_sem], hb1, by simp [go_sem]⟩⟩
  · have h0' : n = 0 := by omega
    refine W_ifs false (by simp [go_sem, h0']) (fun h => by cases h) (fun _ => W_skip ?_)
    simp only [go_sem]
    refine W_seq (W_reg ?_)
    simp [go_sem]
    refine W_ret ?_
    simp only [go_sem]
    exact ⟨trivial, _, rfl, s, Sub.refl _, .inl ⟨h0', by simp [go_sem], rfl⟩⟩
/-- slices.Concat: a new row, or nothing. -/
theorem concat144_c (tok : Option Nat) (ps : List (List (List C))) (hz : ∀ es ∈ ps, ∀ e ∈ es, e.length = 2) (hb : tot ps * 32 ≤ 140737488355328) (s : St) :
    CallC Tryz.prog 144 [.li tok (lls ps)] s (fun c s' => ∃ R', s' = { s with rows := R' } ∧ RowIn s.rows R' c 2 ps.flatten) (fun _ _ => False) := by
  refine CallC_of Tryz.func144 rfl (by rfl) Tryz.ntmps144 (by simp) ?_
  refine W_seq (W_reg ?_)
  simp [go_sem]
  refine W_seq (W_reg ?_)
  simp [go_sem]
  refine W_seq_k fun K hK => W_seq (W_reg ?_)
  simp [go_sem, lls_length]
  refine W_len 9 (tok := tok) (es := lls ps) (by simp [go_sem]) fun hla => ?_
  rw [lls_length] at hla
  refine W_range ps.length (fun k L s' => L = [(0, .li tok (lls ps)), (9, .li tok (lls ps)), (3, I (tot (ps.take k)))] ∧ s' = s) (l0 := [(0, .li tok (lls ps)), (9, .li tok (lls ps)), (3, I 0)]) (ds := []) (by omega) (by decide) ⟨by simp [tot], rfl⟩ (by simp [go_sem]) rfl (by rintro k _ _ ⟨rfl, _⟩; simp [notIn]) ?_ ?_
  · rintro k _ s1 hlt ⟨rfl, rfl⟩
    refine W_seq (W_reg ?_)
    simp [go_sem, lls_get, hlt]
    refine W_seq (W_reg ?_)
    have hsucc : tot (ps.take (k + 1)) = tot (ps.take k) + ps[k].length := by simp only [tot, flat_succ ps k hlt, List.length_append]
    have hle := tot_take ps (k + 1)
    have hw : IntKind.i64.wrap ((tot (ps.take k) : Int) + ps[k].length) = (tot (ps.take (k + 1)) : Int) := by rw [wrap_in (by omega) (by omega)]; omega
    simp [go_sem, hw]
    refine W_seq (W_reg ?_)
    simp [go_sem]
    refine W_ifs false (by simp [go_sem]) (fun h => by cases h) (fun _ => W_skip ?_)
    simp [go_sem]
  · rintro _ s1 x ⟨rfl, rfl⟩
    simp only [go_sem]
    rw [List.take_length]
    refine hK _ _ ?_
    refine W_seq (W_reg ?_)
    simp [go_sem]
    refine (grow171_c (tot ps) hb _).use (fun c s2 hc => ?_) (fun _ _ h => h.elim)
    have hnew : ∃ R1, s2 = { s1 with rows := R1 } ∧ RowIn s1.rows R1 c 2 [] ∧ (c = .li none [] → tot ps = 0) := by
      rcases hc with ⟨h0, rfl, rfl⟩ | ⟨h0, b, rfl, hb0, rfl⟩
      · exact ⟨_, rfl, ⟨.inr (.inl ⟨rfl, rfl⟩), fun _ _ h => h, fun b n hb => by cases hb⟩, fun _ => h0⟩
      · exact ⟨_, rfl, ⟨.inr (.inr ⟨b, rfl, by simp [VS.look]⟩), fun k x hk => by
          have : b ≠ k := fun e => by subst e; rw [hb0] at hk; cases hk
          simp [VS.look, this, hk], fun b' n hb => by cases hb; exact hb0⟩, fun h => by cases h⟩
    obtain ⟨R1, rfl, hR1, hc0⟩ := hnew
    simp [go_sem]
    refine W_seq_k fun K2 hK2 => W_seq (W_reg ?_)
    simp [go_sem, lls_length]
    refine W_range ps.length (CatI tok ps 2 s1) (l0 := [(25, .li tok (lls ps)), (6, c)]) (ds := []) (by omega) (by decide) ⟨c, R1, rfl, rfl, by simpa using hR1, hc0⟩ (by simp [go_sem]) rfl (by rintro k _ _ ⟨c', R', rfl, _⟩; simp [notIn]) ?_ ?_
    · rintro k _ s3 hlt ⟨c', R', rfl, rfl, hR, hc'⟩
      refine W_seq (W_reg ?_)
      simp [go_sem, lls_get, hlt]
      refine W_reg ?_
      simp [go_sem]
      have hsucc := flat_succ ps k hlt
      have hle := tot_take ps (k + 1)
      have hlen : (ps.take (k + 1)).flatten.length = (ps.take k).flatten.length + ps[k].length := by rw [hsucc, List.length_append]
      unfold tot at hle
      by_cases hnl : c' = .li none []
      · have ht := hc' hnl
        have hp : ps[k] = [] := List.eq_nil_of_length_eq_zero (by omega)
        refine WL_append0 (tok := none) (es := []) (e := 64) (by simp [go_sem, hnl]) tel_26 (by simp [go_sem]) (by simp [go_sem, elsC, hp]) (by simp) (WL_run _ _ _ ?_)
        simp [go_sem]
        rw [hp, List.append_nil] at hsucc
        rw [hnl] at hR
        exact ⟨_, ⟨_, R', rfl, rfl, by rw [hsucc]; exact hR, fun _ => ht⟩, by simp [go_sem]⟩
      · refine WL_appendRow (R0 := s1.rows) (es := (ps.take k).flatten) (es2 := ps[k]) (e := 64) (by simpa [go_sem] using hR) (by simpa [go_sem] using hnl) tel_26 (by simp [go_sem]) (by simp [go_sem]) (by simp [go_sem, elsC]) (fun q hq => by rw [hz _ (List.getElem_mem hlt) q hq]; simp [go_sem]) (by simp only [tby_64]; unfold tot at hb; have := Nat.mul_le_mul_right 32 hle; omega) (by simp [go_sem]) (by simp) fun c2 R2 hR2 hn2 => WL_run _ _ _ ?_
        simp [go_sem]
        rw [tsz_64, ← hsucc] at hR2
        refine ⟨_, ⟨c2, R2, rfl, rfl, hR2, fun h2 => ?_⟩, by simp [go_sem]⟩
        exact absurd h2 hn2
    · rintro _ s3 x ⟨c', R', rfl, rfl, hR, hc'⟩
      rw [List.take_length] at hR
      simp only [go_sem]
      refine hK2 _ _ ?_
      refine W_seq (W_reg ?_)
      simp [go_sem]
      refine W_ret ?_
      simp only [go_sem]
      refine ⟨trivial, _, rfl, _, Sub.refl _, R', rfl, ?_⟩
      have he : ∀ x, x = c' → RowIn s1.rows R' (strip x) 2 ps.flatten := fun x hx => by rw [hx]; exact hR.strip
      exact he _ (by simp [set_f])
end Go.Proofs.YtpmknffollpnaaaGreat
namespace Go.Proofs.YtpmknffollpnaaaGreat
open Go Go.VS
theorem cmpF_c (x y : Fr) : Pure Tryz.prog 103 [.agg (frC x), .agg (frC y)] (I (cmpI x.v y.v)) := by
  intro s
  refine CallC_of Tryz.func103 rfl (by rfl) Tryz.ntmps103 (by simp) ?_
  refine W_seq (W_reg ?_)
  simp [go_sem]
  refine WL_box (by simp [go_sem, frC]) (by simp) fun b hb => WL_run _ _ _ ?_
  simp [go_sem, frC]
  refine WL_box (by simp [go_sem, frC]) (by simp) fun b2 hb2 => WL_run _ _ _ ?_
  have hne : b2 ≠ b := fun e => by subst e; simpa [VS.look] using hb2.1
  simp [go_sem, frC]
  refine W_seq (W_reg ?_)
  simp [go_sem, VS.look, hne]
  refine Pure.use (compare_c _ _) ?_
  simp [go_sem]
  refine W_ret ?_
  simp only [go_sem]
  exact ⟨trivial, _, rfl, s, Sub.trans (sub_obj hb2 _) (sub_obj hb _), by simp [go_sem], rfl⟩
theorem sortRow_c {R0 : VS.Rows} {c : C} (zs : List Int) (s : St) (h : RowIn R0 s.rows c 1 (intsE zs)) (hlen : zs.length < 4611686018427387904) :
    CallC Tryz.prog 73 [c] s (fun _ s' => ∃ R', s' = { s with rows := R' } ∧ RowIn R0 R' c 1 (intsE (sorted zs))) (fun _ _ => False) := by
  have hs0 : zs = [] → sorted zs = [] := fun h => by subst h; simp [sorted]
  rcases h.row with ⟨h1, h2⟩ | ⟨h1, h2⟩ | ⟨b, h1, h2⟩
  · have hz : zs = [] := by cases zs with | nil => rfl | cons _ _ => simp [intsE] at h2
    refine ((sort_nil_c s).less (args := [c]) rfl (fun w g v j hj hv => ?_)).mono (fun c' s' hs => ?_) (fun _ _ h => h.elim)
    · simp only [List.length_cons, List.length_nil, Nat.zero_add, Nat.lt_one_iff] at hj
      subst hj
      simp only [List.getElem_cons_zero, h1] at hv ⊢
      rw [hv.v_eq]
      exact nil_li
    · subst hs
      exact ⟨s'.rows, rfl, by rw [hs0 hz, ← hz]; exact h⟩
  · have hz : zs = [] := by cases zs with | nil => rfl | cons _ _ => simp [intsE] at h2
    rw [h1]
    refine (sort_nil_c s).mono (fun c' s' hs => ?_) (fun _ _ h => h.elim)
    subst hs
    exact ⟨s'.rows, rfl, by rw [hs0 hz, ← hz, ← h1]; exact h⟩
  · have hbn := h.new b _ h1
    rw [intsE_length] at h1
    rw [h1]
    refine (sort_c b zs s h2 hlen).mono (fun c' s' hs => ?_) (fun _ _ h => h.elim)
    subst hs
    refine ⟨_, rfl, .inr (.inr ⟨b, ?_, ?_⟩), fun k x hk => ?_, fun b' n hb' => by cases hb'; exact hbn⟩
    · rw [intsE_length]; simp [sorted]
    · rw [look_putAt, if_pos rfl, h2]; rfl
    · have : k ≠ b := fun e => by subst e; rw [hbn] at hk; cases hk
      rw [look_putAt, if_neg this]
      exact h.old k x hk
theorem _root_.Go.VS.RowIn.stripA {R0 R : VS.Rows} {c : C} {z : Nat} {es : List (List C)} (h : RowIn R0 R c z es) : VS.stripA c = c := by
  rcases h.row with ⟨h1, _⟩ | ⟨h1, _⟩ | ⟨b, h1, _⟩ <;> rw [h1] <;> rfl
theorem lookCons {α : Type} {l : List (Nat × α)} {b k : Nat} {a x : α} (h : VS.look l b = none) (hk : VS.look l k = some x) : VS.look ((b, a) :: l) k = some x := by
  have : b ≠ k := fun e => by subst e; rw [h] at hk; cases hk
  simp [VS.look, this, hk]
theorem sub_tok {s : St} {r : Nat} (h : VS.look s.toks r = none) (x : Nat × Nat) : Sub { s with toks := (r, x) :: s.toks } s :=
  ⟨fun _ _ h => h, fun _ _ h => h, fun k y hk => by
    have : r ≠ k := fun e => by subst e; rw [h] at hk; cases hk
    simp [VS.look, this, hk], fun _ _ h => h⟩
theorem intsE_append (a b : List Int) : intsE (a ++ b) = intsE a ++ intsE b := by simp [intsE]
theorem bothF_c (x y : Fr) (hl : (x.p.length + y.p.length) * 8 ≤ 140737488355328) : Pure Tryz.prog 105 [.agg (frC x), .agg (frC y)] (.agg (frC ⟨x.v, sorted (x.p ++ y.p)⟩)) := by
  intro s
  refine CallC_of Tryz.func105 rfl (by rfl) Tryz.ntmps105 (by simp) ?_
  refine W_seq (W_reg ?_)
  simp [go_sem]
  refine WL_box (by simp [go_sem, frC]) (by simp) fun b hb => WL_run _ _ _ ?_
  simp [go_sem, frC]
  refine WL_box (by simp [go_sem, frC]) (by simp) fun b2 hb2 => WL_run _ _ _ ?_
  have hne : b2 ≠ b := fun e => by subst e; simpa [VS.look] using hb2.1
  simp [go_sem, frC]
  refine WL_alloc tzero_64 (by simp) fun b3 hb3 => WL_run _ _ _ ?_
  have hne3 : b3 ≠ b := fun e => by subst e; simpa [VS.look, hne] using hb3.1
  have hne32 : b3 ≠ b2 := fun e => by subst e; simpa [VS.look] using hb3.1
  simp [go_sem]
  refine W_seq (W_reg ?_)
  simp [go_sem, VS.look, hne, hne3, hne32]
  refine WL_buildSlice tel_205 (by simp [go_sem]) (by rfl) (by rfl) (by simp [partsC, go_sem]) (by simp [partsC, go_sem]) (by simp [go_sem]) (by simp) (by simp) fun r hr => WL_run _ _ _ ?_
  simp [go_sem, partsC]
  refine (concat106_c none [intsE x.p, intsE y.p] (fun es hes e he => by
    simp only [List.mem_cons, List.not_mem_nil, or_false] at hes
    rcases hes with rfl | rfl
    · exact intsE_len _ e he
    · exact intsE_len _ e he) (by simp [tot, intsE_length]; omega) _).use (fun c s2 hc => ?_) (fun _ _ h => h.elim)
  obtain ⟨R1, rfl, hR⟩ := hc
  simp only [List.flatten_cons, List.flatten_nil, List.append_nil, ← intsE_append] at hR
  simp [go_sem]
  refine W_seq (W_reg ?_)
  simp [go_sem]
  rw [hR.stripA]
  refine (sortRow_c _ _ hR (by rw [List.length_append]; omega)).use (fun c2 s2 hc => ?_) (fun _ _ h => h.elim)
  obtain ⟨R2, rfl, hR2⟩ := hc
  simp [go_sem]
  refine W_freeze 5 1 _ s.rows (by simpa [go_sem] using hR2) (intsE_one _) ?_
  refine W_seq (W_reg ?_)
  simp [go_sem, VS.look, hne, hne3, hne32, hne.symm, hne3.symm, hne32.symm]
  refine W_ret ?_
  simp only [go_sem]
  refine ⟨trivial, .agg [I x.v, .li none (intsE (sorted (x.p ++ y.p)))], by simp [go_sem, VS.look, hne, hne3, hne32, hne.symm, hne3.symm, hne32.symm], s, ?_, ?_, rfl⟩
  · exact ⟨fun k x hk => lookCons hb3.1 (lookCons hb2.1 (lookCons hb.1 hk)), fun _ _ h => h, fun k x hk => lookCons hr hk, fun _ _ h => h⟩
  · simp [go_sem, frC]
end Go.Proofs.YtpmknffollpnaaaGreat
namespace Go.Proofs.YtpmknffollpnaaaGreat
open Go Go.VS

/-! ### Numbers in order -/
theorem sorted_perm (l : List Int) : (sorted l).Perm l := List.mergeSort_perm _ _
theorem sorted_le (l : List Int) : (sorted l).Pairwise (· ≤ ·) := by
  have := List.pairwise_mergeSort (le := fun x y : Int => decide (x ≤ y)) (fun a b c h1 h2 => by simp at *; omega) (fun a b => by simp; omega) l
  exact this.imp fun h => by simpa using h
theorem eq_of_le {a b : List Int} (h : a.Perm b) (ha : a.Pairwise (· ≤ ·)) (hb : b.Pairwise (· ≤ ·)) : a = b :=
  h.eq_of_pairwise (fun x y _ _ h1 h2 => Int.le_antisymm h1 h2) ha hb
theorem lt_of_le_nodup {l : List Int} (h : l.Pairwise (· ≤ ·)) (hn : l.Nodup) : l.Pairwise (· < ·) := by
  have := List.Pairwise.and h hn
  exact this.imp fun h => by omega
/-- A number put in its place. -/
def withI (l : List Int) (n : Int) : List Int := l.takeWhile (fun x => decide (x < n)) ++ n :: l.dropWhile (fun x => decide (x < n))
theorem withI_perm (l : List Int) (n : Int) : (withI l n).Perm (n :: l) := by
  unfold withI
  refine List.perm_middle.trans ?_
  rw [List.takeWhile_append_dropWhile]
theorem withI_le (l : List Int) (n : Int) (h : l.Pairwise (· ≤ ·)) : (withI l n).Pairwise (· ≤ ·) := by
  induction l with
  | nil => simp [withI]
  | cons x l ih =>
    have hx := List.pairwise_cons.1 h
    have ih := ih hx.2
    unfold withI at ih ⊢
    by_cases hlt : x < n
    · simp only [List.takeWhile_cons, List.dropWhile_cons, hlt, decide_true, if_true, List.cons_append, List.pairwise_cons]
      refine ⟨fun y hy => ?_, ih⟩
      have hp := withI_perm l n
      unfold withI at hp
      rcases List.mem_cons.1 (hp.mem_iff.1 hy) with rfl | hy
      · omega
      · exact hx.1 y hy
    · simp only [List.takeWhile_cons, List.dropWhile_cons, hlt, decide_false, Bool.false_eq_true, if_false, List.nil_append, List.pairwise_cons]
      refine ⟨fun y hy => ?_, hx.1, hx.2⟩
      rcases List.mem_cons.1 hy with rfl | hy
      · omega
      · have := hx.1 y hy; omega
theorem foldWith_perm (l q : List Int) : (q.foldl withI l).Perm (l ++ q) := by
  induction q generalizing l with
  | nil => simp
  | cons n q ih =>
    refine (ih _).trans ?_
    refine ((withI_perm l n).append_right q).trans ?_
    exact List.perm_middle.symm
theorem foldWith_le (l q : List Int) (h : l.Pairwise (· ≤ ·)) : (q.foldl withI l).Pairwise (· ≤ ·) := by
  induction q generalizing l with
  | nil => exact h
  | cons n q ih => exact ih _ (withI_le l n h)
theorem foldWith_eq (l q : List Int) (h : l.Pairwise (· ≤ ·)) : q.foldl withI l = sorted (l ++ q) :=
  eq_of_le ((foldWith_perm l q).trans (sorted_perm _).symm) (foldWith_le l q h) (sorted_le _)

/-! ### Lists -/
def mergeF : List Fr → List Fr → List Fr
  | [], b => b
  | a, [] => a
  | x :: a, y :: b => if x.v < y.v then x :: mergeF a (y :: b) else if y.v < x.v then y :: mergeF (x :: a) b else ⟨x.v, sorted (x.p ++ y.p)⟩ :: mergeF a b
termination_by a b => a.length + b.length
theorem mergeF_nil (b : List Fr) : mergeF [] b = b := by unfold mergeF; rfl
theorem mergeF_nil' (a : List Fr) : mergeF a [] = a := by cases a <;> (unfold mergeF; rfl)
theorem mergeF_cons (x y : Fr) (a b : List Fr) : mergeF (x :: a) (y :: b) = if x.v < y.v then x :: mergeF a (y :: b) else if y.v < x.v then y :: mergeF (x :: a) b else ⟨x.v, sorted (x.p ++ y.p)⟩ :: mergeF a b := by
  rw [mergeF]
def goPut (v : Int) (ps : List Int) : Bool → List Fr → List Fr
  | done, [] => if done then [] else [⟨v, ps⟩]
  | done, x :: l => if x.v = v then ⟨v, ps.foldl withI x.p⟩ :: goPut v ps true l else if v < x.v ∧ done = false then ⟨v, ps⟩ :: x :: goPut v ps true l else x :: goPut v ps done l
def putR (l : List Fr) (v : Int) (ps : List Int) : List Fr := if ps = [] then l else goPut v ps false l

/-- A list as it ought to be, its numbers in order. -/
structure Inc (l : List Fr) : Prop where
  v : l.Pairwise fun x y => x.v < y.v
  ne : ∀ f ∈ l, f.p ≠ []
  p : ∀ f ∈ l, f.p.Pairwise (· ≤ ·)
theorem Inc.tail {x : Fr} {l : List Fr} (h : Inc (x :: l)) : Inc l := ⟨(List.pairwise_cons.1 h.v).2, fun f hf => h.ne f (by simp [hf]), fun f hf => h.p f (by simp [hf])⟩
theorem goPut_done {v : Int} {ps : List Int} {l : List Fr} (h : ∀ f ∈ l, v < f.v) : goPut v ps true l = l := by
  induction l with
  | nil => simp [goPut]
  | cons x l ih =>
    have := h x (by simp)
    have e : ¬ x.v = v := by omega
    simp [goPut, e, ih fun f hf => h f (by simp [hf])]
theorem putR_lt {x : Fr} {l : List Fr} {v : Int} {ps : List Int} (h : x.v < v) : putR (x :: l) v ps = x :: putR l v ps := by
  unfold putR
  split
  · rfl
  · have e : ¬ x.v = v := by omega
    have e2 : ¬ v < x.v := by omega
    simp [goPut, e, e2]
theorem fold_lt {x : Fr} {l b : List Fr} (h : ∀ f ∈ b, x.v < f.v) : b.foldl (fun o f => putR o f.v f.p) (x :: l) = x :: b.foldl (fun o f => putR o f.v f.p) l := by
  induction b generalizing l with
  | nil => rfl
  | cons y b ih =>
    simp only [List.foldl_cons]
    rw [putR_lt (h y (by simp)), ih fun f hf => h f (by simp [hf])]
theorem fold_put {a b : List Fr} (ha : Inc a) (hb : Inc b) : b.foldl (fun o f => putR o f.v f.p) a = mergeF a b := by
  match a, b with
  | a, [] => rw [mergeF_nil']; rfl
  | [], y :: b =>
    have hy := List.pairwise_cons.1 hb.v
    have ih := fold_put (a := []) (b := b) ha hb.tail
    have hne := hb.ne y (by simp)
    simp only [List.foldl_cons, mergeF_nil] at ih ⊢
    have : putR [] y.v y.p = [y] := by simp [putR, hne, goPut]
    rw [this, fold_lt hy.1, ih]
  | x :: a, y :: b =>
    have hx := List.pairwise_cons.1 ha.v
    have hy := List.pairwise_cons.1 hb.v
    have hne := hb.ne y (by simp)
    rw [mergeF_cons]
    split
    · rename_i hlt
      rw [fold_lt (fun f hf => by
        rcases List.mem_cons.1 hf with rfl | hf
        · exact hlt
        · have := hy.1 f hf; omega), fold_put ha.tail hb]
    · split
      · rename_i h1 h2
        simp only [List.foldl_cons]
        have hg : goPut y.v y.p true a = a := goPut_done fun f hf => by have := hx.1 f hf; omega
        have e : ¬ x.v = y.v := by omega
        have : putR (x :: a) y.v y.p = y :: x :: a := by simp [putR, hne, goPut, e, h2, hg]
        rw [this, fold_lt hy.1, fold_put ha hb.tail]
      · rename_i h1 h2
        have e : x.v = y.v := by omega
        simp only [List.foldl_cons]
        have hg : goPut y.v y.p true a = a := goPut_done fun f hf => by have := hx.1 f hf; omega
        have : putR (x :: a) y.v y.p = ⟨x.v, sorted (x.p ++ y.p)⟩ :: a := by
          simp [putR, hne, goPut, e, hg, foldWith_eq x.p y.p (ha.p x (by simp))]
        rw [this, fold_lt (fun f hf => by have := hy.1 f hf; show x.v < f.v; omega), fold_put ha.tail hb.tail]
termination_by a.length + b.length

theorem nums_nil : nums [] = [] := rfl
theorem nums_cons (x : Fr) (l : List Fr) : nums (x :: l) = x.p ++ nums l := by
  simp only [nums, pairs, List.flatMap_cons, List.map_append, List.map_map]
  congr 1
  exact List.map_id _
theorem nums_append (a b : List Fr) : nums (a ++ b) = nums a ++ nums b := by simp [nums, pairs]
theorem nums_flat (l : List Fr) : nums l = l.flatMap (·.p) := by
  induction l with
  | nil => rfl
  | cons x l ih => rw [nums_cons, ih]; rfl
theorem nums_merge (a b : List Fr) : (nums (mergeF a b)).Perm (nums a ++ nums b) := by
  match a, b with
  | a, [] => rw [mergeF_nil']; simp [nums_nil]
  | [], y :: b => rw [mergeF_nil]; simp [nums_nil]
  | x :: a, y :: b =>
    rw [mergeF_cons]
    split
    · rw [nums_cons, nums_cons x a, List.append_assoc]
      exact (nums_merge a (y :: b)).append_left _
    · split
      · rw [nums_cons, nums_cons y b]
        refine ((nums_merge (x :: a) b).append_left _).trans ?_
        rw [← List.append_assoc, ← List.append_assoc]
        exact List.perm_append_comm.append_right _
      · rw [nums_cons, nums_cons x a, nums_cons y b]
        refine ((sorted_perm _).append (nums_merge a b)).trans ?_
        simp only [List.append_assoc]
        refine List.Perm.append_left _ ?_
        rw [← List.append_assoc, ← List.append_assoc]
        exact List.perm_append_comm.append_right _
termination_by a.length + b.length

/-! ### Validity -/
def okF (f : Fr) (pages : Int) : Prop := 0 ≤ f.v ∧ f.v ≤ 1099511627776 ∧ f.p ≠ [] ∧ f.p.Pairwise (· < ·) ∧ ∀ n ∈ f.p, 2 ≤ n ∧ n ≤ pages - 1
structure Good (l : List Fr) (pages : Int) : Prop where
  v : l.Pairwise fun x y => x.v < y.v
  ok : ∀ f ∈ l, okF f pages
  nd : (nums l).Nodup
theorem pair_of_adj {α : Type} (r : α → α → Prop) (tr : ∀ x y z, r x y → r y z → r x z) (l : List α) (h : ∀ i (hi : i + 1 < l.length), r l[i] l[i + 1]) : l.Pairwise r := by
  rw [List.pairwise_iff_getElem]
  intro i j hi hj hij
  obtain ⟨k, rfl⟩ : ∃ k, j = i + 1 + k := ⟨j - (i + 1), by omega⟩
  induction k with
  | zero => exact h i hj
  | succ k ih => exact tr _ _ _ (ih (by omega) (by omega)) (h (i + 1 + k) hj)
theorem incr_iff (l : List Int) (pages : Int) : incr l pages = true ↔ l.Pairwise (· < ·) ∧ ∀ n ∈ l, 2 ≤ n ∧ n ≤ pages - 1 := by
  constructor
  · intro h
    refine ⟨pair_of_adj (fun x y : Int => x < y) (fun x y z h1 h2 => Int.lt_trans h1 h2) l fun i hi => ?_, incr_range h⟩
    unfold incr at h
    rw [List.all_eq_true] at h
    have := h (i + 1) (by simpa using hi)
    have e1 : i < l.length := by omega
    simp [badI, hi, e1] at this
    exact this.2
  · rintro ⟨h1, h2⟩
    refine incr_true fun j hj => ?_
    have hr := h2 l[j] (List.getElem_mem hj)
    rw [List.pairwise_iff_getElem] at h1
    cases j with
    | zero => simp [badI, hj, hr]
    | succ j =>
      have e1 : j < l.length := by omega
      have := h1 j (j + 1) e1 hj (by omega)
      simp [badI, hj, e1, hr, this]
theorem bad_iff (l : List Fr) (pages : Int) : (∀ j, j < l.length → badF l pages j = false) ↔ (l.Pairwise fun x y => x.v < y.v) ∧ ∀ f ∈ l, okF f pages := by
  constructor
  · intro h
    refine ⟨pair_of_adj (fun x y : Fr => x.v < y.v) (fun x y z h1 h2 => Int.lt_trans h1 h2) l fun i hi => ?_, fun f hf => ?_⟩
    · have := h (i + 1) hi
      have e1 : i < l.length := by omega
      simp [badF, hi, e1] at this
      exact this.1.1.2
    · obtain ⟨k, hk, rfl⟩ := List.getElem_of_mem hf
      have := h k hk
      simp [badF, hk] at this
      obtain ⟨⟨⟨h1, h2⟩, h3⟩, h4⟩ := this
      obtain ⟨h5, h6⟩ := (incr_iff _ _).1 h4
      exact ⟨h1.1, h1.2, h3, h5, h6⟩
  · rintro ⟨h1, h2⟩ j hj
    obtain ⟨q1, q2, q3, q4, q5⟩ := h2 l[j] (List.getElem_mem hj)
    have hi := (incr_iff l[j].p pages).2 ⟨q4, q5⟩
    rw [List.pairwise_iff_getElem] at h1
    cases j with
    | zero => simp [badF, hj, q1, q2, q3, hi]
    | succ j =>
      have e1 : j < l.length := by omega
      have := h1 j (j + 1) e1 hj (by omega)
      simp [badF, hj, e1, q1, q2, q3, hi, this]
/-- What the reference asks of a list, whatever the file's size. -/
def isB (l : List Fr) (pages : Int) : Bool := ((List.range l.length).all fun i => !badF l pages i) && decide (nums l).Nodup
theorem isB_iff (l : List Fr) (pages : Int) : isB l pages = true ↔ Good l pages := by
  unfold isB
  simp only [Bool.and_eq_true, List.all_eq_true, List.mem_range, Bool.not_eq_true', decide_eq_true_eq]
  rw [bad_iff]
  exact ⟨fun ⟨⟨a, b⟩, c⟩ => ⟨a, b, c⟩, fun ⟨a, b, c⟩ => ⟨⟨a, b⟩, c⟩⟩
theorem validB_isB (l : List Fr) (pages : Int) : validB l pages = ((decide (2 ≤ pages) && decide (pages ≤ 4096)) && isB l pages) := by
  simp only [validB, isB, Bool.and_assoc]
theorem validB_max (l : List Fr) : validB l 4096 = isB l 4096 := by rw [validB_isB]; simp
theorem Good.inc {l : List Fr} {pages : Int} (h : Good l pages) : Inc l := ⟨h.v, fun f hf => (h.ok f hf).2.2.1, fun f hf => (h.ok f hf).2.2.2.1.imp fun h => Int.le_of_lt h⟩

theorem merge_ok {a b : List Fr} {pages : Int} (ha : Good a pages) (hb : Good b pages) (hd : (nums a ++ nums b).Nodup) (lo : Int) (hla : ∀ f ∈ a, lo < f.v) (hlb : ∀ f ∈ b, lo < f.v) :
    ((mergeF a b).Pairwise fun x y => x.v < y.v) ∧ (∀ f ∈ mergeF a b, okF f pages) ∧ ∀ f ∈ mergeF a b, lo < f.v := by
  have tl : ∀ {x : Fr} {l : List Fr}, Good (x :: l) pages → Good l pages := fun {x l} h => ⟨(List.pairwise_cons.1 h.v).2, fun f hf => h.ok f (by simp [hf]), by have := h.nd; rw [nums_cons] at this; exact (List.nodup_append.1 this).2.1⟩
  match a, b with
  | a, [] => rw [mergeF_nil']; exact ⟨ha.v, ha.ok, hla⟩
  | [], y :: b => rw [mergeF_nil]; exact ⟨hb.v, hb.ok, hlb⟩
  | x :: a, y :: b =>
    have hx := List.pairwise_cons.1 ha.v
    have hy := List.pairwise_cons.1 hb.v
    have hd' := List.nodup_append.1 hd
    rw [mergeF_cons]
    split
    · rename_i hlt
      obtain ⟨r1, r2, r3⟩ := merge_ok (tl ha) hb (by
        rw [nums_cons, List.append_assoc] at hd
        exact (List.nodup_append.1 hd).2.1) x.v hx.1 (fun f hf => by
        rcases List.mem_cons.1 hf with rfl | hf
        · exact hlt
        · have := hy.1 f hf; omega)
      refine ⟨List.pairwise_cons.2 ⟨r3, r1⟩, fun f hf => ?_, fun f hf => ?_⟩
      · rcases List.mem_cons.1 hf with rfl | hf
        · exact ha.ok _ (by simp)
        · exact r2 f hf
      · rcases List.mem_cons.1 hf with rfl | hf
        · exact hla _ (by simp)
        · have := r3 f hf; have := hla x (by simp); omega
    · split
      · rename_i h1 h2
        obtain ⟨r1, r2, r3⟩ := merge_ok ha (tl hb) (by
          refine List.nodup_append.2 ⟨hd'.1, ?_, fun p hp q hq => hd'.2.2 p hp q (by rw [nums_cons]; simp [hq])⟩
          have := hd'.2.1
          rw [nums_cons] at this
          exact (List.nodup_append.1 this).2.1) y.v (fun f hf => by
          rcases List.mem_cons.1 hf with rfl | hf
          · exact h2
          · have := hx.1 f hf; omega) hy.1
        refine ⟨List.pairwise_cons.2 ⟨r3, r1⟩, fun f hf => ?_, fun f hf => ?_⟩
        · rcases List.mem_cons.1 hf with rfl | hf
          · exact hb.ok _ (by simp)
          · exact r2 f hf
        · rcases List.mem_cons.1 hf with rfl | hf
          · exact hlb _ (by simp)
          · have := r3 f hf; have := hlb y (by simp); omega
      · rename_i h1 h2
        have e : x.v = y.v := by omega
        obtain ⟨r1, r2, r3⟩ := merge_ok (tl ha) (tl hb) (by
          refine List.nodup_append.2 ⟨(tl ha).nd, (tl hb).nd, fun p hp q hq => hd'.2.2 p (by rw [nums_cons]; simp [hp]) q (by rw [nums_cons]; simp [hq])⟩) x.v hx.1 (fun f hf => by have := hy.1 f hf; omega)
        refine ⟨List.pairwise_cons.2 ⟨r3, r1⟩, fun f hf => ?_, fun f hf => ?_⟩
        · rcases List.mem_cons.1 hf with rfl | hf
          · obtain ⟨q1, q2, q3, q4, q5⟩ := ha.ok x (by simp)
            obtain ⟨p1, p2, p3, p4, p5⟩ := hb.ok y (by simp)
            have hn : (x.p ++ y.p).Nodup := List.nodup_append.2 ⟨q4.imp fun h => by omega, p4.imp fun h => by omega, fun p hp q hq => hd'.2.2 p (by rw [nums_cons]; simp [hp]) q (by rw [nums_cons]; simp [hq])⟩
            refine ⟨q1, q2, fun h0 => ?_, lt_of_le_nodup (sorted_le _) ((sorted_perm _).nodup_iff.2 hn), fun n hn => ?_⟩
            · have := (sorted_perm (x.p ++ y.p)).length_eq
              simp only at h0
              rw [h0] at this
              simp at this
              exact q3 (List.eq_nil_of_length_eq_zero (by omega))
            · rcases List.mem_append.1 ((sorted_perm _).mem_iff.1 hn) with hn | hn
              · exact q5 n hn
              · exact p5 n hn
          · exact r2 f hf
        · rcases List.mem_cons.1 hf with rfl | hf
          · exact hla x (by simp)
          · have := r3 f hf; have := hla x (by simp); omega
termination_by a.length + b.length
theorem merge_good {a b : List Fr} {pages : Int} (ha : Good a pages) (hb : Good b pages) : Good (mergeF a b) pages ↔ (nums a ++ nums b).Nodup := by
  constructor
  · intro h
    exact (nums_merge a b).nodup_iff.1 h.nd
  · intro h
    obtain ⟨r1, r2, _⟩ := merge_ok ha hb h (-1) (fun f hf => by have := (ha.ok f hf).1; omega) (fun f hf => by have := (hb.ok f hf).1; omega)
    exact ⟨r1, r2, (nums_merge a b).nodup_iff.2 h⟩

/-! ### The two laws -/
def mergeP (a b : List Fr) : List Fr × Int := if validB a 4096 && validB b 4096 then (if validB (mergeF a b) 4096 then (mergeF a b, 0) else ([], 2)) else ([], 2)
def mergeR (a b : List Fr) : List Fr × Int := if isB a 4096 && isB b 4096 then (if (nums b).any (fun n => decide (n ∈ nums a)) then ([], 2) else (b.foldl (fun o f => putR o f.v f.p) a, 0)) else ([], 2)
theorem merge_law (a b : List Fr) : mergeP a b = mergeR a b := by
  unfold mergeP mergeR
  simp only [validB_max]
  by_cases ha : isB a 4096 = true
  · by_cases hb : isB b 4096 = true
    · have ga := (isB_iff a _).1 ha
      have gb := (isB_iff b _).1 hb
      simp only [ha, hb, Bool.and_self, if_true]
      rw [fold_put ga.inc gb.inc]
      have h1 := merge_good ga gb
      by_cases hd : (nums a ++ nums b).Nodup
      · have hm : isB (mergeF a b) 4096 = true := (isB_iff _ _).2 (h1.2 hd)
        have : ((nums b).any fun n => decide (n ∈ nums a)) = false := by
          rw [List.any_eq_false]
          intro n hn
          simp only [decide_eq_true_eq]
          exact fun hna => (List.nodup_append.1 hd).2.2 n hna n hn rfl
        simp [hm, this]
      · have hm : isB (mergeF a b) 4096 = false := by
          cases hq : isB (mergeF a b) 4096 with
          | false => rfl
          | true => exact absurd (h1.1 ((isB_iff _ _).1 hq)) hd
        have : ((nums b).any fun n => decide (n ∈ nums a)) = true := by
          cases hq : ((nums b).any fun n => decide (n ∈ nums a)) with
          | true => rfl
          | false =>
            rw [List.any_eq_false] at hq
            refine absurd (List.nodup_append.2 ⟨ga.nd, gb.nd, fun p hp q hq' e => ?_⟩) hd
            subst e
            exact hq p hq' (by simpa using hp)
        simp [hm, this]
    · simp [hb]
  · simp [ha]
def useP (l : List Fr) (o : Int) : List Int := sorted ((l.filter fun f => decide (f.v < o)).flatMap (·.p))
def restP (l : List Fr) (o : Int) : List Fr := l.filter fun f => !decide (f.v < o)
def useR (l : List Fr) (o : Int) : List Int := ((l.filter fun f => decide (f.v < o)).flatMap (·.p)).foldl withI []
theorem use_law (l : List Fr) (o : Int) : useP l o = useR l o := by
  unfold useP useR
  rw [foldWith_eq _ _ List.Pairwise.nil]
  rfl
end Go.Proofs.YtpmknffollpnaaaGreat
namespace Go.Proofs.YtpmknffollpnaaaGreat
open Go Go.VS
abbrev fnC (k : Nat) : C := .v (.func (.func k) #[] #[])
def MergI (a b : List Fr) (s : St) (m : Nat) (L : List (Nat × C)) (s' : St) : Prop :=
  ∃ a' b' o c R', m = a'.length + b'.length ∧ L = [(0, LF a'), (1, LF b'), (2, fnC 103), (3, fnC 105), (9, c)] ∧ Sub s' { s with rows := R' } ∧ s'.rows = R' ∧ RowIn s.rows R' c 2 (frsE o) ∧ c ≠ .li none [] ∧ o ++ mergeF a' b' = mergeF a b ∧
    o.length + a'.length + b'.length ≤ a.length + b.length ∧ (∀ f ∈ a', f ∈ a) ∧ ∀ f ∈ b', f ∈ b
theorem frsE_one (l : List Fr) : (frsE l).all (fun e => e.all VS.one) = true := by
  rw [List.all_eq_true]
  intro e he
  obtain ⟨f, _, rfl⟩ := List.mem_map.1 he
  rfl
set_option maxRecDepth 4000 in
theorem merged_c (a b : List Fr) (hz : ∀ x ∈ a, ∀ y ∈ b, (x.p.length + y.p.length) * 8 ≤ 140737488355328) (hl : (a.length + b.length) * 96 ≤ 140737488355328) (s : St) :
    CallC Tryz.prog 102 [LF a, LF b, fnC 103, fnC 105] s (fun c s' => ∃ R', s' = { s with rows := R' } ∧ RowIn s.rows R' c 2 (frsE (mergeF a b))) (fun _ _ => False) := by
  refine CallC_of Tryz.func102 rfl (by rfl) Tryz.ntmps102 (by simp) ?_
  refine W_seq (W_reg ?_)
  simp [go_sem]
  refine W_seq (W_reg ?_)
  simp [go_sem]
  refine W_seq_k fun K hK => W_while (a.length + b.length) (MergI a b s) (l0 := [(0, LF a), (1, LF b), (2, fnC 103), (3, fnC 105), (9, .v (.slice none 0 0))]) (ds := [])
    ⟨a, b, [], _, s.rows, rfl, rfl, Sub.refl _, rfl, ⟨.inl ⟨rfl, rfl⟩, fun _ _ h => h, fun b n hb => by cases hb⟩, by simp, rfl, by simp, fun _ h => h, fun _ h => h⟩ (by simp [go_sem]) rfl ?_
  rintro m _ s1 ⟨a', b', o, c, R', rfl, rfl, hsub, hrows, hR, hnl, heq, hol, hma, hmb⟩ K2 hK2
  refine W_reg ?_
  have key : ∀ E', Has E' [(18, Bo (decide (0 < a'.length) && decide (0 < b'.length))), (0, LF a'), (1, LF b'), (2, fnC 103), (3, fnC 105), (9, c)] → E'.ds = [] → K2 E' s1 := fun E' h1 h2 => by
    refine hK2 _ _ _ [(0, LF a'), (1, LF b'), (2, fnC 103), (3, fnC 105), (9, c)] h2 h1.1 h1.2 (fun htrue K3 hK3 => ?_) (fun hfalse => ?_)
    · cases a' with
      | nil => simp at htrue
      | cons x a' =>
      cases b' with
      | nil => simp at htrue
      | cons y b' =>
      have hlea : (1 : Int) ≤ (a'.length : Int) + 1 := by omega
      have hleb : (1 : Int) ≤ (b'.length : Int) + 1 := by omega
      have htka : List.take a'.length (List.map frC a') = List.map frC a' := List.take_of_length_le (by simp)
      have htkb : List.take b'.length (List.map frC b') = List.map frC b' := List.take_of_length_le (by simp)
      have hfz : ∀ f, (frC f).all VS.one = true := fun f => rfl
      have hf2 : ∀ f, (frC f).length = 2 := fun f => rfl
      refine W_seq (W_drawr 8 Tryz.mixed (by kernel_rfl) ?_)
      simp [go_sem, frsE, frC]
      refine ⟨_, cmpF_c x y, ?_⟩
      refine W_block (W_seq (W_reg ?_))
      simp [go_sem]
      by_cases h1 : x.v < y.v
      · refine W_ifs true (by simp [go_sem, cmpI, h1]) (fun _ => ?_) (fun h => by cases h)
        refine W_draws (Ef := ?_) 10 [4, 5, 8] (fun _ => True) Tryz.mixed (by kernel_rfl) trivial (fun s' _ => ?_) ?_
        rotate_left
        · simp [go_sem, frsE, frC, hlea, htka]
          rfl
        · refine LL_cons fun Q' hQ => ?_
          refine WL_buildSlice tel_26 (by simp [go_sem]) (by rfl) (by rfl) (by simp [partsC, go_sem]) (by simp [partsC, go_sem]) (by simp [go_sem]) (by simp) (by simp) fun r hr => hQ _ _ trivial ?_
          simp [go_sem, partsC]
          refine LL_cons fun Q' hQ => ?_
          refine WL_appendRow (R0 := s.rows) (es := frsE o) (es2 := [frC x]) (e := 64) (by simpa [go_sem, hrows] using hR) (by simpa [go_sem] using hnl) tel_26 (by simp [go_sem]) (by simp [go_sem]) (by simp [go_sem, elsC, frC]) (by simp [go_sem, frC]) (by simp [go_sem, frsE_length]; omega) (by simp [go_sem]) (by simp) fun c2 R2 hR2 hnl2 => hQ _ _ trivial ?_
          rw [tsz_64] at hR2
          refine LL_cons fun Q' hQ => WL_rd (c := c2) (by simp [go_sem]) (by simp) (hQ _ _ trivial ?_)
          refine LL_nil (WL_nil ?_)
          simp only [go_sem]
          refine hK3 _ _ (a'.length + (b'.length + 1)) [(0, LF a'), (1, LF (y :: b')), (2, fnC 103), (3, fnC 105), (9, c2)] (by simp) ⟨a', y :: b', o ++ [x], c2, R2, rfl, rfl, ⟨hsub.objs, fun _ _ h => h, fun k x hk => lookCons hr (hsub.toks _ _ hk), hsub.maps⟩, rfl, by simpa [frsE] using hR2, hnl2, ?_, ?_, fun f hf => hma f (by simp [hf]), hmb⟩ (by simp [go_sem, frsE]) (by simp [go_sem])
          · rw [← heq, mergeF_cons, if_pos h1]; simp
          · simp at hol ⊢; omega
      · refine W_ifs false (by simp [go_sem, cmpI, h1]; split <;> simp) (fun h => by cases h) (fun _ => W_seq (W_reg ?_))
        simp [go_sem]
        by_cases h3 : y.v < x.v
        · refine W_ifs true (by simp [go_sem, cmpI, h1, h3]) (fun _ => ?_) (fun h => by cases h)
          refine W_draws (Ef := ?_) 10 [4, 5, 8] (fun _ => True) Tryz.mixed (by kernel_rfl) trivial (fun s' _ => ?_) ?_
          rotate_left
          · simp [go_sem, frsE, frC, hleb, htkb]
            rfl
          · refine LL_cons fun Q' hQ => ?_
            refine WL_buildSlice tel_26 (by simp [go_sem]) (by rfl) (by rfl) (by simp [partsC, go_sem]) (by simp [partsC, go_sem]) (by simp [go_sem]) (by simp) (by simp) fun r hr => hQ _ _ trivial ?_
            simp [go_sem, partsC]
            refine LL_cons fun Q' hQ => ?_
            refine WL_appendRow (R0 := s.rows) (es := frsE o) (es2 := [frC y]) (e := 64) (by simpa [go_sem, hrows] using hR) (by simpa [go_sem] using hnl) tel_26 (by simp [go_sem]) (by simp [go_sem]) (by simp [go_sem, elsC, frC]) (by simp [go_sem, frC]) (by simp [go_sem, frsE_length]; omega) (by simp [go_sem]) (by simp) fun c2 R2 hR2 hnl2 => hQ _ _ trivial ?_
            rw [tsz_64] at hR2
            refine LL_cons fun Q' hQ => WL_rd (c := c2) (by simp [go_sem]) (by simp) (hQ _ _ trivial ?_)
            refine LL_nil (WL_nil ?_)
            simp only [go_sem]
            refine hK3 _ _ ((a'.length + 1) + b'.length) [(0, LF (x :: a')), (1, LF b'), (2, fnC 103), (3, fnC 105), (9, c2)] (by simp) ⟨x :: a', b', o ++ [y], c2, R2, rfl, rfl, ⟨hsub.objs, fun _ _ h => h, fun k x hk => lookCons hr (hsub.toks _ _ hk), hsub.maps⟩, rfl, by simpa [frsE] using hR2, hnl2, ?_, ?_, hma, fun f hf => hmb f (by simp [hf])⟩ (by simp [go_sem, frsE]) (by simp [go_sem])
            · rw [← heq, mergeF_cons, if_neg h1, if_pos h3]; simp
            · simp at hol ⊢; omega
        · refine W_ifs false (by simp [go_sem, cmpI, h1, h3]) (fun h => by cases h) (fun _ => ?_)
          refine W_draws (Ef := ?_) 18 [8, 9, 10, 15] (fun _ => True) Tryz.mixed (by kernel_rfl) trivial (fun s' _ => ?_) ?_
          rotate_left
          · simp [go_sem, frsE, frC, hlea, hleb, htka, htkb]
            rfl
          · refine LL_cons fun Q' hQ => ?_
            refine WL_callP (k := 105) (first := #[]) (captured := #[]) (xs := [.agg (frC x), .agg (frC y)]) (by simp [go_sem]) (by simp [go_sem, frC]) (by simp [go_sem]) (bothF_c x y (hz x (hma _ (by simp)) y (hmb _ (by simp)))) (hQ _ _ trivial ?_)
            refine LL_cons fun Q' hQ => ?_
            refine WL_buildSlice tel_26 (by simp [go_sem]) (by rfl) (by rfl) (by simp [partsC, go_sem, frC]) (by simp [partsC, go_sem, frC]) (by simp [go_sem]) (by simp) (by simp) fun r hr => hQ _ _ trivial ?_
            simp [go_sem, partsC, frC]
            refine LL_cons fun Q' hQ => ?_
            refine WL_appendRow (R0 := s.rows) (es := frsE o) (es2 := [frC ⟨x.v, sorted (x.p ++ y.p)⟩]) (e := 64) (by simpa [go_sem, hrows] using hR) (by simpa [go_sem] using hnl) tel_26 (by simp [go_sem]) (by simp [go_sem]) (by simp [go_sem, elsC, frC]) (by simp [go_sem, frC]) (by simp at hol; simp [go_sem, frsE_length]; omega) (by simp [go_sem]) (by simp) fun c2 R2 hR2 hnl2 => hQ _ _ trivial ?_
            rw [tsz_64] at hR2
            refine LL_cons fun Q' hQ => WL_rd (c := c2) (by simp [go_sem]) (by simp) (hQ _ _ trivial ?_)
            refine LL_nil (WL_nil ?_)
            simp only [go_sem]
            refine hK3 _ _ (a'.length + b'.length) [(0, LF a'), (1, LF b'), (2, fnC 103), (3, fnC 105), (9, c2)] (by simp; omega) ⟨a', b', o ++ [⟨x.v, sorted (x.p ++ y.p)⟩], c2, R2, rfl, rfl, ⟨hsub.objs, fun _ _ h => h, fun k x hk => lookCons hr (hsub.toks _ _ hk), hsub.maps⟩, rfl, by simpa [frsE] using hR2, hnl2, ?_, ?_, fun f hf => hma f (by simp [hf]), fun f hf => hmb f (by simp [hf])⟩ (by simp [go_sem, frsE]) (by simp [go_sem])
            · rw [← heq, mergeF_cons, if_neg h1, if_neg h3]; simp
            · simp at hol ⊢; omega
    · have hcat : mergeF a' b' = a' ++ b' := by
        cases a' with
        | nil => rw [mergeF_nil]; rfl
        | cons x a' =>
          cases b' with
          | nil => rw [mergeF_nil']; simp
          | cons y b' => simp at hfalse
      simp only [go_sem]
      refine hK _ _ ?_
      refine W_freeze 9 2 (frsE o) s.rows (by simpa [go_sem, hrows] using hR) (frsE_one o) ?_
      refine W_seq (W_reg ?_)
      simp [go_sem]
      refine WL_buildSlice tel_90 (by simp [go_sem]) (by rfl) (by rfl) (by simp [partsC, go_sem]) (by simp [partsC, go_sem]) (by simp [go_sem]) (by simp) (by simp) fun r hr => WL_run _ _ _ ?_
      simp [go_sem, partsC]
      refine (concat144_c none [frsE o, frsE a', frsE b'] (fun es hes e he => by
        simp only [List.mem_cons, List.not_mem_nil, or_false] at hes
        rcases hes with rfl | rfl | rfl <;> exact frsE_len _ e he) (by simp [tot, frsE_length]; omega) _).use (fun c3 s2 hc => ?_) (fun _ _ h => h.elim)
      obtain ⟨R3, rfl, hR3⟩ := hc
      simp [go_sem]
      refine W_ret ?_
      simp only [go_sem]
      refine ⟨trivial, c3, by simp [go_sem], { s with rows := R3 }, ⟨hsub.objs, fun _ _ h => h, fun k x hk => lookCons hr (hsub.toks _ _ hk), hsub.maps⟩, R3, rfl, ?_⟩
      have hflat : [frsE o, frsE a', frsE b'].flatten = frsE (mergeF a b) := by rw [← heq, hcat]; simp [frsE]
      rw [hflat] at hR3
      exact hR3.strip
  by_cases h1 : 0 < a'.length
  · simp [go_sem, frsE_length, h1]
    exact key _ (by simp [go_sem, h1]) (by simp [go_sem])
  · simp [go_sem, frsE_length, h1]
    exact key _ (by simp [go_sem, h1]) (by simp [go_sem])
end Go.Proofs.YtpmknffollpnaaaGreat
namespace Go.Proofs.YtpmknffollpnaaaGreat
open Go Go.VS
/-- How long a list is, and its parts. -/
structure Sz (n : Nat) (l : List Fr) : Prop where
  len : l.length ≤ n
  p : ∀ f ∈ l, f.p.length ≤ n
theorem Sz.merge {n m : Nat} {a b : List Fr} (ha : Sz n a) (hb : Sz m b) : Sz (n + m) (mergeF a b) := by
  have tl : ∀ {n : Nat} {x : Fr} {l : List Fr}, Sz n (x :: l) → Sz n l ∧ l.length + 1 ≤ n ∧ x.p.length ≤ n := fun h => ⟨⟨by have := h.len; simp at this; omega, fun f hf => h.p f (by simp [hf])⟩, by have := h.len; simpa using this, h.p _ (by simp)⟩
  have key : ∀ a b : List Fr, (∀ f ∈ a, f.p.length ≤ n) → (∀ f ∈ b, f.p.length ≤ m) → (mergeF a b).length ≤ a.length + b.length ∧ ∀ f ∈ mergeF a b, f.p.length ≤ n + m := by
    intro a b
    induction a, b using mergeF.induct with
    | case1 b => intro _ h; rw [mergeF_nil]; exact ⟨by simp, fun f hf => by have := h f hf; omega⟩
    | case2 a hne => intro h _; rw [mergeF_nil']; exact ⟨by simp, fun f hf => by have := h f hf; omega⟩
    | case3 x a y b hlt ih =>
      intro h1 h2
      obtain ⟨q1, q2⟩ := ih (fun f hf => h1 f (by simp [hf])) h2
      rw [mergeF_cons, if_pos hlt]
      refine ⟨by simp at q1 ⊢; omega, fun f hf => ?_⟩
      rcases List.mem_cons.1 hf with rfl | hf
      · have := h1 f (by simp); omega
      · exact q2 f hf
    | case4 x a y b hlt hlt2 ih =>
      intro h1 h2
      obtain ⟨q1, q2⟩ := ih h1 (fun f hf => h2 f (by simp [hf]))
      rw [mergeF_cons, if_neg hlt, if_pos hlt2]
      refine ⟨by simp at q1 ⊢; omega, fun f hf => ?_⟩
      rcases List.mem_cons.1 hf with rfl | hf
      · have := h2 f (by simp); omega
      · exact q2 f hf
    | case5 x a y b hlt hlt2 ih =>
      intro h1 h2
      obtain ⟨q1, q2⟩ := ih (fun f hf => h1 f (by simp [hf])) (fun f hf => h2 f (by simp [hf]))
      rw [mergeF_cons, if_neg hlt, if_neg hlt2]
      refine ⟨by simp at q1 ⊢; omega, fun f hf => ?_⟩
      rcases List.mem_cons.1 hf with rfl | hf
      · have := h1 x (by simp); have := h2 y (by simp); simp [sorted]; omega
      · exact q2 f hf
  obtain ⟨q1, q2⟩ := key a b ha.p hb.p
  exact ⟨by have := ha.len; have := hb.len; omega, q2⟩
theorem clonI_c (l : List Int) (hl : l.length * 8 ≤ 140737488355328) : Pure Tryz.prog 96 [LI l] (LI l) := fun s =>
  ((cloneI_c l hl s).mono (K' := fun c s' => ∃ R0 z es, RowIn R0 s'.rows c z es ∧ es.all (fun e => e.all VS.one) = true ∧ C.li none es = LI l ∧ { s' with rows := R0 } = s)
    (fun c s' ⟨R', h1, h2⟩ => ⟨s.rows, 1, intsE l, by rw [h1]; exact h2, intsE_one l, rfl, by rw [h1]⟩) (fun _ _ h => h)).frozen
theorem clonF_c (l : List Fr) (hl : l.length * 32 ≤ 140737488355328) : Pure Tryz.prog 98 [LF l] (LF l) := fun s =>
  ((cloneF_c l hl s).mono (K' := fun c s' => ∃ R0 z es, RowIn R0 s'.rows c z es ∧ es.all (fun e => e.all VS.one) = true ∧ C.li none es = LF l ∧ { s' with rows := R0 } = s)
    (fun c s' ⟨R', h1, h2⟩ => ⟨s.rows, 2, frsE l, by rw [h1]; exact h2, frsE_one l, rfl, by rw [h1]⟩) (fun _ _ h => h)).frozen
def TogI (c : C) (o : List Fr) (s : St) (k : Nat) (L : List (Nat × C)) (s' : St) : Prop := ∃ R', L = [(5, c)] ∧ s' = { s with rows := R' } ∧ RowIn s.rows R' c 2 (frsE o)
set_option maxRecDepth 4000 in
theorem together_c (n m : Nat) (a b : List Fr) (ha : Sz n a) (hb : Sz m b) (hn : n + m ≤ 1000000000) : Pure Tryz.prog 56 [LF a, LF b] (LF (mergeF a b)) := by
  intro s
  have hz := ha.merge hb
  refine CallC_of Tryz.func56 rfl (by rfl) Tryz.ntmps56 (by simp) ?_
  refine W_seq (W_reg ?_)
  simp [go_sem]
  refine W_seq (W_reg ?_)
  simp [go_sem]
  refine (merged_c a b (fun x hx y hy => by have := ha.p x hx; have := hb.p y hy; omega) (by have := ha.len; have := hb.len; omega) _).use (fun c s2 hc => ?_) (fun _ _ h => h.elim)
  obtain ⟨R1, rfl, hR⟩ := hc
  generalize mergeF a b = o at *
  simp [go_sem]
  refine W_seq_k fun K hK => W_seq (W_reg ?_)
  have fin : ∀ E', Has E' [(5, c)] → E'.ds = [] → ∀ R2, RowIn s.rows R2 c 2 (frsE o) → K E' { s with rows := R2 } := fun E' h1 h2 R2 hR2 => hK _ _ (W_keep _ h1 (by
    rw [h2]
    refine W_freeze 5 2 (frsE o) s.rows (by simpa [go_sem] using hR2) (frsE_one o) ?_
    refine W_seq (W_reg ?_)
    simp [go_sem]
    refine W_ret ?_
    simp only [go_sem]
    exact ⟨trivial, _, rfl, s, Sub.refl _, by simp [go_sem], rfl⟩))
  rcases hR.row with ⟨h1, h2⟩ | ⟨h1, h2⟩ | ⟨bb, h1, h2⟩
  · subst h1
    have ho : o = [] := by cases o with | nil => rfl | cons _ _ => simp [frsE] at h2
    simp [go_sem]
    refine W_range 0 (TogI _ o s) (l0 := [(5, .v (.slice none 0 0))]) (ds := []) (by omega) (by decide) ⟨R1, rfl, rfl, hR⟩ (by simp [go_sem]) rfl (by rintro k _ _ ⟨_, rfl, _⟩; simp [notIn]) (fun k _ _ hk => absurd hk (by omega)) ?_
    rintro _ s3 x ⟨R2, rfl, rfl, hR2⟩
    simp only [go_sem]
    exact fin _ (by simp [go_sem]) rfl R2 hR2
  · subst h1
    have ho : o = [] := by cases o with | nil => rfl | cons _ _ => simp [frsE] at h2
    simp [go_sem]
    refine W_range 0 (TogI _ o s) (l0 := [(5, .li none [])]) (ds := []) (by omega) (by decide) ⟨R1, rfl, rfl, hR⟩ (by simp [go_sem]) rfl (by rintro k _ _ ⟨_, rfl, _⟩; simp [notIn]) (fun k _ _ hk => absurd hk (by omega)) ?_
    rintro _ s3 x ⟨R2, rfl, rfl, hR2⟩
    simp only [go_sem]
    exact fin _ (by simp [go_sem]) rfl R2 hR2
  · rw [frsE_length] at h1
    subst h1
    have hbn := hR.new _ _ rfl
    simp [go_sem]
    refine W_range o.length (TogI _ o s) (l0 := [(5, .rs bb o.length)]) (ds := []) (by have := hz.len; omega) (by decide) ⟨R1, rfl, rfl, hR⟩ (by simp [go_sem]) rfl (by rintro k _ _ ⟨_, rfl, _⟩; simp [notIn]) ?_ ?_
    · rintro k _ s3 hk ⟨R2, rfl, rfl, hR2⟩
      have hl2 : VS.look R2 bb = some (2, frsE o) := by
        rcases hR2.row with ⟨h, _⟩ | ⟨h, _⟩ | ⟨b', h, h'⟩
        · cases h
        · cases h
        · injection h with h1 h2; subst h1; exact h'
      refine W_seq (W_reg ?_)
      simp [go_sem]
      refine W_reg ?_
      simp [go_sem, hk, hl2, frsE_get, frC]
      refine Pure.use (clonI_c _ (by have := hz.p _ (List.getElem_mem hk); omega)) ?_
      simp [go_sem, hk, hl2, frsE_get, frC]
      have hset : (frsE o).set k [I o[k].v, LI o[k].p] = frsE o := by
        have : (frsE o)[k]'(by rw [frsE_length]; exact hk) = [I o[k].v, LI o[k].p] := by simp [frsE, frC]
        rw [← this]
        exact List.set_getElem_self _
      rw [hset]
      refine ⟨_, ⟨_, rfl, rfl, ⟨.inr (.inr ⟨bb, by rw [frsE_length], by rw [look_putAt, if_pos rfl, hl2]; rfl⟩), fun q x hq => ?_, fun b' n hb' => by injection hb' with h1 h2; subst h1; exact hbn⟩⟩, by simp [go_sem]⟩
      have : q ≠ bb := fun e => by subst e; rw [hbn] at hq; cases hq
      rw [look_putAt, if_neg this]
      exact hR2.old q x hq
    · rintro _ s3 x ⟨R2, rfl, rfl, hR2⟩
      simp only [go_sem]
      exact fin _ (by simp [go_sem]) rfl R2 hR2
end Go.Proofs.YtpmknffollpnaaaGreat
namespace Go.Proofs.YtpmknffollpnaaaGreat
open Go Go.VS
def useL (l : List Fr) (o : Int) : List Int := (l.filter fun f => decide (f.v < o)).flatMap (·.p)
theorem useL_snoc (l : List Fr) (f : Fr) (o : Int) : useL (l ++ [f]) o = useL l o ++ if f.v < o then f.p else [] := by
  by_cases h : f.v < o <;> simp [useL, List.filter_append, h]
theorem restP_snoc (l : List Fr) (f : Fr) (o : Int) : restP (l ++ [f]) o = restP l o ++ if f.v < o then [] else [f] := by
  by_cases h : f.v < o
  · simp [restP, List.filter_append, h]
  · simp [restP, List.filter_append, h, Int.not_lt.1 h]
theorem useL_len (l : List Fr) (o : Int) : (useL l o).length ≤ (nums l).length := by
  induction l with
  | nil => simp [useL]
  | cons x l ih =>
    rw [nums_cons, List.length_append]
    by_cases h : x.v < o
    · simp only [useL, List.filter_cons, h, decide_true, if_true, List.flatMap_cons, List.length_append] at ih ⊢; omega
    · simp only [useL, List.filter_cons, h, decide_false] at ih ⊢; simp only [Bool.false_eq_true, if_false]; omega
theorem nums_take (l : List Fr) (k : Nat) : (nums (l.take k)).length ≤ (nums l).length := by
  conv => rhs; rw [← List.take_append_drop k l, nums_append, List.length_append]
  omega
theorem restP_len (l : List Fr) (o : Int) : (restP l o).length ≤ l.length := List.length_filter_le _ _
def SplI (l : List Fr) (o : Int) (s : St) (r : Nat) (k : Nat) (L : List (Nat × C)) (s' : St) : Prop :=
  ∃ c R', L = [(8, LF l), (1, I o), (4, c), (5, .li (some r) (frsE (restP (l.take k) o)))] ∧ Sub s' { s with rows := R' } ∧ s'.rows = R' ∧ VS.look s'.toks r = some (2, (restP (l.take k) o).length) ∧ VS.look s.toks r = none ∧
    RowIn s.rows R' c 1 (intsE (useL (l.take k) o)) ∧ c ≠ .li none []
set_option maxRecDepth 4000 in
theorem split_c (n : Nat) (l : List Fr) (o : Int) (hs : Sz n l) (hn : n ≤ 1000000000) (ht : (nums l).length ≤ 1000000000) : Pure Tryz.prog 69 [LF l, I o] (.tup [LI (useP l o), LF (restP l o)]) := by
  intro s
  refine CallC_of Tryz.func69 rfl (by rfl) Tryz.ntmps69 (by simp) ?_
  refine W_seq (W_reg ?_)
  simp [go_sem]
  refine W_tok 5 2 (by simp [go_sem]) fun r hr => ?_
  refine W_seq_k fun K hK => W_seq (W_reg ?_)
  simp [go_sem, frsE_length]
  refine W_range l.length (SplI l o s r) (l0 := [(8, LF l), (1, I o), (4, .v (.slice none 0 0)), (5, .li (some r) [])]) (ds := []) (by have := hs.len; omega) (by decide)
    ⟨_, s.rows, rfl, ⟨fun _ _ h => h, fun _ _ h => h, fun k x hk => lookCons hr hk, fun _ _ h => h⟩, rfl, by simp [VS.look, restP], hr, ⟨.inl ⟨rfl, rfl⟩, fun _ _ h => h, fun b n hb => by cases hb⟩, by simp⟩ (by simp [go_sem]) rfl (by rintro k _ _ ⟨c, R', rfl, _⟩; simp [notIn]) ?_ ?_
  · rintro k _ s1 hk ⟨c, R', rfl, hsub, hrows, htok, hrn, hR, hnl⟩
    have hsnoc : l.take (k + 1) = l.take k ++ [l[k]] := List.take_succ_eq_append_getElem hk
    have hul := useL_len (l.take (k + 1)) o
    have hnt := nums_take l (k + 1)
    have hrl := restP_len (l.take k) o
    have htl : (l.take k).length ≤ n := by have := hs.len; simp; omega
    have hpl := hs.p _ (List.getElem_mem hk)
    refine W_seq (W_reg ?_)
    simp [go_sem, frsE_get, hk, frC]
    refine WL_alloc tzero_64 (by simp) fun bx hbx => WL_run _ _ _ ?_
    simp [go_sem]
    refine W_seq (W_reg ?_)
    simp [go_sem, VS.look]
    by_cases hv : l[k].v < o
    · have hus : useL (l.take (k + 1)) o = useL (l.take k) o ++ l[k].p := by rw [hsnoc, useL_snoc, if_pos hv]
      have hrs : restP (l.take (k + 1)) o = restP (l.take k) o := by rw [hsnoc, restP_snoc, if_pos hv]; simp
      refine W_ifs true (by simp [go_sem, hv]) (fun _ => W_reg ?_) (fun h => by cases h)
      simp [go_sem, VS.look]
      refine WL_appendRow (R0 := s.rows) (es := intsE (useL (l.take k) o)) (es2 := intsE l[k].p) (e := 3) (by simpa [go_sem, hrows] using hR) (by simpa [go_sem] using hnl) tel_23 (by simp [go_sem]) (by simp [go_sem]) (by simp [go_sem, elsC]) (fun q hq => by rw [intsE_len _ q hq]; simp [go_sem]) (by rw [hus] at hul; simp [intsE_length, go_sem] at hul ⊢; omega) (by simp [go_sem]) (by simp) fun c2 R2 hR2 hnl2 => WL_run _ _ _ ?_
      rw [tsz_3, ← intsE_append, ← hus] at hR2
      simp [go_sem]
      refine ⟨_, ⟨c2, R2, rfl, ⟨fun k x hk => lookCons hbx.1 (hsub.objs _ _ hk), fun _ _ h => h, hsub.toks, hsub.maps⟩, rfl, by rw [hrs]; exact htok, hrn, hR2, hnl2⟩, by simp [go_sem, hrs]⟩
    · have hus : useL (l.take (k + 1)) o = useL (l.take k) o := by rw [hsnoc, useL_snoc, if_neg hv]; simp
      have hrs : restP (l.take (k + 1)) o = restP (l.take k) o ++ [l[k]] := by rw [hsnoc, restP_snoc, if_neg hv]
      refine W_ifs false (by simp [go_sem, hv]) (fun h => by cases h) (fun _ => ?_)
      refine W_draws (Ef := ?_) 10 [5, 6, 7, 8, 9] (fun s' => VS.look s'.objs bx = some [I l[k].v, LI l[k].p]) Tryz.mixed (by kernel_rfl) (by simp [VS.look]) (fun s' hs' => ?_) ?_
      rotate_left
      · simp [go_sem, hs']
        rfl
      · refine LL_cons fun Q' hQ => ?_
        refine WL_callP (k := 96) (first := #[]) (captured := #[]) (xs := [LI l[k].p]) (by simp [go_sem]) (by simp [go_sem]) (by simp [go_sem]) (clonI_c _ (by omega)) (hQ _ _ (by simp [VS.look]) ?_)
        refine LL_cons fun Q' hQ => WL_rd (c := .agg (frC l[k])) (by simp [go_sem, frC]) (by simp [go_sem]) (hQ _ _ (by simp [VS.look]) ?_)
        refine LL_cons fun Q' hQ => ?_
        refine WL_buildSlice tel_26 (by simp [go_sem]) (by rfl) (by rfl) (by simp [partsC, go_sem, frC]) (by simp [partsC, go_sem, frC]) (by simp [go_sem]) (by simp) (by simp) fun r2 hr2 => hQ _ _ (by simp [VS.look]) ?_
        have hne : r2 ≠ r := fun e => by subst e; simp only at hr2; rw [htok] at hr2; cases hr2
        refine LL_cons fun Q' hQ => ?_
        refine WL_append (r := r) (z := 2) (es := frsE (restP (l.take k) o)) (es2 := [frC l[k]]) tel_26 (by simp [go_sem]) (by simp [go_sem]) (by simp [VS.look, hne, htok, frsE_length]) (by simp [go_sem]) (by simp [go_sem]) (by simp [go_sem, elsC, partsC, frC]) (by simp [frC]) (by simp [go_sem, frsE_length]; omega) (by simp [go_sem]) (by simp) (hQ _ _ (by simp [VS.look]) ?_)
        refine LL_cons fun Q' hQ => WL_rd (c := .li (some r) (frsE (restP (l.take (k + 1)) o))) (by simp [go_sem, hrs, frsE]) (by simp [go_sem]) (hQ _ _ (by simp [VS.look]) ?_)
        refine LL_nil (WL_nil ?_)
        simp only [go_sem]
        refine ⟨_, ⟨c, R', rfl, ⟨fun k x hk => lookCons hbx.1 (hsub.objs _ _ hk), by rw [← hrows]; exact fun _ _ h => h, fun q x hq => ?_, hsub.maps⟩, hrows, ?_, hrn, by rw [hus]; exact hR, hnl⟩, by simp [go_sem]⟩
        · have : q ≠ r := fun e => by subst e; rw [hrn] at hq; cases hq
          have h := lookCons (a := (tsz Tryz.prog 64, 1)) hr2 (hsub.toks _ _ hq)
          show VS.look (putAt ((r2, (tsz Tryz.prog 64, 1)) :: s1.toks) r _) q = some x
          rw [look_putAt, if_neg this]
          exact h
        · have h := lookCons (a := (tsz Tryz.prog 64, 1)) hr2 htok
          show VS.look (putAt ((r2, (tsz Tryz.prog 64, 1)) :: s1.toks) r _) r = _
          rw [look_putAt, if_pos rfl]
          have h' : VS.look ((r2, (tsz Tryz.prog 64, 1)) :: s1.toks) r = some (2, (restP (l.take k) o).length) := h
          rw [h', hrs]
          simp [frsE_length]
  · rintro _ s3 x ⟨c, R', rfl, hsub, hrows, htok, hrn, hR, hnl⟩
    simp only [go_sem]
    refine hK _ _ ?_
    rw [List.take_length] at hR htok
    have hul := useL_len l o
    refine W_seq (W_reg ?_)
    simp [go_sem]
    rw [hR.stripA]
    refine (sortRow_c _ _ (by rw [hrows]; exact hR) (by omega)).use (fun c2 s2 hc => ?_) (fun _ _ h => h.elim)
    obtain ⟨R2, rfl, hR2⟩ := hc
    simp [go_sem]
    refine W_freeze 4 1 _ s.rows (by simpa [go_sem] using hR2) (intsE_one _) ?_
    refine W_seq (W_reg ?_)
    simp [go_sem]
    refine W_ret ?_
    simp only [go_sem]
    refine ⟨trivial, _, rfl, s, ⟨hsub.objs, fun _ _ h => h, hsub.toks, hsub.maps⟩, ?_, rfl⟩
    simp [go_sem, useL, useP]
end Go.Proofs.YtpmknffollpnaaaGreat
namespace Go.Proofs.YtpmknffollpnaaaGreat
open Go Go.VS
def inV (o : Int) : Bool := decide (1 ≤ o) && decide (o ≤ 1099511627776)
def usableP (l : List Fr) (o : Int) : C := if validB l 4096 then (if inV o then .tup [LI (useP l o), LF (restP l o), I 0] else .tup [LI [], LF [], I 1]) else .tup [LI [], LF [], I 2]
set_option maxRecDepth 4000 in
theorem usable_c (n : Nat) (l : List Fr) (o : Int) (hs : Sz n l) (hn : n ≤ 1000000000) (ht : (nums l).length ≤ 1000000000) : Pure Tryz.prog 26 [LF l, I o] (usableP l o) := by
  intro s
  refine CallC_of Tryz.func26 rfl (by rfl) Tryz.ntmps26 (by simp) ?_
  refine W_seq (W_reg ?_)
  simp [go_sem]
  refine W_seq (W_block (W_seq (W_reg ?_)))
  simp [go_sem]
  refine Pure.use (valid_c _ _ (by omega) (by omega)) ?_
  have hu : usableP l o = if validB l 4096 then (if inV o then .tup [LI (useP l o), LF (restP l o), I 0] else .tup [LI [], LF [], I 1]) else .tup [LI [], LF [], I 2] := rfl
  generalize validB l 4096 = vb at hu ⊢
  cases vb
  · simp [go_sem]
    refine W_ifs true (by simp [go_sem]) (fun _ => W_seq (W_reg ?_)) (fun h => by cases h)
    simp [go_sem]
    refine W_ret ?_
    simp only [go_sem]
    refine ⟨trivial, _, rfl, s, Sub.refl _, ?_, rfl⟩
    simp [go_sem, hu, intsE, frsE]
  · simp [go_sem]
    refine W_ifs false (by simp [go_sem]) (fun h => by cases h) (fun _ => W_seq (W_reg ?_))
    simp [go_sem]
    refine Pure.use (within_c _ _ _) ?_
    have hi : (decide (1 ≤ o) && decide (o ≤ 1099511627776)) = inV o := rfl
    rw [hi]
    generalize inV o = ib at hu ⊢
    cases ib
    · simp [go_sem]
      refine W_ifs true (by simp [go_sem]) (fun _ => W_seq (W_reg ?_)) (fun h => by cases h)
      simp [go_sem]
      refine W_ret ?_
      simp only [go_sem]
      refine ⟨trivial, _, rfl, s, Sub.refl _, ?_, rfl⟩
      simp [go_sem, hu, intsE, frsE]
    · simp [go_sem]
      refine W_ifs false (by simp [go_sem]) (fun h => by cases h) (fun _ => W_skip ?_)
      simp only [go_sem]
      refine W_seq (W_reg ?_)
      simp [go_sem]
      refine Pure.use (split_c n l o hs hn ht) ?_
      simp [go_sem]
      refine W_seq (W_reg ?_)
      simp [go_sem]
      refine W_ret ?_
      simp only [go_sem]
      refine ⟨trivial, _, rfl, s, Sub.refl _, ?_, rfl⟩
      simp [go_sem, hu]
theorem merge_c (n m : Nat) (a b : List Fr) (ha : Sz n a) (hb : Sz m b) (hn : n + m ≤ 1000000000) : Pure Tryz.prog 24 [LF a, LF b] (.tup [LF (mergeP a b).1, I (mergeP a b).2]) := by
  intro s
  refine CallC_of Tryz.func24 rfl (by rfl) Tryz.ntmps24 (by simp) ?_
  refine W_seq (W_reg ?_)
  simp [go_sem]
  have hu : mergeP a b = if validB a 4096 && validB b 4096 then (if validB (mergeF a b) 4096 then (mergeF a b, 0) else ([], 2)) else ([], 2) := rfl
  refine W_seq (W_seq_k fun K hK => W_reg ?_)
  have key : ∀ E', Has E' [(14, Bo (!(validB a 4096 && validB b 4096))), (0, LF a), (1, LF b)] → E'.ds = [] → K E' s := fun E' h1 h2 => hK _ _ (W_keep _ h1 (by
    rw [h2]
    refine W_ifs (!(validB a 4096 && validB b 4096)) (by simp [go_sem]) (fun h => W_seq (W_reg ?_)) (fun h => W_skip ?_)
    · simp at h
      simp [go_sem]
      refine W_ret ?_
      simp only [go_sem]
      refine ⟨trivial, _, rfl, s, Sub.refl _, ?_, rfl⟩
      have : (validB a 4096 && validB b 4096) = false := by
        rcases h with h | h <;> simp [h]
      rw [this] at hu
      simp [go_sem, hu, frsE]
    · simp at h
      simp only [go_sem]
      refine W_seq (W_reg ?_)
      simp [go_sem]
      refine Pure.use (together_c n m a b ha hb hn) ?_
      simp [go_sem]
      refine W_seq (W_seq (W_reg ?_))
      simp [go_sem]
      refine Pure.use (valid_c _ _ (by omega) (by omega)) ?_
      rw [h.1, h.2] at hu
      generalize validB (mergeF a b) 4096 = vb at hu ⊢
      cases vb
      · simp [go_sem]
        refine W_ifs true (by simp [go_sem]) (fun _ => W_seq (W_reg ?_)) (fun h => by cases h)
        simp [go_sem]
        refine W_ret ?_
        simp only [go_sem]
        refine ⟨trivial, _, rfl, s, Sub.refl _, ?_, rfl⟩
        simp [go_sem, hu, frsE]
      · simp [go_sem]
        refine W_ifs false (by simp [go_sem]) (fun h => by cases h) (fun _ => W_skip ?_)
        simp only [go_sem]
        refine W_seq (W_reg ?_)
        simp [go_sem]
        refine W_ret ?_
        simp only [go_sem]
        refine ⟨trivial, _, rfl, s, Sub.refl _, ?_, rfl⟩
        simp [go_sem, hu]))
  simp [go_sem]
  refine Pure.use (valid_c _ _ (by omega) (by omega)) ?_
  cases hva : validB a 4096
  · simp [go_sem]
    exact key _ (by simp [go_sem, hva]) (by simp [go_sem])
  · simp [go_sem]
    refine Pure.use (valid_c _ _ (by omega) (by omega)) ?_
    simp [go_sem]
    exact key _ (by simp [go_sem, hva]) (by simp [go_sem])
end Go.Proofs.YtpmknffollpnaaaGreat
namespace Go.Proofs.YtpmknffollpnaaaGreat
open Go Go.VS
/-- Memory with one token more, a slice that is appended to. -/
structure TokI (s0 s' : St) (r z n : Nat) : Prop where
  sub : Sub s' s0
  tok : VS.look s'.toks r = some (z, n)
  new : VS.look s0.toks r = none
theorem TokI.init {s : St} {r z : Nat} (h : VS.look s.toks r = none) : TokI s { s with toks := (r, (z, 0)) :: s.toks } r z 0 :=
  ⟨⟨fun _ _ h => h, fun _ _ h => h, fun k x hk => lookCons h hk, fun _ _ h => h⟩, by simp [VS.look], h⟩
theorem TokI.obj {s0 s1 : St} {r z n b : Nat} (h : TokI s0 s1 r z n) (hb : Fresh b s1) (cs : List C) : TokI s0 { s1 with objs := (b, cs) :: s1.objs } r z n :=
  ⟨⟨fun k x hk => lookCons hb.1 (h.sub.objs _ _ hk), h.sub.rows, h.sub.toks, h.sub.maps⟩, h.tok, h.new⟩
theorem TokI.lit {s0 s1 : St} {r z n r2 : Nat} (h : TokI s0 s1 r z n) (h2 : VS.look s1.toks r2 = none) (x : Nat × Nat) : TokI s0 { s1 with toks := (r2, x) :: s1.toks } r z n :=
  ⟨⟨h.sub.objs, h.sub.rows, fun k y hk => lookCons h2 (h.sub.toks _ _ hk), h.sub.maps⟩, lookCons h2 h.tok, h.new⟩
theorem TokI.put {s0 s1 : St} {r z n : Nat} (h : TokI s0 s1 r z n) (m : Nat) : TokI s0 { s1 with toks := putAt s1.toks r (z, m) } r z m :=
  ⟨⟨h.sub.objs, h.sub.rows, fun k y hk => by
    have : k ≠ r := fun e => by subst e; rw [h.new] at hk; cases hk
    show VS.look (putAt s1.toks r (z, m)) k = some y
    rw [look_putAt, if_neg this]
    exact h.sub.toks _ _ hk, h.sub.maps⟩, by
    show VS.look (putAt s1.toks r (z, m)) r = _
    rw [look_putAt, if_pos rfl, h.tok]; rfl, h.new⟩
theorem TokI.ne {s0 s1 : St} {r z n r2 : Nat} (h : TokI s0 s1 r z n) (h2 : VS.look s1.toks r2 = none) : r2 ≠ r := fun e => by
  subst e; rw [h.tok] at h2; cases h2
theorem intsE_getE (l : List Int) (k : Nat) (h : k < (intsE l).length) : (intsE l)[k] = [I (l[k]'(by rw [intsE_length] at h; exact h))] := by simp [intsE]
theorem withI_at (l : List Int) (n : Int) (k : Nat) (hk : k ≤ l.length) (h : ∀ j (hj : j < k), l[j]'(by omega) < n) (hend : ∀ hk : k < l.length, ¬ l[k] < n) : withI l n = l.take k ++ n :: l.drop k := by
  induction l generalizing k with
  | nil => simp at hk; subst hk; rfl
  | cons x l ih =>
    cases k with
    | zero =>
      have := hend (by simp)
      simp at this
      simp [withI, show ¬ x < n by omega]
    | succ k =>
      have hx := h 0 (by omega)
      simp at hx
      have := ih k (by simpa using hk) (fun j hj => by have := h (j + 1) (by omega); simpa using this) (fun hk => by have := hend (by simpa using hk); simpa using this)
      unfold withI at this ⊢
      simp [hx, this]
theorem withI_len (l : List Int) (n : Int) : (withI l n).length = l.length + 1 := by
  have := (withI_perm l n).length_eq
  simpa using this
set_option maxRecDepth 4000 in
theorem with_c (l : List Int) (n : Int) (hl : l.length ≤ 1000000000) : Pure Tryz.prog 70 [LI l, I n] (LI (withI l n)) := by
  intro s
  refine CallC_of Tryz.func70 rfl (by rfl) Tryz.ntmps70 (by simp) ?_
  refine W_seq (W_reg ?_)
  simp [go_sem]
  refine W_seq (W_reg ?_)
  simp [go_sem]
  refine W_tok 5 1 (by simp [go_sem]) fun r hr => ?_
  have hT := TokI.init (z := 1) hr
  generalize ({ s with toks := (r, (1, 0)) :: s.toks } : St) = s1 at hT ⊢
  refine W_seq (W_reg ?_)
  simp [go_sem]
  refine W_seq_k fun K hK => ?_
  refine W_while l.length (fun m L s' => ∃ k, m + k = l.length ∧ L = [(0, LI l), (1, I n), (6, I k), (5, .li (some r) (intsE (l.take k)))] ∧ TokI s s' r 1 k ∧ ∀ j (hj : j < k) (hj2 : j < l.length), l[j] < n) (l0 := [(0, LI l), (1, I n), (6, I 0), (5, .li (some r) [])]) (ds := [])
    ⟨0, rfl, rfl, hT, fun j hj => by omega⟩ (by simp [go_sem]) rfl ?_
  rintro m _ s2 ⟨k, hk, rfl, hT2, hall⟩ K2 hK2
  have key : ∀ (E' : Env) (t : Bool), Has E' [(18, Bo t), (0, LI l), (1, I n), (6, I k), (5, .li (some r) (intsE (l.take k)))] → E'.ds = [] → (t = true → ∃ hk : k < l.length, l[k] < n) → (t = false → ∀ hk : k < l.length, ¬ l[k] < n) → K2 E' s2 := fun E' t h1 h2 ht hf => by
    refine hK2 _ _ t [(0, LI l), (1, I n), (6, I k), (5, .li (some r) (intsE (l.take k)))] h2 h1.1 h1.2 (fun htrue K3 hK3 => ?_) (fun hfalse => ?_)
    · obtain ⟨hlt, hln⟩ := ht htrue
      have hsnoc : l.take (k + 1) = l.take k ++ [l[k]] := List.take_succ_eq_append_getElem hlt
      have hlen : (intsE (l.take k)).length = k := by rw [intsE_length, List.length_take]; omega
      refine W_seq (W_reg ?_)
      simp [go_sem, intsE_get, hlt]
      refine WL_buildSlice tel_23 (by simp [go_sem]) (by rfl) (by rfl) (by simp [partsC, go_sem]) (by simp [partsC, go_sem]) (by simp [go_sem]) (by simp) (by simp) fun r2 hr2 => ?_
      refine WL_append (r := r) (z := 1) (es := intsE (l.take k)) (es2 := [[I l[k]]]) tel_23 (by simp [go_sem]) (by simp [go_sem]) (by rw [hlen]; exact (hT2.lit hr2 _).tok) (by simp [go_sem]) (by simp [go_sem]) (by simp [go_sem, elsC, partsC]) (by simp) (by rw [hlen]; simp [go_sem]; omega) (by simp [go_sem]) (by simp) (WL_run _ _ _ ?_)
      have hw : IntKind.i64.wrap ((k : Int) + 1) = ((k + 1 : Nat) : Int) := by rw [wrap_in (by omega) (by omega)]; omega
      have he : intsE (l.take k) ++ [[I l[k]]] = intsE (l.take (k + 1)) := by rw [hsnoc, intsE_append]; rfl
      have hT3 := (hT2.lit hr2 (tsz Tryz.prog 3, 1)).put (k + 1)
      have hl3 : (intsE (l.take k) ++ [[I l[k]]]).length = k + 1 := by rw [List.length_append, hlen]; rfl
      rw [hl3, he]
      generalize (St.mk _ _ _ _) = s3 at hT3 ⊢
      simp [go_sem]
      refine W_reg ?_
      simp [go_sem, hw]
      refine hK3 _ _ (m - 1) [(0, LI l), (1, I n), (6, I ((k + 1 : Nat) : Int)), (5, .li (some r) (intsE (l.take (k + 1))))] (by omega) ⟨k + 1, by omega, rfl, hT3, fun j hj hj2 => ?_⟩ (by simp [go_sem]) (by simp [go_sem])
      rcases Nat.lt_succ_iff_lt_or_eq.1 hj with hj | hj
      · exact hall j hj hj2
      · subst hj; exact hln
    · simp only [go_sem]
      refine hK _ _ ?_
      have hlen : (intsE (l.take k)).length = k := by rw [intsE_length, List.length_take]; omega
      have hwith := withI_at l n k (by omega) (fun j hj => hall j hj (by omega)) (hf hfalse)
      refine W_seq (W_reg ?_)
      simp [go_sem]
      refine WL_buildSlice tel_23 (by simp [go_sem]) (by rfl) (by rfl) (by simp [partsC, go_sem]) (by simp [partsC, go_sem]) (by simp [go_sem]) (by simp) (by simp) fun r2 hr2 => ?_
      refine WL_append (r := r) (z := 1) (es := intsE (l.take k)) (es2 := [[I n]]) tel_23 (by simp [go_sem]) (by simp [go_sem]) (by rw [hlen]; exact (hT2.lit hr2 _).tok) (by simp [go_sem]) (by simp [go_sem]) (by simp [go_sem, elsC, partsC]) (by simp) (by rw [hlen]; simp [go_sem]; omega) (by simp [go_sem]) (by simp) (WL_run _ _ _ ?_)
      have he : intsE (l.take k) ++ [[I n]] = intsE (l.take k ++ [n]) := by rw [intsE_append]; rfl
      have hT3 := (hT2.lit hr2 (tsz Tryz.prog 3, 1)).put (k + 1)
      have hl3 : (intsE (l.take k) ++ [[I n]]).length = k + 1 := by rw [List.length_append, hlen]; rfl
      rw [hl3, he]
      have hlen3 : (intsE (l.take k ++ [n])).length = k + 1 := by rw [← he, hl3]
      generalize (St.mk _ _ _ _) = s3 at hT3 ⊢
      simp [go_sem]
      refine W_seq (W_reg ?_)
      have hk1 : (k : Int) ≤ (l.length : Int) := by omega
      have hall1 : ((intsE l).all fun x => x.length == 1) = true := by
        rw [List.all_eq_true]
        intro e he
        simpa using intsE_len l e he
      simp [go_sem, intsE_length, hk1]
      rw [if_pos (intsE_len l)]
      have hdr : List.drop k (List.take l.length (intsE l)) = intsE (l.drop k) := by
        rw [List.take_of_length_le (by rw [intsE_length]; exact Nat.le_refl _)]
        simp [intsE, List.map_drop]
      rw [hdr]
      simp [go_sem]
      have hdl : (intsE (l.drop k)).length = l.length - k := by rw [intsE_length, List.length_drop]
      refine WL_append (r := r) (z := 1) (es := intsE (l.take k ++ [n])) (es2 := intsE (l.drop k)) tel_23 (by simp [go_sem]) (by simp [go_sem]) (by rw [hlen3]; exact hT3.tok) (by simp [go_sem]) (by simp [go_sem]) (by simp [go_sem, elsC]) (fun q hq => intsE_len _ q hq) (by rw [hlen3, hdl]; simp [go_sem]; omega) (by simp [go_sem]) (by simp) (WL_run _ _ _ ?_)
      have hT4 := hT3.put (intsE (l.take k ++ [n]) ++ intsE (l.drop k)).length
      have he4 : intsE (l.take k ++ [n]) ++ intsE (l.drop k) = intsE (withI l n) := by rw [← intsE_append, hwith]; simp
      rw [he4] at hT4 ⊢
      generalize (St.mk _ _ _ _) = s4 at hT4 ⊢
      simp [go_sem]
      refine W_ret ?_
      simp only [go_sem]
      exact ⟨trivial, _, rfl, s, hT4.sub, by simp [go_sem], rfl⟩
  refine W_reg ?_
  by_cases hlt : k < l.length
  · by_cases hln : l[k] < n
    · simp [go_sem, intsE_getE, intsE_length, hlt, hln]
      exact key _ true (by simp [go_sem]) (by simp [go_sem]) (fun _ => ⟨hlt, hln⟩) (fun h => by cases h)
    · simp [go_sem, intsE_getE, intsE_length, hlt]
      exact key _ false (by simp [go_sem]; omega) (by simp [go_sem]) (fun h => by cases h) (fun _ _ => hln)
  · simp [go_sem, intsE_get, intsE_length, hlt]
    exact key _ false (by simp [go_sem]) (by simp [go_sem]) (fun h => by cases h) (fun _ h => absurd h hlt)
end Go.Proofs.YtpmknffollpnaaaGreat
namespace Go.Proofs.YtpmknffollpnaaaGreat
open Go Go.VS
theorem goPut_eq {v : Int} {ps : List Int} {d : Bool} {x : Fr} {l : List Fr} (h : x.v = v) : goPut v ps d (x :: l) = ⟨v, ps.foldl withI x.p⟩ :: goPut v ps true l := by simp [goPut, h]
theorem goPut_lt {v : Int} {ps : List Int} {x : Fr} {l : List Fr} (h : ¬ x.v = v) (h2 : v < x.v) : goPut v ps false (x :: l) = ⟨v, ps⟩ :: x :: goPut v ps true l := by simp [goPut, h, h2]
theorem goPut_ge {v : Int} {ps : List Int} {d : Bool} {x : Fr} {l : List Fr} (h : ¬ x.v = v) (h2 : ¬ (v < x.v ∧ d = false)) : goPut v ps d (x :: l) = x :: goPut v ps d l := by simp [goPut, h, h2]
theorem foldWith_len (l q : List Int) : (q.foldl withI l).length = l.length + q.length := by
  have := (foldWith_perm l q).length_eq
  simpa using this
theorem frsE_getE (l : List Fr) (k : Nat) (h : k < (frsE l).length) : (frsE l)[k] = frC (l[k]'(by rw [frsE_length] at h; exact h)) := by simp [frsE]
def PutI (l : List Fr) (v : Int) (ps : List Int) (s : St) (r : Nat) (k : Nat) (L : List (Nat × C)) (s' : St) : Prop :=
  ∃ o d, L = [(0, LF l), (1, I v), (2, LI ps), (9, I k), (7, .li (some r) (frsE o)), (8, Bo d)] ∧ TokI s s' r 2 o.length ∧ o ++ goPut v ps d (l.drop k) = goPut v ps false l ∧ o.length ≤ 2 * k
set_option maxRecDepth 4000 in
theorem put_c (n : Nat) (l : List Fr) (v : Int) (ps : List Int) (hs : Sz n l) (hn : n ≤ 100000000) (hp : ps.length ≤ 100000000) : Pure Tryz.prog 61 [LF l, I v, LI ps] (LF (putR l v ps)) := by
  intro s
  refine CallC_of Tryz.func61 rfl (by rfl) Tryz.ntmps61 (by simp) ?_
  refine W_seq (W_reg ?_)
  simp [go_sem]
  refine W_seq (W_seq (W_reg ?_))
  simp [go_sem, intsE_length]
  by_cases hps : ps = []
  · refine W_ifs true (by simp [go_sem, hps]) (fun _ => W_seq (W_reg ?_)) (fun h => by cases h)
    simp [go_sem]
    refine W_ret ?_
    simp only [go_sem]
    exact ⟨trivial, _, rfl, s, Sub.refl _, by simp [go_sem, putR, hps], rfl⟩
  · refine W_ifs false (by simp [go_sem, hps]) (fun h => by cases h) (fun _ => W_skip ?_)
    simp only [go_sem]
    refine W_seq (W_reg ?_)
    simp [go_sem]
    refine W_tok 7 2 (by simp [go_sem]) fun r hr => ?_
    have hT := TokI.init (z := 2) hr
    generalize ({ s with toks := (r, (2, 0)) :: s.toks } : St) = s1 at hT ⊢
    refine W_seq (W_reg ?_)
    simp [go_sem]
    refine W_seq_k fun K hK => W_seq (W_reg ?_)
    simp [go_sem]
    have hsl := hs.len
    refine W_for l.length (PutI l v ps s r) (l0 := [(0, LF l), (1, I v), (2, LI ps), (9, I 0), (7, .li (some r) []), (8, Bo false)]) (ds := []) ⟨[], false, rfl, hT, rfl, by simp⟩ (by simp [go_sem]) rfl ?_
    rintro k _ s2 hk ⟨o, d, rfl, hT2, heq, hol⟩ K2 hK2
    refine W_reg ?_
    simp [go_sem, frsE_length]
    refine hK2 _ _ (decide (k < l.length)) [(0, LF l), (1, I v), (2, LI ps), (9, I k), (7, .li (some r) (frsE o)), (8, Bo d)] (by simp [go_sem]) (by simp [go_sem]) (by simp [go_sem]) (fun hlt => ?_) (fun hge => ?_)
    · simp only [decide_eq_true_eq] at hlt
      refine ⟨hlt, W_seq (W_reg ?_)⟩
      simp [go_sem, frsE_get, hlt, frC]
      have hdrop : l.drop k = l[k] :: l.drop (k + 1) := List.drop_eq_getElem_cons hlt
      have hxp := hs.p _ (List.getElem_mem hlt)
      generalize l[k] = x at hdrop hxp ⊢
      refine WL_alloc tzero_64 (by simp) fun bx hbx => WL_run _ _ _ ?_
      simp [go_sem]
      have hT3 := hT2.obj hbx [I x.v, LI x.p]
      have hlb : VS.look ({ s2 with objs := (bx, [I x.v, LI x.p]) :: s2.objs } : St).objs bx = some [I x.v, LI x.p] := by simp [VS.look]
      generalize ({ s2 with objs := (bx, [I x.v, LI x.p]) :: s2.objs } : St) = s3 at hT3 hlb ⊢
      refine W_seq_k fun K3 hK3 => ?_
      have key : ∀ (E' : Env) (s4 : St) (o' : List Fr) (d' : Bool) (x' : Fr), Has E' [(10, .v (.pointer (some ⟨bx, 0, none⟩))), (0, LF l), (1, I v), (2, LI ps), (9, I k), (7, .li (some r) (frsE o')), (8, Bo d')] → E'.ds = [] → TokI s s4 r 2 o'.length → VS.look s4.objs bx = some [I x'.v, LI x'.p] →
          (o' ++ [x']) ++ goPut v ps d' (l.drop (k + 1)) = goPut v ps false l → o'.length ≤ 2 * k + 1 → K3 E' s4 := fun E' s4 o' d' x' h1 h2 h3 h4 h5 h6 => hK3 _ _ (W_keep _ h1 (by
        rw [h2]
        refine W_reg ?_
        simp [go_sem, h4]
        refine WL_buildSlice tel_26 (by simp [go_sem]) (by rfl) (by rfl) (by simp [partsC, go_sem]) (by simp [partsC, go_sem]) (by simp [go_sem]) (by simp) (by simp) fun r2 hr2 => ?_
        refine WL_append (r := r) (z := 2) (es := frsE o') (es2 := [frC x']) tel_26 (by simp [go_sem]) (by simp [go_sem]) (by rw [frsE_length]; exact (h3.lit hr2 _).tok) (by simp [go_sem]) (by simp [go_sem]) (by simp [go_sem, elsC, partsC, frC]) (by simp [frC]) (by rw [frsE_length]; simp [go_sem]; omega) (by simp [go_sem]) (by simp) (WL_run _ _ _ ?_)
        have hT5 := (h3.lit hr2 (tsz Tryz.prog 64, 1)).put (frsE o' ++ [frC x']).length
        have he : frsE o' ++ [frC x'] = frsE (o' ++ [x']) := by simp [frsE]
        rw [he] at hT5 ⊢
        rw [frsE_length] at hT5 ⊢
        generalize (St.mk _ _ _ _) = s5 at hT5 ⊢
        have hw : IntKind.i64.wrap ((k : Int) + 1) = ((k + 1 : Nat) : Int) := by rw [wrap_in (by omega) (by omega)]; omega
        simp [go_sem]
        refine W_reg ?_
        simp [go_sem, hw]
        exact ⟨_, ⟨o' ++ [x'], d', rfl, hT5, h5, by simp; omega⟩, by simp [go_sem]⟩))
      refine W_seq (W_reg ?_)
      simp [go_sem, hlb]
      rw [hdrop] at heq
      by_cases hv : x.v = v
      · rw [goPut_eq hv] at heq
        refine W_ifs true (by simp [go_sem, hv]) (fun _ => W_seq (W_reg ?_)) (fun h => by cases h)
        simp [go_sem, hlb]
        refine W_seq_k fun K4 hK4 => W_seq (W_reg ?_)
        simp [go_sem]
        refine W_for ps.length (fun j L s' => L = [(0, LF l), (1, I v), (2, LI ps), (9, I k), (7, .li (some r) (frsE o)), (8, Bo d), (10, .v (.pointer (some ⟨bx, 0, none⟩))), (12, I j), (11, LI ((ps.take j).foldl withI x.p))] ∧ s' = s3)
          (l0 := [(0, LF l), (1, I v), (2, LI ps), (9, I k), (7, .li (some r) (frsE o)), (8, Bo d), (10, .v (.pointer (some ⟨bx, 0, none⟩))), (12, I 0), (11, LI x.p)]) (ds := []) ⟨by simp, rfl⟩ (by simp [go_sem]) rfl ?_
        rintro j _ s4 hj ⟨rfl, rfl⟩ K5 hK5
        refine W_reg ?_
        simp [go_sem, intsE_length]
        refine hK5 _ _ (decide (j < ps.length)) [(0, LF l), (1, I v), (2, LI ps), (9, I k), (7, .li (some r) (frsE o)), (8, Bo d), (10, .v (.pointer (some ⟨bx, 0, none⟩))), (12, I j), (11, LI ((ps.take j).foldl withI x.p))] (by simp [go_sem]) (by simp [go_sem]) (by simp [go_sem]) (fun hlt2 => ?_) (fun hge2 => ?_)
        · simp only [decide_eq_true_eq] at hlt2
          refine ⟨hlt2, W_reg ?_⟩
          have hfl : ((ps.take j).foldl withI x.p).length ≤ 1000000000 := by rw [foldWith_len, List.length_take]; omega
          have hfs : withI ((ps.take j).foldl withI x.p) ps[j] = (ps.take (j + 1)).foldl withI x.p := by rw [List.take_succ_eq_append_getElem hlt2, List.foldl_append]; rfl
          have hw : IntKind.i64.wrap ((j : Int) + 1) = ((j + 1 : Nat) : Int) := by rw [wrap_in (by omega) (by omega)]; omega
          simp [go_sem, intsE_get, hlt2]
          refine Pure.use (with_c _ _ hfl) ?_
          simp [go_sem]
          refine W_reg ?_
          simp [go_sem, hw, hfs]
        · simp only [decide_eq_false_iff_not] at hge2
          have : ps.take j = ps := List.take_of_length_le (by omega)
          rw [this]
          simp only [go_sem]
          refine hK4 _ _ ?_
          refine W_seq (W_reg ?_)
          simp [go_sem, hlb]
          refine W_reg ?_
          simp [go_sem]
          refine key _ _ o true ⟨v, ps.foldl withI x.p⟩ (by simp [go_sem]) (by simp [go_sem]) ⟨⟨fun q y hq => ?_, hT3.sub.rows, hT3.sub.toks, hT3.sub.maps⟩, hT3.tok, hT3.new⟩ (by rw [look_putAt, if_pos rfl, hlb]; rfl) (by simpa using heq) (by omega)
          have : q ≠ bx := fun e => by
            subst e
            have := hT2.sub.objs _ _ hq
            rw [hbx.1] at this
            cases this
          show VS.look (putAt s4.objs bx _) q = some y
          rw [look_putAt, if_neg this]
          exact hT3.sub.objs _ _ hq
      · refine W_ifs false (by simp [go_sem, hv]) (fun h => by cases h) (fun _ => W_seq (W_reg ?_))
        by_cases hlt2 : v < x.v
        · cases d
          · rw [goPut_lt hv hlt2] at heq
            simp [go_sem, hlb, hlt2]
            refine W_ifs true (by simp [go_sem]) (fun _ => W_seq (W_reg ?_)) (fun h => by cases h)
            simp [go_sem]
            refine WL_buildSlice tel_26 (by simp [go_sem]) (by rfl) (by rfl) (by simp [partsC, go_sem]) (by simp [partsC, go_sem]) (by simp [go_sem]) (by simp) (by simp) fun r2 hr2 => ?_
            refine WL_append (r := r) (z := 2) (es := frsE o) (es2 := [frC ⟨v, ps⟩]) tel_26 (by simp [go_sem]) (by simp [go_sem]) (by rw [frsE_length]; exact (hT3.lit hr2 _).tok) (by simp [go_sem]) (by simp [go_sem]) (by simp [go_sem, elsC, partsC, frC]) (by simp [frC]) (by rw [frsE_length]; simp [go_sem]; omega) (by simp [go_sem]) (by simp) (WL_run _ _ _ ?_)
            have hT5 := (hT3.lit hr2 (tsz Tryz.prog 64, 1)).put (frsE o ++ [frC ⟨v, ps⟩]).length
            have he : frsE o ++ [frC ⟨v, ps⟩] = frsE (o ++ [⟨v, ps⟩]) := by simp [frsE]
            rw [he] at hT5 ⊢
            rw [frsE_length] at hT5 ⊢
            have hlb5 : VS.look ({ s3 with toks := putAt ((r2, (tsz Tryz.prog 64, 1)) :: s3.toks) r (2, (o ++ [(⟨v, ps⟩ : Fr)]).length) } : St).objs bx = some [I x.v, LI x.p] := hlb
            generalize (St.mk _ _ _ _) = s5 at hT5 hlb5 ⊢
            simp [go_sem]
            refine W_reg ?_
            simp [go_sem]
            exact key _ s5 (o ++ [⟨v, ps⟩]) true x (by simp [go_sem]) (by simp [go_sem]) hT5 hlb5 (by simpa using heq) (by simp; omega)
          · rw [goPut_ge hv (by simp)] at heq
            simp [go_sem, hlb, hlt2]
            refine W_ifs false (by simp [go_sem]) (fun h => by cases h) (fun _ => W_skip ?_)
            simp only [go_sem]
            exact key _ s3 o true x (by simp [go_sem]) (by simp [go_sem]) hT3 hlb (by simpa using heq) (by omega)
        · rw [goPut_ge hv (fun h => hlt2 h.1)] at heq
          simp [go_sem, hlb, hlt2]
          refine W_ifs false (by simp [go_sem]) (fun h => by cases h) (fun _ => W_skip ?_)
          simp only [go_sem]
          exact key _ s3 o d x (by simp [go_sem]) (by simp [go_sem]) hT3 hlb (by simpa using heq) (by omega)
    · simp only [decide_eq_false_iff_not] at hge
      have hk' : k = l.length := by omega
      subst hk'
      simp only [go_sem]
      refine hK _ _ ?_
      rw [List.drop_length] at heq
      have hput : putR l v ps = o ++ goPut v ps d [] := by rw [heq]; simp [putR, hps]
      refine W_seq (W_seq (W_reg ?_))
      simp [go_sem]
      cases d
      · refine W_ifs true (by simp [go_sem]) (fun _ => W_reg ?_) (fun h => by cases h)
        simp [go_sem]
        refine WL_buildSlice tel_26 (by simp [go_sem]) (by rfl) (by rfl) (by simp [partsC, go_sem]) (by simp [partsC, go_sem]) (by simp [go_sem]) (by simp) (by simp) fun r2 hr2 => ?_
        refine WL_append (r := r) (z := 2) (es := frsE o) (es2 := [frC ⟨v, ps⟩]) tel_26 (by simp [go_sem]) (by simp [go_sem]) (by rw [frsE_length]; exact (hT2.lit hr2 _).tok) (by simp [go_sem]) (by simp [go_sem]) (by simp [go_sem, elsC, partsC, frC]) (by simp [frC]) (by rw [frsE_length]; simp [go_sem]; omega) (by simp [go_sem]) (by simp) (WL_run _ _ _ ?_)
        have hT5 := (hT2.lit hr2 (tsz Tryz.prog 64, 1)).put (frsE o ++ [frC ⟨v, ps⟩]).length
        have he : frsE o ++ [frC ⟨v, ps⟩] = frsE (putR l v ps) := by rw [hput]; simp [frsE, goPut]
        rw [he] at hT5 ⊢
        generalize (St.mk _ _ _ _) = s5 at hT5 ⊢
        simp [go_sem]
        refine W_seq (W_reg ?_)
        simp [go_sem]
        refine W_ret ?_
        simp only [go_sem]
        exact ⟨trivial, _, rfl, s, hT5.sub, by simp [go_sem], rfl⟩
      · refine W_ifs false (by simp [go_sem]) (fun h => by cases h) (fun _ => W_skip ?_)
        simp only [go_sem]
        refine W_seq (W_reg ?_)
        simp [go_sem]
        refine W_ret ?_
        simp only [go_sem]
        have hput2 : putR l v ps = o := by rw [hput]; simp [goPut]
        exact ⟨trivial, _, rfl, s, hT2.sub, by simp [go_sem, hput2], rfl⟩
end Go.Proofs.YtpmknffollpnaaaGreat
namespace Go.Proofs.YtpmknffollpnaaaGreat
open Go Go.VS
/-- Which numbers have been met. -/
def metE (N : Nat) (ns : List Int) : List (List C) := (List.range N).map fun i : Nat => [Bo (decide ((i : Int) ∈ ns))]
theorem metE_len (N : Nat) (ns : List Int) : (metE N ns).length = N := by simp [metE]
theorem metE_get (N : Nat) (ns : List Int) (i : Nat) (h : i < N) : (metE N ns)[i]? = some [Bo (decide ((i : Int) ∈ ns))] := by simp [metE, h]
theorem metE_nil (N : Nat) : metE N [] = List.replicate N [Bo false] := by
  refine List.ext_getElem? fun i => ?_
  by_cases h : i < N
  · rw [metE_get N [] i h, List.getElem?_replicate, if_pos h]; simp
  · rw [List.getElem?_eq_none (by rw [metE_len]; omega), List.getElem?_eq_none (by simp; omega)]
theorem metE_set (N : Nat) (ns : List Int) (m : Int) (h0 : 0 ≤ m) (h1 : m < N) : (metE N ns).set m.toNat [Bo true] = metE N (ns ++ [m]) := by
  refine List.ext_getElem? fun i => ?_
  by_cases h : i < N
  · rw [metE_get N _ i h]
    by_cases e : m.toNat = i
    · subst e
      rw [List.getElem?_set_self (by rw [metE_len]; exact h)]
      simp [Int.toNat_of_nonneg h0]
    · rw [List.getElem?_set_ne e, metE_get N ns i h]
      have : ¬ (i : Int) = m := by omega
      simp [this]
  · rw [List.getElem?_eq_none (by simp [metE_len]; omega), List.getElem?_eq_none (by rw [metE_len]; omega)]
def badH (l : List Fr) (i : Nat) : Bool :=
  !(decide (0 ≤ (l.getD i ⟨0, []⟩).v) && decide ((l.getD i ⟨0, []⟩).v ≤ 1099511627776)) || (decide (0 < i) && decide ((l.getD (i - 1) ⟨0, []⟩).v ≥ (l.getD i ⟨0, []⟩).v)) || decide ((l.getD i ⟨0, []⟩).p.length = 0)
theorem isB_bad {l : List Fr} {pages : Int} {k : Nat} (hk : k < l.length) (h : badF l pages k = true) : isB l pages = false := by
  have : ((List.range l.length).all fun i => !badF l pages i) = false := by
    rw [List.all_eq_false]
    exact ⟨k, by simpa using hk, by simp [h]⟩
  simp [isB, this]
theorem isB_dup {l : List Fr} {pages : Int} (h : ¬ (nums l).Nodup) : isB l pages = false := by simp [isB, h]
theorem badF_H {l : List Fr} {pages : Int} {k : Nat} (hk : k < l.length) : badF l pages k = (badH l k || !incr l[k].p pages) := by
  simp [badF, badH, hk]
theorem nums_upto (l : List Fr) (k j : Nat) (hk : k < l.length) (hj : j ≤ l[k].p.length) : ∃ t, nums l = nums (l.take k) ++ l[k].p.take j ++ t := by
  refine ⟨l[k].p.drop j ++ nums (l.drop (k + 1)), ?_⟩
  have e1 : l = l.take k ++ l[k] :: l.drop (k + 1) := by rw [← List.drop_eq_getElem_cons hk, List.take_append_drop]
  conv => lhs; rw [e1]
  rw [nums_append, nums_cons]
  simp only [List.append_assoc, List.append_cancel_left_eq]
  rw [← List.append_assoc, List.take_append_drop]
theorem nums_take_succ (l : List Fr) (k : Nat) (hk : k < l.length) : nums (l.take (k + 1)) = nums (l.take k) ++ l[k].p := by
  rw [List.take_succ_eq_append_getElem hk, nums_append, nums_cons, nums_nil, List.append_nil]
/-- Memory with a row of what has been met. -/
structure MetI (s0 s' : St) (b N : Nat) (ns : List Int) : Prop where
  sub : Sub s' s0
  row : VS.look s'.rows b = some (1, metE N ns)
  new : VS.look s0.rows b = none
theorem MetI.obj {s0 s1 : St} {b N q : Nat} {ns : List Int} (h : MetI s0 s1 b N ns) (hb : Fresh q s1) (cs : List C) : MetI s0 { s1 with objs := (q, cs) :: s1.objs } b N ns :=
  ⟨⟨fun k x hk => lookCons hb.1 (h.sub.objs _ _ hk), h.sub.rows, h.sub.toks, h.sub.maps⟩, h.row, h.new⟩
theorem MetI.put {s0 s1 : St} {b N : Nat} {ns ms : List Int} (h : MetI s0 s1 b N ns) : MetI s0 { s1 with rows := putAt s1.rows b (1, metE N ms) } b N ms :=
  ⟨⟨h.sub.objs, fun k y hk => by
    have : k ≠ b := fun e => by subst e; rw [h.new] at hk; cases hk
    show VS.look (putAt s1.rows b _) k = some y
    rw [look_putAt, if_neg this]
    exact h.sub.rows _ _ hk, h.sub.toks, h.sub.maps⟩, by
    show VS.look (putAt s1.rows b _) b = _
    rw [look_putAt, if_pos rfl, h.row]; rfl, h.new⟩
def IsI (l : List Fr) (N : Nat) (s : St) (b : Nat) (k : Nat) (L : List (Nat × C)) (s' : St) : Prop :=
  L = [(0, LF l), (1, I N), (5, .rs b N), (6, I k)] ∧ MetI s s' b N (nums (l.take k)) ∧ (nums (l.take k)).Nodup ∧ ∀ j, j < k → badF l N j = false
def IsJ (l : List Fr) (p : List Int) (N : Nat) (s : St) (b bx k : Nat) (x : List C) (j : Nat) (L : List (Nat × C)) (s' : St) : Prop :=
  L = [(0, LF l), (1, I N), (5, .rs b N), (6, I k), (7, .v (.pointer (some ⟨bx, 0, none⟩))), (8, I j)] ∧ MetI s s' b N (nums (l.take k) ++ p.take j) ∧ (nums (l.take k) ++ p.take j).Nodup ∧ (∀ i, i < j → badI p N i = false) ∧ VS.look s'.objs bx = some x
set_option maxRecDepth 4000 in
theorem is_c (n N : Nat) (l : List Fr) (hs : Sz n l) (hn : n ≤ 1000000000) (hN : N ≤ 1000000000) : Pure Tryz.prog 58 [LF l, I N] (Bo (isB l N)) := by
  intro s
  refine CallC_of Tryz.func58 rfl (by rfl) Tryz.ntmps58 (by simp) ?_
  refine W_seq (W_reg ?_)
  simp [go_sem]
  refine W_seq (W_reg ?_)
  simp [go_sem]
  refine WL_makeSlice (n := N) (k := .i64) (by simp [go_sem]) (by simp [go_sem]) tel_123 tzero_4 (by simp [go_sem]) (by simp [go_sem]) (by simp [go_sem]; omega) (by unfold maxLen; omega) (by simp) fun b hb1 hb2 => WL_run _ _ _ ?_
  have hM : MetI s { s with rows := (b, (tsz Tryz.prog 4, List.replicate N [C.v (.bool false)])) :: s.rows } b N [] :=
    ⟨⟨fun _ _ h => h, fun k x hk => lookCons hb1 hk, fun _ _ h => h, fun _ _ h => h⟩, by simp [VS.look, metE_nil, go_sem], hb1⟩
  generalize (St.mk _ _ _ _) = s1 at hM ⊢
  simp [go_sem]
  refine W_seq_k fun K hK => W_seq (W_reg ?_)
  simp [go_sem]
  have hsl := hs.len
  refine W_for l.length (IsI l N s b) (l0 := [(0, LF l), (1, I N), (5, .rs b N), (6, I 0)]) (ds := []) ⟨rfl, by simpa [nums_nil] using hM, by simp [nums_nil], fun j hj => by omega⟩ (by simp [go_sem]) rfl ?_
  rintro k _ s2 hk ⟨rfl, hM2, hnd, hall⟩ K2 hK2
  refine W_reg ?_
  simp [go_sem, frsE_length]
  refine hK2 _ _ (decide (k < l.length)) [(0, LF l), (1, I N), (5, .rs b N), (6, I k)] (by simp [go_sem]) (by simp [go_sem]) (by simp [go_sem]) (fun hlt => ?_) (fun hge => ?_)
  · simp only [decide_eq_true_eq] at hlt
    refine ⟨hlt, W_seq (W_reg ?_)⟩
    simp [go_sem, frsE_get, hlt, frC]
    refine WL_alloc tzero_64 (by simp) fun bx hbx => WL_run _ _ _ ?_
    simp [go_sem]
    have hM3 := hM2.obj hbx [I l[k].v, LI l[k].p]
    have hlb : VS.look ({ s2 with objs := (bx, [I l[k].v, LI l[k].p]) :: s2.objs } : St).objs bx = some [I l[k].v, LI l[k].p] := by simp [VS.look]
    generalize ({ s2 with objs := (bx, [I l[k].v, LI l[k].p]) :: s2.objs } : St) = s3 at hM3 hlb ⊢
    have hkl : l.getD k ⟨0, []⟩ = l[k] := by simp [List.getD, hlt]
    have hxp := hs.p _ (List.getElem_mem hlt)
    have hret : ∀ s' : St, Sub s' s → isB l N = false → True := fun _ _ _ => trivial
    refine W_seq (W_seq_k fun K3 hK3 => W_drawr 29 Tryz.mixed (by kernel_rfl) ?_)
    have key : ∀ E', Has E' [(50, Bo (badH l k)), (0, LF l), (1, I N), (5, .rs b N), (6, I k), (7, .v (.pointer (some ⟨bx, 0, none⟩)))] → E'.ds = [] → K3 E' s3 := fun E' h1 h2 => hK3 _ _ (W_keep _ h1 (by
      rw [h2]
      refine W_ifs (badH l k) (by simp [go_sem]) (fun h => W_seq (W_reg ?_)) (fun h => W_skip ?_)
      · simp [go_sem]
        refine W_ret ?_
        simp only [go_sem]
        refine ⟨trivial, _, rfl, s, hM3.sub, ?_, rfl⟩
        rw [isB_bad hlt (by rw [badF_H hlt, h]; rfl)]
        simp [go_sem]
      · simp only [go_sem]
        refine W_seq (W_reg ?_)
        simp [go_sem]
        refine W_for l[k].p.length (IsJ l l[k].p N s b bx k [I l[k].v, LI l[k].p]) (l0 := [(0, LF l), (1, I N), (5, .rs b N), (6, I k), (7, .v (.pointer (some ⟨bx, 0, none⟩))), (8, I 0)]) (ds := []) ⟨rfl, by simpa using hM3, by simpa using hnd, fun i hi => by omega, hlb⟩ (by simp [go_sem]) rfl ?_
        rintro j _ s4 hj ⟨rfl, hM4, hnd4, hall4, hlb4⟩ K5 hK5
        refine W_reg ?_
        simp [go_sem, hlb4, intsE_length]
        refine hK5 _ _ (decide (j < l[k].p.length)) [(0, LF l), (1, I N), (5, .rs b N), (6, I k), (7, .v (.pointer (some ⟨bx, 0, none⟩))), (8, I j)] (by simp [go_sem]) (by simp [go_sem]) (by simp [go_sem]) (fun hlt2 => ?_) (fun hge2 => ?_)
        · simp only [decide_eq_true_eq] at hlt2
          refine ⟨hlt2, W_seq (W_reg ?_)⟩
          simp [go_sem, hlb4, intsE_get, hlt2]
          have hpj : l[k].p.getD j 0 = l[k].p[j] := by simp [List.getD, hlt2]
          obtain ⟨tl, htl⟩ := nums_upto l k (j + 1) hlt (by omega)
          have hsn : l[k].p.take (j + 1) = l[k].p.take j ++ [l[k].p[j]] := List.take_succ_eq_append_getElem hlt2
          refine W_seq (W_seq_k fun K6 hK6 => W_reg ?_)
          have key2 : ∀ E' (t : Bool), Has E' [(89, Bo t), (9, I l[k].p[j]), (0, LF l), (1, I N), (5, .rs b N), (6, I k), (7, .v (.pointer (some ⟨bx, 0, none⟩))), (8, I j)] → E'.ds = [] → (t = true → isB l N = false) →
              (t = false → badI l[k].p N j = false ∧ (nums (l.take k) ++ l[k].p.take (j + 1)).Nodup ∧ 2 ≤ l[k].p[j] ∧ l[k].p[j] < N) → K6 E' s4 := fun E' t h1 h2 ht hf => hK6 _ _ (W_keep _ h1 (by
            rw [h2]
            refine W_ifs t (by simp [go_sem]) (fun h => W_seq (W_reg ?_)) (fun h => W_skip ?_)
            · simp [go_sem]
              refine W_ret ?_
              simp only [go_sem]
              refine ⟨trivial, _, rfl, s, hM4.sub, ?_, rfl⟩
              rw [ht h]
              simp [go_sem]
            · obtain ⟨a1, a2, a3, a4⟩ := hf h
              have hset := metE_set N (nums (l.take k) ++ l[k].p.take j) l[k].p[j] (by omega) a4
              have hw : IntKind.i64.wrap ((j : Int) + 1) = ((j + 1 : Nat) : Int) := by rw [wrap_in (by omega) (by omega)]; omega
              simp only [go_sem]
              refine W_reg ?_
              have hnn : 0 ≤ l[k].p[j] := by omega
              have hlt3 : l[k].p[j].toNat < N := by omega
              simp [go_sem, hnn, a4, hM4.row, metE_get N _ _ hlt3]
              refine W_reg ?_
              simp [go_sem, hw]
              rw [hset, List.append_assoc, ← hsn]
              refine ⟨_, ⟨rfl, hM4.put, a2, fun i hi => ?_, hlb4⟩, by simp [go_sem]⟩
              rcases Nat.lt_succ_iff_lt_or_eq.1 hi with hi | hi
              · exact hall4 i hi
              · rw [hi]; exact a1))
          have hbI : badI l[k].p N j = (!(decide (2 ≤ l[k].p[j]) && decide (l[k].p[j] ≤ (N : Int) - 1)) || (decide (0 < j) && decide (l[k].p.getD (j - 1) 0 ≥ l[k].p[j]))) := by simp only [badI, hpj]
          have hbadI : badI l[k].p N j = true → isB l N = false := fun h => isB_bad hlt (by rw [badF_H hlt, incr_false hlt2 h]; simp)
          by_cases c1 : l[k].p[j] < 2
          · simp [go_sem, c1]
            have n1 : ¬ 2 ≤ l[k].p[j] := by omega
            exact key2 _ true (by simp [go_sem]) (by simp [go_sem]) (fun _ => hbadI (by rw [hbI]; simp [n1])) (fun h => by cases h)
          · by_cases c2 : (N : Int) ≤ l[k].p[j]
            · simp [go_sem, c1, c2]
              have n1 : ¬ l[k].p[j] ≤ (N : Int) - 1 := by omega
              exact key2 _ true (by simp [go_sem]) (by simp [go_sem]) (fun _ => hbadI (by rw [hbI]; simp [n1])) (fun h => by cases h)
            · have hnn : 0 ≤ l[k].p[j] := by omega
              have hlt3 : l[k].p[j].toNat < N := by omega
              have hlt4 : l[k].p[j] < (N : Int) := by omega
              have htn : ((l[k].p[j].toNat : Nat) : Int) = l[k].p[j] := Int.toNat_of_nonneg hnn
              have hget := metE_get N (nums (l.take k) ++ l[k].p.take j) _ hlt3
              rw [htn] at hget
              by_cases c3 : l[k].p[j] ∈ nums (l.take k) ++ l[k].p.take j
              · have hdup : ¬ (nums l).Nodup := fun hd => by
                  rw [htl, hsn, ← List.append_assoc] at hd
                  have h1 := (List.nodup_append.1 hd).1
                  exact (List.nodup_append.1 h1).2.2 _ c3 _ (by simp) rfl
                rw [decide_eq_true c3] at hget
                simp [go_sem, c1, c2, hnn, hlt4, hM4.row, hget]
                exact key2 _ true (by simp [go_sem]) (by simp [go_sem]) (fun _ => isB_dup hdup) (fun h => by cases h)
              · have hnd5 : (nums (l.take k) ++ l[k].p.take (j + 1)).Nodup := by
                  rw [hsn, ← List.append_assoc]
                  exact List.nodup_append.2 ⟨hnd4, by simp, fun a ha b hb e => by simp at hb; subst hb; subst e; exact c3 ha⟩
                rw [decide_eq_false c3] at hget
                have hrange : (decide (2 ≤ l[k].p[j]) && decide (l[k].p[j] ≤ (N : Int) - 1)) = true := by simp; omega
                rw [hrange] at hbI
                by_cases c4 : 0 < j
                · have e1 : IntKind.i64.wrap ((j : Int) - 1) = ((j - 1 : Nat) : Int) := by rw [wrap_in (by omega) (by omega)]; omega
                  have hj1 : j - 1 < l[k].p.length := by omega
                  have hp1 : l[k].p.getD (j - 1) 0 = l[k].p[j - 1] := by simp [List.getD, hj1]
                  rw [hp1] at hbI
                  simp [go_sem, c1, c2, hnn, hlt4, hM4.row, hget, c4, hlb4, e1, intsE_get, hj1]
                  refine key2 _ (decide (l[k].p[j] ≤ l[k].p[j - 1])) (by simp [go_sem]) (by simp [go_sem]) (fun h => hbadI (by rw [hbI]; simp [c4] at h ⊢; exact h)) (fun h => ⟨by rw [hbI]; simp at h ⊢; omega, hnd5, by omega, by omega⟩)
                · simp [go_sem, c1, c2, hnn, hlt4, hM4.row, hget, c4]
                  refine key2 _ false (by simp [go_sem]) (by simp [go_sem]) (fun h => by cases h) (fun h => ⟨by rw [hbI]; simp [c4], hnd5, by omega, by omega⟩)
        · simp only [decide_eq_false_iff_not] at hge2
          have hj' : l[k].p.take j = l[k].p := List.take_of_length_le (by omega)
          rw [hj', ← nums_take_succ l k hlt] at hM4 hnd4
          simp only [go_sem]
          have hw : IntKind.i64.wrap ((k : Int) + 1) = ((k + 1 : Nat) : Int) := by rw [wrap_in (by omega) (by omega)]; omega
          refine W_reg ?_
          simp [go_sem, hw]
          refine ⟨_, ⟨rfl, hM4, hnd4, fun i hi => ?_⟩, by simp [go_sem]⟩
          rcases Nat.lt_succ_iff_lt_or_eq.1 hi with hi | hi
          · exact hall i hi
          · rw [hi, badF_H hlt, h, incr_true fun i hi => hall4 i (by omega)]
            rfl))
    have hbH : badH l k = (!(decide (0 ≤ l[k].v) && decide (l[k].v ≤ 1099511627776)) || (decide (0 < k) && decide ((l.getD (k - 1) ⟨0, []⟩).v ≥ l[k].v)) || decide (l[k].p.length = 0)) := by simp only [badH, hkl]
    by_cases c1 : l[k].v < 0
    · simp [go_sem, hlb, c1]
      exact key _ (by simp [go_sem, hbH]; omega) (by simp [go_sem])
    · by_cases c2 : 1099511627776 < l[k].v
      · simp [go_sem, hlb, c1, c2]
        exact key _ (by simp [go_sem, hbH]; omega) (by simp [go_sem])
      · have hr : (decide (0 ≤ l[k].v) && decide (l[k].v ≤ 1099511627776)) = true := by simp; omega
        rw [hr] at hbH
        have hlen0 : ∀ q : Nat, ((q : Int) == 0) = decide (q = 0) := fun q => by
          by_cases h : q = 0 <;> simp [h]
        by_cases c3 : 0 < k
        · have e1 : IntKind.i64.wrap ((k : Int) - 1) = ((k - 1 : Nat) : Int) := by rw [wrap_in (by omega) (by omega)]; omega
          have hk1 : k - 1 < l.length := by omega
          have hkl1 : l.getD (k - 1) ⟨0, []⟩ = l[k - 1] := by simp [List.getD, hk1]
          rw [hkl1] at hbH
          by_cases c4 : l[k].v ≤ l[k - 1].v
          · simp [go_sem, hlb, c1, c2, c3, e1, frsE_get, hk1, frC, c4]
            exact key _ (by simp [go_sem, hbH, c3, c4]) (by simp [go_sem])
          · simp [go_sem, hlb, c1, c2, c3, e1, frsE_get, hk1, frC, c4, intsE_length]
            exact key _ (by simp [go_sem, hbH, c3, c4, hlen0]) (by simp [go_sem])
        · simp [go_sem, hlb, c1, c2, c3, intsE_length]
          exact key _ (by simp [go_sem, hbH, c3, hlen0]) (by simp [go_sem])
  · simp only [decide_eq_false_iff_not] at hge
    have hk' : k = l.length := by omega
    subst hk'
    rw [List.take_length] at hM2 hnd
    simp only [go_sem]
    refine hK _ _ ?_
    refine W_seq (W_reg ?_)
    simp [go_sem]
    refine W_ret ?_
    simp only [go_sem]
    refine ⟨trivial, _, rfl, s, hM2.sub, ?_, rfl⟩
    have : isB l N = true := (isB_iff _ _).2 ⟨((bad_iff _ _).1 hall).1, ((bad_iff _ _).1 hall).2, hnd⟩
    simp [go_sem, this]
end Go.Proofs.YtpmknffollpnaaaGreat
namespace Go.Proofs.YtpmknffollpnaaaGreat
open Go Go.VS
theorem refCheck_c (n : Nat) (l : List Fr) (pages : Int) (hs : Sz n l) (hn : n ≤ 1000000000) : Pure Tryz.prog 20 [LF l, I pages] (I (checkE l pages)) := by
  intro s
  refine CallC_of Tryz.func20 rfl (by rfl) Tryz.ntmps20 (by simp) ?_
  refine W_seq (W_reg ?_)
  simp [go_sem]
  refine W_seq (W_seq (W_reg ?_))
  simp [go_sem]
  refine Pure.use (size_c _) ?_
  have hE : checkE l pages = if (decide (2 ≤ pages) && decide (pages ≤ 4096)) then (if validB l pages then 0 else 2) else 1 := rfl
  by_cases hp : (decide (2 ≤ pages) && decide (pages ≤ 4096)) = true
  · rw [hp] at hE ⊢
    simp at hp
    have hN : pages = ((pages.toNat : Nat) : Int) := by omega
    have hv : validB l pages = isB l pages := by rw [validB_isB]; simp [hp]
    simp [go_sem]
    refine W_ifs false (by simp [go_sem]) (fun h => by cases h) (fun _ => W_skip ?_)
    simp only [go_sem]
    refine W_seq (W_seq (W_reg ?_))
    simp [go_sem]
    rw [hv] at hE
    generalize hq : isB l pages = q at hE
    have h := is_c n pages.toNat l hs hn (by omega)
    rw [← hN, hq] at h
    refine Pure.use h ?_
    simp [go_sem]
    cases q
    · refine W_ifs true (by simp [go_sem]) (fun _ => W_seq (W_reg ?_)) (fun h => by cases h)
      simp [go_sem]
      refine W_ret ?_
      simp only [go_sem]
      exact ⟨trivial, _, rfl, s, Sub.refl _, by simp [go_sem, hE], rfl⟩
    · refine W_ifs false (by simp [go_sem]) (fun h => by cases h) (fun _ => W_skip ?_)
      simp only [go_sem]
      refine W_seq (W_reg ?_)
      simp [go_sem]
      refine W_ret ?_
      simp only [go_sem]
      exact ⟨trivial, _, rfl, s, Sub.refl _, by simp [go_sem, hE], rfl⟩
  · have hp' : (decide (2 ≤ pages) && decide (pages ≤ 4096)) = false := by simpa using hp
    rw [hp'] at hE ⊢
    simp [go_sem]
    refine W_ifs true (by simp [go_sem]) (fun _ => W_seq (W_reg ?_)) (fun h => by cases h)
    simp [go_sem]
    refine W_ret ?_
    simp only [go_sem]
    exact ⟨trivial, _, rfl, s, Sub.refl _, by simp [go_sem, hE], rfl⟩
/-- .. and a variable of the call's own beside it. -/
structure MetV (s0 s' : St) (b N : Nat) (ns : List Int) (b4 : Nat) (x : List C) : Prop where
  met : MetI s0 s' b N ns
  var : VS.look s'.objs b4 = some x
theorem Sz.take {n : Nat} {l : List Fr} (h : Sz n l) (k : Nat) : Sz n (l.take k) := ⟨by have := h.len; simp; omega, fun f hf => h.p f (List.mem_of_mem_take hf)⟩
theorem Inc.take {l : List Fr} (h : Inc l) (k : Nat) : Inc (l.take k) := ⟨h.v.sublist (List.take_sublist _ _), fun f hf => h.ne f (List.mem_of_mem_take hf), fun f hf => h.p f (List.mem_of_mem_take hf)⟩
theorem good_mem {l : List Fr} {pages : Int} (h : Good l pages) (k j : Nat) (hk : k < l.length) (hj : j < l[k].p.length) : 2 ≤ l[k].p[j] ∧ l[k].p[j] ≤ pages - 1 :=
  (h.ok _ (List.getElem_mem hk)).2.2.2.2 _ (List.getElem_mem hj)
set_option maxRecDepth 4000 in
theorem refMerge_c (n m : Nat) (a b : List Fr) (ha : Sz n a) (hb : Sz m b) (hn : n + m ≤ 100000000) : Pure Tryz.prog 25 [LF a, LF b] (.agg [LF (mergeR a b).1, I (mergeR a b).2]) := by
  intro s
  refine CallC_of Tryz.func25 rfl (by rfl) Tryz.ntmps25 (by simp) ?_
  refine W_seq (W_reg ?_)
  simp [go_sem]
  refine WL_alloc tzero_51 (by simp) fun b4 hb4 => WL_run _ _ _ ?_
  simp [go_sem]
  have hsub1 : Sub { s with objs := (b4, [C.v (.slice none 0 0), C.v (.int .i64 0)]) :: s.objs } s := sub_obj hb4 _
  have hv1 : VS.look ({ s with objs := (b4, [C.v (.slice none 0 0), C.v (.int .i64 0)]) :: s.objs } : St).objs b4 = some [.v (.slice none 0 0), I 0] := by simp [VS.look]
  generalize ({ s with objs := (b4, [C.v (.slice none 0 0), C.v (.int .i64 0)]) :: s.objs } : St) = s1 at hsub1 hv1 ⊢
  have hmR : mergeR a b = if isB a 4096 && isB b 4096 then (if (nums b).any (fun n => decide (n ∈ nums a)) then ([], 2) else (b.foldl (fun o f => putR o f.v f.p) a, 0)) else ([], 2) := rfl
  refine W_seq (W_seq_k fun K hK => W_reg ?_)
  have key : ∀ E' (t : Bool), Has E' [(18, Bo t), (0, LF a), (1, LF b), (4, .v (.pointer (some ⟨b4, 0, none⟩)))] → E'.ds = [] → t = !(isB a 4096 && isB b 4096) → K E' s1 := fun E' t h1 h2 ht => hK _ _ (W_keep _ h1 (by
    rw [h2]
    refine W_ifs t (by simp [go_sem]) (fun h => W_seq (W_reg ?_)) (fun h => W_skip ?_)
    · rw [h] at ht
      have hf : (isB a 4096 && isB b 4096) = false := by
        cases hq : (isB a 4096 && isB b 4096) with
        | false => rfl
        | true => rw [hq] at ht; cases ht
      rw [hf] at hmR
      simp [go_sem, hv1]
      refine W_ret ?_
      simp only [go_sem]
      refine ⟨trivial, .agg [.v (.slice none 0 0), I 2], by simp [go_sem, look_putAt, hv1], s, sub_put hsub1 hb4.1 _, ?_, rfl⟩
      simp [go_sem, hmR, frsE]
    · rw [h] at ht
      have hf : isB a 4096 = true ∧ isB b 4096 = true := by
        cases hq : (isB a 4096 && isB b 4096) with
        | false => rw [hq] at ht; cases ht
        | true => simpa using hq
      have ga := (isB_iff a _).1 hf.1
      have gb := (isB_iff b _).1 hf.2
      rw [hf.1, hf.2] at hmR
      simp only [Bool.and_self, if_true] at hmR
      simp only [go_sem]
      refine W_seq (W_reg ?_)
      simp [go_sem]
      refine WL_makeSlice (n := 4096) (k := .i64) (by simp [go_sem]) (by simp [go_sem]) tel_123 tzero_4 (by simp [go_sem]) (by simp [go_sem]) (by simp [go_sem]) (by unfold maxLen; omega) (by simp) fun bm hb1 hb2 => WL_run _ _ _ ?_
      have hM : MetV s { s1 with rows := (bm, (tsz Tryz.prog 4, List.replicate 4096 [C.v (.bool false)])) :: s1.rows } bm 4096 [] b4 [.v (.slice none 0 0), I 0] :=
        ⟨⟨⟨hsub1.objs, fun k x hk => lookCons hb1 (hsub1.rows _ _ hk), hsub1.toks, hsub1.maps⟩, by rw [metE_nil, tsz_4]; exact if_pos rfl, by
          cases hq : VS.look s.rows bm with
          | none => rfl
          | some q => have := hsub1.rows _ _ hq; rw [hb1] at this; cases this⟩, hv1⟩
      generalize (St.mk _ _ _ _) = s2 at hM ⊢
      simp [go_sem]
      refine W_seq (W_reg ?_)
      simp [go_sem]
      refine W_seq_k fun K1 hK1 => W_seq (W_reg ?_)
      simp [go_sem]
      have hal := ha.len
      have hbl := hb.len
      refine W_for a.length (fun k L s' => L = [(0, LF a), (1, LF b), (4, .v (.pointer (some ⟨b4, 0, none⟩))), (5, .rs bm 4096), (6, LF a), (7, I k)] ∧ MetV s s' bm 4096 (nums (a.take k)) b4 [.v (.slice none 0 0), I 0])
        (l0 := [(0, LF a), (1, LF b), (4, .v (.pointer (some ⟨b4, 0, none⟩))), (5, .rs bm 4096), (6, LF a), (7, I 0)]) (ds := []) ⟨rfl, by simpa [nums_nil] using hM⟩ (by simp [go_sem]) rfl ?_
      rintro k _ s3 hk ⟨rfl, hM3⟩ K2 hK2
      refine W_reg ?_
      simp [go_sem, frsE_length]
      refine hK2 _ _ (decide (k < a.length)) [(0, LF a), (1, LF b), (4, .v (.pointer (some ⟨b4, 0, none⟩))), (5, .rs bm 4096), (6, LF a), (7, I k)] (by simp [go_sem]) (by simp [go_sem]) (by simp [go_sem]) (fun hlt => ?_) (fun hge => ?_)
      · simp only [decide_eq_true_eq] at hlt
        have hpl := ha.p _ (List.getElem_mem hlt)
        refine ⟨hlt, W_seq (W_reg ?_)⟩
        simp [go_sem]
        refine W_for a[k].p.length (fun j L s' => L = [(0, LF a), (1, LF b), (4, .v (.pointer (some ⟨b4, 0, none⟩))), (5, .rs bm 4096), (6, LF a), (7, I k), (8, I j)] ∧ MetV s s' bm 4096 (nums (a.take k) ++ a[k].p.take j) b4 [.v (.slice none 0 0), I 0])
          (l0 := [(0, LF a), (1, LF b), (4, .v (.pointer (some ⟨b4, 0, none⟩))), (5, .rs bm 4096), (6, LF a), (7, I k), (8, I 0)]) (ds := []) ⟨rfl, by simpa using hM3⟩ (by simp [go_sem]) rfl ?_
        rintro j _ s4 hj ⟨rfl, hM4⟩ K3 hK3
        refine W_reg ?_
        simp [go_sem, frsE_get, hlt, frC, intsE_length]
        refine hK3 _ _ (decide (j < a[k].p.length)) [(0, LF a), (1, LF b), (4, .v (.pointer (some ⟨b4, 0, none⟩))), (5, .rs bm 4096), (6, LF a), (7, I k), (8, I j)] (by simp [go_sem]) (by simp [go_sem]) (by simp [go_sem]) (fun hlt2 => ?_) (fun hge2 => ?_)
        · simp only [decide_eq_true_eq] at hlt2
          obtain ⟨r1, r2⟩ := good_mem ga k j hlt hlt2
          have hnn : 0 ≤ a[k].p[j] := by omega
          have hlt3 : a[k].p[j].toNat < 4096 := by omega
          have hlt4 : a[k].p[j] < 4096 := by omega
          have hset := metE_set 4096 (nums (a.take k) ++ a[k].p.take j) a[k].p[j] hnn (by omega)
          have hsn : a[k].p.take (j + 1) = a[k].p.take j ++ [a[k].p[j]] := List.take_succ_eq_append_getElem hlt2
          have hw : IntKind.i64.wrap ((j : Int) + 1) = ((j + 1 : Nat) : Int) := by rw [wrap_in (by omega) (by omega)]; omega
          refine ⟨hlt2, W_reg ?_⟩
          simp [go_sem, frsE_get, hlt, frC, intsE_get, hlt2, hnn, hlt4, hM4.met.row, metE_get 4096 _ _ hlt3]
          refine W_reg ?_
          simp [go_sem, hw]
          rw [hset, List.append_assoc, ← hsn]
          exact ⟨_, ⟨rfl, hM4.met.put, hM4.var⟩, by simp [go_sem]⟩
        · simp only [decide_eq_false_iff_not] at hge2
          have hj' : a[k].p.take j = a[k].p := List.take_of_length_le (by omega)
          rw [hj', ← nums_take_succ a k hlt] at hM4
          have hw : IntKind.i64.wrap ((k : Int) + 1) = ((k + 1 : Nat) : Int) := by rw [wrap_in (by omega) (by omega)]; omega
          simp only [go_sem]
          refine W_reg ?_
          simp [go_sem, hw]
          exact ⟨_, ⟨rfl, hM4⟩, by simp [go_sem]⟩
      · simp only [decide_eq_false_iff_not] at hge
        have hk' : a.take k = a := List.take_of_length_le (by omega)
        rw [hk'] at hM3
        simp only [go_sem]
        refine hK1 _ _ ?_
        have hfold : ∀ k, (b.take k).foldl (fun o f => putR o f.v f.p) a = mergeF a (b.take k) := fun k => fold_put ga.inc (gb.inc.take k)
        refine W_seq_k fun K4 hK4 => W_seq (W_reg ?_)
        simp [go_sem]
        refine W_for b.length (fun k L s' => L = [(0, LF a), (1, LF b), (4, .v (.pointer (some ⟨b4, 0, none⟩))), (5, .rs bm 4096), (9, I k), (6, LF ((b.take k).foldl (fun o f => putR o f.v f.p) a))] ∧ MetV s s' bm 4096 (nums a) b4 [.v (.slice none 0 0), I 0] ∧ ∀ x ∈ nums (b.take k), x ∉ nums a)
          (l0 := [(0, LF a), (1, LF b), (4, .v (.pointer (some ⟨b4, 0, none⟩))), (5, .rs bm 4096), (9, I 0), (6, LF a)]) (ds := []) ⟨rfl, hM3, by simp [nums_nil]⟩ (by simp [go_sem]) rfl ?_
        rintro q _ s5 hq ⟨rfl, hM5, hall5⟩ K5 hK5
        refine W_reg ?_
        simp [go_sem, frsE_length]
        refine hK5 _ _ (decide (q < b.length)) [(0, LF a), (1, LF b), (4, .v (.pointer (some ⟨b4, 0, none⟩))), (5, .rs bm 4096), (9, I q), (6, LF ((b.take q).foldl (fun o f => putR o f.v f.p) a))] (by simp [go_sem]) (by simp [go_sem]) (by simp [go_sem]) (fun hltq => ?_) (fun hgeq => ?_)
        · simp only [decide_eq_true_eq] at hltq
          have hpl := hb.p _ (List.getElem_mem hltq)
          refine ⟨hltq, ?_⟩
          refine W_seq_k fun K6 hK6 => W_seq (W_reg ?_)
          simp [go_sem]
          refine W_for b[q].p.length (fun j L s' => L = [(0, LF a), (1, LF b), (4, .v (.pointer (some ⟨b4, 0, none⟩))), (5, .rs bm 4096), (9, I q), (6, LF ((b.take q).foldl (fun o f => putR o f.v f.p) a)), (10, I j)] ∧ MetV s s' bm 4096 (nums a) b4 [.v (.slice none 0 0), I 0] ∧ ∀ x ∈ nums (b.take q) ++ b[q].p.take j, x ∉ nums a)
            (l0 := [(0, LF a), (1, LF b), (4, .v (.pointer (some ⟨b4, 0, none⟩))), (5, .rs bm 4096), (9, I q), (6, LF ((b.take q).foldl (fun o f => putR o f.v f.p) a)), (10, I 0)]) (ds := []) ⟨rfl, hM5, by simpa using hall5⟩ (by simp [go_sem]) rfl ?_
          rintro j _ s6 hj ⟨rfl, hM6, hall6⟩ K7 hK7
          refine W_reg ?_
          simp [go_sem, frsE_get, hltq, frC, intsE_length]
          refine hK7 _ _ (decide (j < b[q].p.length)) [(0, LF a), (1, LF b), (4, .v (.pointer (some ⟨b4, 0, none⟩))), (5, .rs bm 4096), (9, I q), (6, LF ((b.take q).foldl (fun o f => putR o f.v f.p) a)), (10, I j)] (by simp [go_sem]) (by simp [go_sem]) (by simp [go_sem]) (fun hlt2 => ?_) (fun hge2 => ?_)
          · simp only [decide_eq_true_eq] at hlt2
            obtain ⟨r1, r2⟩ := good_mem gb q j hltq hlt2
            have hnn : 0 ≤ b[q].p[j] := by omega
            have hlt3 : b[q].p[j].toNat < 4096 := by omega
            have hlt4 : b[q].p[j] < 4096 := by omega
            have htn : ((b[q].p[j].toNat : Nat) : Int) = b[q].p[j] := Int.toNat_of_nonneg hnn
            have hget := metE_get 4096 (nums a) _ hlt3
            rw [htn] at hget
            have hsn : b[q].p.take (j + 1) = b[q].p.take j ++ [b[q].p[j]] := List.take_succ_eq_append_getElem hlt2
            have hw : IntKind.i64.wrap ((j : Int) + 1) = ((j + 1 : Nat) : Int) := by rw [wrap_in (by omega) (by omega)]; omega
            refine ⟨hlt2, W_seq (W_reg ?_)⟩
            simp [go_sem, frsE_get, hltq, frC, intsE_get, hlt2, hnn, hlt4, hM6.met.row, hget]
            refine W_ifs (decide (b[q].p[j] ∈ nums a)) (by simp [go_sem]) (fun h => W_seq (W_reg ?_)) (fun h => W_skip ?_)
            · simp only [decide_eq_true_eq] at h
              have hany : ((nums b).any fun n => decide (n ∈ nums a)) = true := by
                rw [List.any_eq_true]
                exact ⟨b[q].p[j], nums_mem.2 ⟨b[q], List.getElem_mem hltq, List.getElem_mem hlt2⟩, by simpa using h⟩
              rw [hany] at hmR
              simp [go_sem, hM6.var]
              refine W_ret ?_
              simp only [go_sem]
              refine ⟨trivial, .agg [.v (.slice none 0 0), I 2], by simp [go_sem, look_putAt, hM6.var], s, sub_put hM6.met.sub hb4.1 _, ?_, rfl⟩
              simp [go_sem, hmR, frsE]
            · simp only [decide_eq_false_iff_not] at h
              simp only [go_sem]
              refine W_reg ?_
              simp [go_sem, hw]
              refine ⟨_, ⟨rfl, hM6, fun x hx => ?_⟩, by simp [go_sem]⟩
              rw [hsn] at hx
              rcases hx with hx | hx
              · exact hall6 x (List.mem_append_left _ hx)
              · rcases List.mem_append.1 hx with hx | hx
                · exact hall6 x (List.mem_append_right _ hx)
                · simp at hx; subst hx; exact h
          · simp only [decide_eq_false_iff_not] at hge2
            have hj' : b[q].p.take j = b[q].p := List.take_of_length_le (by omega)
            rw [hj', ← nums_take_succ b q hltq] at hall6
            have hw : IntKind.i64.wrap ((q : Int) + 1) = ((q + 1 : Nat) : Int) := by rw [wrap_in (by omega) (by omega)]; omega
            have hsz : Sz (n + m) ((b.take q).foldl (fun o f => putR o f.v f.p) a) := by rw [hfold]; exact ha.merge (hb.take q)
            have hput : putR ((b.take q).foldl (fun o f => putR o f.v f.p) a) b[q].v b[q].p = (b.take (q + 1)).foldl (fun o f => putR o f.v f.p) a := by rw [List.take_succ_eq_append_getElem hltq, List.foldl_append]; rfl
            simp only [go_sem]
            refine hK6 _ _ (W_drawr 12 Tryz.mixed (by kernel_rfl) ?_)
            simp [go_sem, frsE_get, hltq, frC]
            refine ⟨_, put_c (n + m) _ _ _ hsz hn (by omega), ?_⟩
            refine W_reg ?_
            simp [go_sem, hw, hput]
            exact ⟨_, ⟨rfl, hM6, hall6⟩, by simp [go_sem]⟩
        · simp only [decide_eq_false_iff_not] at hgeq
          have hq' : b.take q = b := List.take_of_length_le (by omega)
          rw [hq'] at hall5 ⊢
          have hany : ((nums b).any fun n => decide (n ∈ nums a)) = false := by
            rw [List.any_eq_false]
            intro x hx
            simpa using hall5 x hx
          rw [hany] at hmR
          simp only [go_sem]
          refine hK4 _ _ ?_
          refine W_seq (W_reg ?_)
          simp [go_sem, hM5.var]
          refine W_ret ?_
          simp only [go_sem]
          refine ⟨trivial, .agg [LF (b.foldl (fun o f => putR o f.v f.p) a), I 0], by simp [go_sem, look_putAt, hM5.var], s, sub_put hM5.met.sub hb4.1 _, ?_, rfl⟩
          simp [go_sem, hmR]))
  simp [go_sem]
  refine Pure.use (is_c n 4096 a ha (by omega) (by omega)) ?_
  cases hia : isB a ((4096 : Nat) : Int)
  · have hia' : isB a 4096 = false := hia
    simp [go_sem]
    exact key _ true (by simp [go_sem]) (by simp [go_sem]) (by simp [hia'])
  · have hia' : isB a 4096 = true := hia
    simp [go_sem]
    refine Pure.use (is_c m 4096 b hb (by omega) (by omega)) ?_
    have hib : isB b ((4096 : Nat) : Int) = isB b 4096 := rfl
    rw [hib]
    simp [go_sem]
    exact key _ (!isB b 4096) (by simp [go_sem]) (by simp [go_sem]) (by simp [hia'])
end Go.Proofs.YtpmknffollpnaaaGreat
namespace Go.Proofs.YtpmknffollpnaaaGreat
open Go Go.VS
def usableR (l : List Fr) (o : Int) : C := if isB l 4096 then (if inV o then .agg [LI ((useL l o).foldl withI []), LF (restP l o), I 0] else .agg [LI [], LF [], I 1]) else .agg [LI [], LF [], I 2]
structure UseS (s s' : St) (r b4 b5 : Nat) (u : List Int) (f : List Fr) : Prop where
  tk : TokI s s' r 2 f.length
  v4 : VS.look s'.objs b4 = some [.v (.slice none 0 0), .v (.slice none 0 0), I 0]
  v5 : VS.look s'.objs b5 = some [LI u, .li (some r) (frsE f), I 0]
set_option maxRecDepth 4000 in
theorem refUsable_c (n : Nat) (l : List Fr) (o : Int) (hs : Sz n l) (hn : n ≤ 100000000) (ht : (nums l).length ≤ 100000000) : Pure Tryz.prog 27 [LF l, I o] (usableR l o) := by
  intro s
  refine CallC_of Tryz.func27 rfl (by rfl) Tryz.ntmps27 (by simp) ?_
  refine W_seq (W_reg ?_)
  simp [go_sem]
  refine WL_alloc tzero_56 (by simp) fun b4 hb4 => WL_run _ _ _ ?_
  simp [go_sem]
  have hsub1 : Sub { s with objs := (b4, [C.v (.slice none 0 0), C.v (.slice none 0 0), C.v (.int .i64 0)]) :: s.objs } s := sub_obj hb4 _
  have hv1 : VS.look ({ s with objs := (b4, [C.v (.slice none 0 0), C.v (.slice none 0 0), C.v (.int .i64 0)]) :: s.objs } : St).objs b4 = some [.v (.slice none 0 0), .v (.slice none 0 0), I 0] := by simp [VS.look]
  generalize ({ s with objs := (b4, [C.v (.slice none 0 0), C.v (.slice none 0 0), C.v (.int .i64 0)]) :: s.objs } : St) = s1 at hsub1 hv1 ⊢
  have hu : usableR l o = if isB l 4096 then (if inV o then .agg [LI ((useL l o).foldl withI []), LF (restP l o), I 0] else .agg [LI [], LF [], I 1]) else .agg [LI [], LF [], I 2] := rfl
  refine W_seq (W_seq (W_reg ?_))
  simp [go_sem]
  refine Pure.use (is_c n 4096 l hs (by omega) (by omega)) ?_
  have hib : isB l ((4096 : Nat) : Int) = isB l 4096 := rfl
  rw [hib]
  generalize isB l 4096 = ib at hu ⊢
  cases ib
  · simp [go_sem]
    refine W_ifs true (by simp [go_sem]) (fun _ => W_seq (W_reg ?_)) (fun h => by cases h)
    simp [go_sem, hv1]
    refine W_ret ?_
    simp only [go_sem]
    refine ⟨trivial, .agg [.v (.slice none 0 0), .v (.slice none 0 0), I 2], by simp [go_sem, look_putAt, hv1], s, sub_put hsub1 hb4.1 _, ?_, rfl⟩
    simp [go_sem, hu, frsE, intsE]
  · simp [go_sem]
    refine W_ifs false (by simp [go_sem]) (fun h => by cases h) (fun _ => W_skip ?_)
    simp only [go_sem]
    refine W_seq (W_seq_k fun K hK => W_reg ?_)
    have key : ∀ E' (t : Bool), Has E' [(17, Bo t), (0, LF l), (1, I o), (4, .v (.pointer (some ⟨b4, 0, none⟩)))] → E'.ds = [] → t = !(inV o) → K E' s1 := fun E' t h1 h2 ht => hK _ _ (W_keep _ h1 (by
      rw [h2]
      refine W_ifs t (by simp [go_sem]) (fun h => W_seq (W_reg ?_)) (fun h => W_skip ?_)
      · have hi : inV o = false := by rw [h] at ht; simpa using ht.symm
        rw [hi] at hu
        simp [go_sem, hv1]
        refine W_ret ?_
        simp only [go_sem]
        refine ⟨trivial, .agg [.v (.slice none 0 0), .v (.slice none 0 0), I 1], by simp [go_sem, look_putAt, hv1], s, sub_put hsub1 hb4.1 _, ?_, rfl⟩
        simp [go_sem, hu, frsE, intsE]
      · have hi : inV o = true := by rw [h] at ht; simpa using ht.symm
        rw [hi] at hu
        simp only [if_true] at hu
        simp only [go_sem]
        refine W_seq (W_reg ?_)
        simp [go_sem]
        refine WL_alloc tzero_56 (by simp) fun b5 hb5 => WL_run _ _ _ ?_
        simp [go_sem]
        have h54 : b5 ≠ b4 := fun e => by subst e; rw [hb5.1] at hv1; cases hv1
        refine W_tokc (b := b5) (cs := [C.v (.slice none 0 0), C.v (.slice none 0 0), C.v (.int .i64 0)]) 1 2 (by simp [VS.look]) (by simp) fun r hr => ?_
        refine W_cells (b := b5) (cs := [C.v (.slice none 0 0), .li (some r) [], C.v (.int .i64 0)]) (cs' := [C.li none [], .li (some r) [], C.v (.int .i64 0)]) (by simp [look_putAt, VS.look]) rfl (fun w g hst j hj v hv => ?_) ?_
        · match j, hj with
          | 0, _ => simp only [List.getElem_cons_zero] at hv ⊢; rw [hv.v_eq]; exact nil_li
          | 1, _ => exact hv
          | 2, _ => exact hv
        have hUS : UseS s { s1 with objs := putAt (putAt ((b5, [C.v (.slice none 0 0), C.v (.slice none 0 0), C.v (.int .i64 0)]) :: s1.objs) b5 [C.v (.slice none 0 0), .li (some r) [], C.v (.int .i64 0)]) b5 [C.li none [], .li (some r) [], C.v (.int .i64 0)], toks := (r, (2, 0)) :: s1.toks } r b4 b5 [] [] := by
          refine ⟨⟨⟨fun k x hk => ?_, hsub1.rows, fun k x hk => lookCons hr (hsub1.toks _ _ hk), hsub1.maps⟩, by simp [VS.look], ?_⟩, ?_, ?_⟩
          · have hk' := hsub1.objs _ _ hk
            have hne : k ≠ b5 := fun e => by subst e; rw [hb5.1] at hk'; cases hk'
            show VS.look (putAt (putAt (_ :: s1.objs) b5 _) b5 _) k = some x
            rw [look_putAt, if_neg hne, look_putAt, if_neg hne]
            exact lookCons hb5.1 hk'
          · cases hq : VS.look s.toks r with
            | none => rfl
            | some q => have := hsub1.toks _ _ hq; rw [hr] at this; cases this
          · show VS.look (putAt (putAt (_ :: s1.objs) b5 _) b5 _) b4 = _
            rw [look_putAt, if_neg h54.symm, look_putAt, if_neg h54.symm]
            exact lookCons hb5.1 hv1
          · show VS.look (putAt (putAt (_ :: s1.objs) b5 _) b5 _) b5 = _
            rw [look_putAt, if_pos rfl, look_putAt, if_pos rfl]
            simp [VS.look, intsE, frsE]
        refine (fun (h : ∀ s2, UseS s s2 r b4 b5 [] [] → W Tryz.prog ⟨64, none⟩ _ _ s2 _) => h _ hUS) ?_
        clear hUS
        intro s2 hUS
        have hb5s : VS.look s.objs b5 = none := by
          cases hq : VS.look s.objs b5 with
          | none => rfl
          | some q => have := hsub1.objs _ _ hq; rw [hb5.1] at this; cases this
        refine W_seq_k fun K1 hK1 => W_seq (W_reg ?_)
        simp [go_sem]
        have hsl := hs.len
        have hput : ∀ (s' : St) (u u' : List Int) (f f' : List Fr), UseS s s' r b4 b5 u f → TokI s s' r 2 f'.length → UseS s { s' with objs := putAt s'.objs b5 [LI u', .li (some r) (frsE f'), I 0] } r b4 b5 u' f' := fun s' u u' f f' h ht' => by
          refine ⟨⟨⟨fun k x hk => ?_, h.tk.sub.rows, h.tk.sub.toks, h.tk.sub.maps⟩, ht'.tok, ht'.new⟩, ?_, ?_⟩
          · have hne : k ≠ b5 := fun e => by subst e; rw [hb5s] at hk; cases hk
            show VS.look (putAt s'.objs b5 _) k = some x
            rw [look_putAt, if_neg hne]
            exact h.tk.sub.objs _ _ hk
          · show VS.look (putAt s'.objs b5 _) b4 = _
            rw [look_putAt, if_neg h54.symm]
            exact h.v4
          · show VS.look (putAt s'.objs b5 _) b5 = _
            rw [look_putAt, if_pos rfl, h.v5]
            rfl
        refine W_for l.length (fun k L s' => L = [(0, LF l), (1, I o), (4, .v (.pointer (some ⟨b4, 0, none⟩))), (5, .v (.pointer (some ⟨b5, 0, none⟩))), (6, I k)] ∧ UseS s s' r b4 b5 ((useL (l.take k) o).foldl withI []) (restP (l.take k) o))
          (l0 := [(0, LF l), (1, I o), (4, .v (.pointer (some ⟨b4, 0, none⟩))), (5, .v (.pointer (some ⟨b5, 0, none⟩))), (6, I 0)]) (ds := []) ⟨rfl, by simpa [useL, restP] using hUS⟩ (by simp [go_sem]) rfl ?_
        rintro k _ s3 hk ⟨rfl, hU3⟩ K2 hK2
        refine W_reg ?_
        simp [go_sem, frsE_length]
        refine hK2 _ _ (decide (k < l.length)) [(0, LF l), (1, I o), (4, .v (.pointer (some ⟨b4, 0, none⟩))), (5, .v (.pointer (some ⟨b5, 0, none⟩))), (6, I k)] (by simp [go_sem]) (by simp [go_sem]) (by simp [go_sem]) (fun hlt => ?_) (fun hge => ?_)
        · simp only [decide_eq_true_eq] at hlt
          have hpl := hs.p _ (List.getElem_mem hlt)
          have hsnoc : l.take (k + 1) = l.take k ++ [l[k]] := List.take_succ_eq_append_getElem hlt
          have hul := useL_len (l.take (k + 1)) o
          have hnt := nums_take l (k + 1)
          have hrl := restP_len (l.take k) o
          have htl : (l.take k).length ≤ n := by simp; omega
          have hw : IntKind.i64.wrap ((k : Int) + 1) = ((k + 1 : Nat) : Int) := by rw [wrap_in (by omega) (by omega)]; omega
          refine ⟨hlt, W_seq (W_seq (W_reg ?_))⟩
          simp [go_sem, frsE_get, hlt, frC]
          by_cases hv : l[k].v < o
          · have hus : useL (l.take (k + 1)) o = useL (l.take k) o ++ l[k].p := by rw [hsnoc, useL_snoc, if_pos hv]
            have hrs : restP (l.take (k + 1)) o = restP (l.take k) o := by rw [hsnoc, restP_snoc, if_pos hv]; simp
            rw [hus] at hul
            rw [List.length_append] at hul
            refine W_ifs false (by simp [go_sem]; omega) (fun h => by cases h) (fun _ => W_skip ?_)
            simp only [go_sem]
            refine W_seq (W_reg ?_)
            simp [go_sem]
            refine W_for l[k].p.length (fun j L s' => L = [(0, LF l), (1, I o), (4, .v (.pointer (some ⟨b4, 0, none⟩))), (5, .v (.pointer (some ⟨b5, 0, none⟩))), (6, I k), (7, I j)] ∧ UseS s s' r b4 b5 ((useL (l.take k) o ++ l[k].p.take j).foldl withI []) (restP (l.take k) o))
              (l0 := [(0, LF l), (1, I o), (4, .v (.pointer (some ⟨b4, 0, none⟩))), (5, .v (.pointer (some ⟨b5, 0, none⟩))), (6, I k), (7, I 0)]) (ds := []) ⟨rfl, by simpa using hU3⟩ (by simp [go_sem]) rfl ?_
            rintro j _ s4 hj ⟨rfl, hU4⟩ K3 hK3
            refine W_reg ?_
            simp [go_sem, frsE_get, hlt, frC, intsE_length]
            refine hK3 _ _ (decide (j < l[k].p.length)) [(0, LF l), (1, I o), (4, .v (.pointer (some ⟨b4, 0, none⟩))), (5, .v (.pointer (some ⟨b5, 0, none⟩))), (6, I k), (7, I j)] (by simp [go_sem]) (by simp [go_sem]) (by simp [go_sem]) (fun hlt2 => ?_) (fun hge2 => ?_)
            · simp only [decide_eq_true_eq] at hlt2
              have hw2 : IntKind.i64.wrap ((j : Int) + 1) = ((j + 1 : Nat) : Int) := by rw [wrap_in (by omega) (by omega)]; omega
              have hfl : ((useL (l.take k) o ++ l[k].p.take j).foldl withI []).length ≤ 1000000000 := by rw [foldWith_len]; simp; omega
              have hfs : withI ((useL (l.take k) o ++ l[k].p.take j).foldl withI []) l[k].p[j] = (useL (l.take k) o ++ l[k].p.take (j + 1)).foldl withI [] := by
                rw [List.take_succ_eq_append_getElem hlt2, ← List.append_assoc, List.foldl_append (l' := [_])]; rfl
              generalize (useL (l.take k) o ++ l[k].p.take j).foldl withI [] = U at hU4 hfl hfs
              have hv5 := hU4.v5
              refine ⟨hlt2, W_drawr 11 Tryz.mixed (by kernel_rfl) ?_⟩
              simp [go_sem, frsE_get, hlt, frC, intsE_get, hlt2, hv5]
              refine ⟨_, with_c _ _ hfl, ?_⟩
              rw [hfs]
              simp [go_sem]
              refine W_reg ?_
              simp [go_sem, hw2]
              exact ⟨_, ⟨rfl, hput s4 U _ _ _ hU4 hU4.tk⟩, by simp [go_sem]⟩
            · simp only [decide_eq_false_iff_not] at hge2
              have hj' : l[k].p.take j = l[k].p := List.take_of_length_le (by omega)
              rw [hj', ← hus, ← hrs] at hU4
              simp only [go_sem]
              refine W_reg ?_
              simp [go_sem, hw]
              exact ⟨_, ⟨rfl, hU4⟩, by simp [go_sem]⟩
          · have hus : useL (l.take (k + 1)) o = useL (l.take k) o := by rw [hsnoc, useL_snoc, if_neg hv]; simp
            have hrs : restP (l.take (k + 1)) o = restP (l.take k) o ++ [l[k]] := by rw [hsnoc, restP_snoc, if_neg hv]
            refine W_ifs true (by simp [go_sem]; omega) (fun _ => W_seq ?_) (fun h => by cases h)
            refine W_draws (Ef := ?_) 8 [6, 7] (fun s' => VS.look s'.objs b5 = some [LI ((useL (l.take k) o).foldl withI []), .li (some r) (frsE (restP (l.take k) o)), I 0]) Tryz.mixed (by kernel_rfl) hU3.v5 (fun s' hs' => ?_) ?_
            rotate_left
            · simp [go_sem, hs', frsE_get, hlt, frC]
              rfl
            · refine LL_cons fun Q' hQ => ?_
              refine WL_buildSlice tel_26 (by simp [go_sem]) (by rfl) (by rfl) (by simp [partsC, go_sem]) (by simp [partsC, go_sem]) (by simp [go_sem]) (by simp) (by simp) fun r2 hr2 => hQ _ _ hU3.v5 ?_
              refine LL_cons fun Q' hQ => ?_
              refine WL_append (r := r) (z := 2) (es := frsE (restP (l.take k) o)) (es2 := [frC l[k]]) tel_26 (by simp [go_sem]) (by simp [go_sem]) (by rw [frsE_length]; exact (hU3.tk.lit hr2 _).tok) (by simp [go_sem]) (by simp [go_sem]) (by simp [go_sem, elsC, partsC, frC]) (by simp [frC]) (by simp [go_sem, frsE_length]; omega) (by simp [go_sem]) (by simp) (hQ _ _ hU3.v5 ?_)
              have he : frsE (restP (l.take k) o) ++ [frC l[k]] = frsE (restP (l.take (k + 1)) o) := by rw [hrs]; simp [frsE]
              have hT5 := (hU3.tk.lit hr2 (tsz Tryz.prog 64, 1)).put (restP (l.take (k + 1)) o).length
              rw [he]
              rw [frsE_length]
              have hv4 := hU3.v4
              have hv5 := hU3.v5
              refine LL_nil (WL_run _ _ _ ?_)
              simp [go_sem, hv5]
              refine W_exit ?_
              simp only [go_sem, if_true]
              refine W_reg ?_
              simp [go_sem, hw]
              refine ⟨_, ⟨rfl, ⟨⟨⟨fun q x hq => ?_, hU3.tk.sub.rows, hT5.sub.toks, hU3.tk.sub.maps⟩, hT5.tok, hT5.new⟩, ?_, ?_⟩⟩, by simp [go_sem]⟩
              · have hne : q ≠ b5 := fun e => by subst e; rw [hb5s] at hq; cases hq
                show VS.look (putAt s3.objs b5 _) q = some x
                rw [look_putAt, if_neg hne]
                exact hU3.tk.sub.objs _ _ hq
              · show VS.look (putAt s3.objs b5 _) b4 = _
                rw [look_putAt, if_neg h54.symm]
                exact hv4
              · show VS.look (putAt s3.objs b5 _) b5 = _
                rw [look_putAt, if_pos rfl, hv5, hus]
                rfl
        · simp only [decide_eq_false_iff_not] at hge
          have hk' : l.take k = l := List.take_of_length_le (by omega)
          rw [hk'] at hU3
          simp only [go_sem]
          refine hK1 _ _ ?_
          have hv4 := hU3.v4
          have hv5 := hU3.v5
          refine W_seq (W_reg ?_)
          simp [go_sem, hv4, hv5]
          refine W_ret ?_
          simp only [go_sem]
          refine ⟨trivial, .agg [LI ((useL l o).foldl withI []), .li (some r) (frsE (restP l o)), I 0], by simp [go_sem, look_putAt, hv4], s, sub_put hU3.tk.sub hb4.1 _, ?_, rfl⟩
          simp [go_sem, hu]))
    by_cases h1 : o < 1
    · simp [go_sem, h1]
      exact key _ true (by simp [go_sem]) (by simp [go_sem]) (by simp [inV]; omega)
    · simp [go_sem, h1]
      exact key _ (decide (1099511627776 < o)) (by simp [go_sem]) (by simp [go_sem]) (by simp [inV]; by_cases h2 : 1099511627776 < o <;> simp [h2] <;> omega)
end Go.Proofs.YtpmknffollpnaaaGreat
