/- Facts on this seat's types and functions. -/
import Derived.Test.YtpbedckdnoogpaaProg
import Derived.Test.YtpbedckdnoogpaaPvl
set_option linter.unusedSimpArgs false
set_option linter.unusedVariables false
namespace Go.Proofs.Ytpbedckdnoogpaa
open Go Go.RowKit
theorem hMixed : Try.prog.follows .mixedOrders = true := by kernel_rfl
theorem Tk3 : ldk Try.prog 3 = some none := by kernel_rfl
theorem Ts3 : (Try.prog.info? 3).map (·.size) = some 1 := by kernel_rfl
theorem Tz3 : (Try.prog.info? 3).bind (·.zero) = some (.int .i64 0) := by kernel_rfl
theorem Ti3 : (Try.prog.info? 3).map (fun i => (i.zero, i.size, i.bytes)) = some (some (.int .i64 0), 1, 8) := by kernel_rfl
theorem Tk4 : ldk Try.prog 4 = some none := by kernel_rfl
theorem Ts4 : (Try.prog.info? 4).map (·.size) = some 1 := by kernel_rfl
theorem Tz4 : (Try.prog.info? 4).bind (·.zero) = some (.bool false) := by kernel_rfl
theorem Ti4 : (Try.prog.info? 4).map (fun i => (i.zero, i.size, i.bytes)) = some (some (.bool false), 1, 1) := by kernel_rfl
theorem Tk22 : ldk Try.prog 22 = some none := by kernel_rfl
theorem Ts22 : (Try.prog.info? 22).map (·.size) = some 1 := by kernel_rfl
theorem Tz22 : (Try.prog.info? 22).bind (·.zero) = some (.slice none 0 0) := by kernel_rfl
theorem Ti22 : (Try.prog.info? 22).map (fun i => (i.zero, i.size, i.bytes)) = some (some (.slice none 0 0), 1, 24) := by kernel_rfl
theorem Te22 : elemSz Try.prog 22 = some (3, 1) := by kernel_rfl
theorem Ta22 : ElemTy Try.prog 22 3 1 := elemTy_of (z := (.int .i64 0)) (b := 8) (by kernel_rfl) (by kernel_rfl) (by omega) rfl (by omega)
theorem Tk23 : ldk Try.prog 23 = some none := by kernel_rfl
theorem Ts23 : (Try.prog.info? 23).map (·.size) = some 1 := by kernel_rfl
theorem Tz23 : (Try.prog.info? 23).bind (·.zero) = some (.pointer none) := by kernel_rfl
theorem Ti23 : (Try.prog.info? 23).map (fun i => (i.zero, i.size, i.bytes)) = some (some (.pointer none), 1, 8) := by kernel_rfl
theorem Tk25 : ldk Try.prog 25 = some (some 2) := by kernel_rfl
theorem Ts25 : (Try.prog.info? 25).map (·.size) = some 2 := by kernel_rfl
theorem Tz25 : (Try.prog.info? 25).bind (·.zero) = some (.agg #[.slice none 0 0, .int .i64 0]) := by kernel_rfl
theorem Ti25 : (Try.prog.info? 25).map (fun i => (i.zero, i.size, i.bytes)) = some (some (.agg #[.slice none 0 0, .int .i64 0]), 2, 32) := by kernel_rfl
theorem Tb25 : bplaces Try.prog 25 = some [(0, 1), (1, 1)] := by kernel_rfl
theorem Tk26 : ldk Try.prog 26 = some none := by kernel_rfl
theorem Ts26 : (Try.prog.info? 26).map (·.size) = some 1 := by kernel_rfl
theorem Tz26 : (Try.prog.info? 26).bind (·.zero) = some (.slice none 0 0) := by kernel_rfl
theorem Ti26 : (Try.prog.info? 26).map (fun i => (i.zero, i.size, i.bytes)) = some (some (.slice none 0 0), 1, 24) := by kernel_rfl
theorem Te26 : elemSz Try.prog 26 = some (36, 6) := by kernel_rfl
theorem Ta26 : ElemTy Try.prog 26 36 6 := elemTy_of (z := (.agg #[.int .i64 0, .int .i64 0, .int .i64 0, .int .i64 0, .int .i64 0, .int .i64 0])) (b := 48) (by kernel_rfl) (by kernel_rfl) (by omega) rfl (by omega)
theorem Tk28 : ldk Try.prog 28 = some none := by kernel_rfl
theorem Ts28 : (Try.prog.info? 28).map (·.size) = some 1 := by kernel_rfl
theorem Tz28 : (Try.prog.info? 28).bind (·.zero) = some (.int .i64 0) := by kernel_rfl
theorem Ti28 : (Try.prog.info? 28).map (fun i => (i.zero, i.size, i.bytes)) = some (some (.int .i64 0), 1, 8) := by kernel_rfl
theorem Tk36 : ldk Try.prog 36 = some (some 6) := by kernel_rfl
theorem Ts36 : (Try.prog.info? 36).map (·.size) = some 6 := by kernel_rfl
theorem Tz36 : (Try.prog.info? 36).bind (·.zero) = some (.agg #[.int .i64 0, .int .i64 0, .int .i64 0, .int .i64 0, .int .i64 0, .int .i64 0]) := by kernel_rfl
theorem Ti36 : (Try.prog.info? 36).map (fun i => (i.zero, i.size, i.bytes)) = some (some (.agg #[.int .i64 0, .int .i64 0, .int .i64 0, .int .i64 0, .int .i64 0, .int .i64 0]), 6, 48) := by kernel_rfl
theorem Tb36 : bplaces Try.prog 36 = some [(0, 1), (1, 1), (2, 1), (3, 1), (4, 1), (5, 1)] := by kernel_rfl
theorem Tk38 : ldk Try.prog 38 = some none := by kernel_rfl
theorem Ts38 : (Try.prog.info? 38).map (·.size) = some 1 := by kernel_rfl
theorem Tz38 : (Try.prog.info? 38).bind (·.zero) = some (.slice none 0 0) := by kernel_rfl
theorem Ti38 : (Try.prog.info? 38).map (fun i => (i.zero, i.size, i.bytes)) = some (some (.slice none 0 0), 1, 24) := by kernel_rfl
theorem Te38 : elemSz Try.prog 38 = some (42, 8) := by kernel_rfl
theorem Ta38 : ElemTy Try.prog 38 42 8 := elemTy_of (z := (.agg #[.int .i64 0, .int .i64 0, .int .i64 0, .int .i64 0, .int .i64 0, .int .i64 0, .int .i64 0, .bool false])) (b := 64) (by kernel_rfl) (by kernel_rfl) (by omega) rfl (by omega)
theorem Tk42 : ldk Try.prog 42 = some (some 8) := by kernel_rfl
theorem Ts42 : (Try.prog.info? 42).map (·.size) = some 8 := by kernel_rfl
theorem Tz42 : (Try.prog.info? 42).bind (·.zero) = some (.agg #[.int .i64 0, .int .i64 0, .int .i64 0, .int .i64 0, .int .i64 0, .int .i64 0, .int .i64 0, .bool false]) := by kernel_rfl
theorem Ti42 : (Try.prog.info? 42).map (fun i => (i.zero, i.size, i.bytes)) = some (some (.agg #[.int .i64 0, .int .i64 0, .int .i64 0, .int .i64 0, .int .i64 0, .int .i64 0, .int .i64 0, .bool false]), 8, 64) := by kernel_rfl
theorem Tb42 : bplaces Try.prog 42 = some [(0, 1), (1, 1), (2, 1), (3, 1), (4, 1), (5, 1), (6, 1), (7, 1)] := by kernel_rfl
theorem Tk54 : ldk Try.prog 54 = some none := by kernel_rfl
theorem Ts54 : (Try.prog.info? 54).map (·.size) = some 1 := by kernel_rfl
theorem Tz54 : (Try.prog.info? 54).bind (·.zero) = some (.slice none 0 0) := by kernel_rfl
theorem Ti54 : (Try.prog.info? 54).map (fun i => (i.zero, i.size, i.bytes)) = some (some (.slice none 0 0), 1, 24) := by kernel_rfl
theorem Te54 : elemSz Try.prog 54 = some (64, 2) := by kernel_rfl
theorem Ta54 : ElemTy Try.prog 54 64 2 := elemTy_of (z := (.agg #[.int .i64 0, .int .i64 0])) (b := 16) (by kernel_rfl) (by kernel_rfl) (by omega) rfl (by omega)
theorem Tk64 : ldk Try.prog 64 = some (some 2) := by kernel_rfl
theorem Ts64 : (Try.prog.info? 64).map (·.size) = some 2 := by kernel_rfl
theorem Tz64 : (Try.prog.info? 64).bind (·.zero) = some (.agg #[.int .i64 0, .int .i64 0]) := by kernel_rfl
theorem Ti64 : (Try.prog.info? 64).map (fun i => (i.zero, i.size, i.bytes)) = some (some (.agg #[.int .i64 0, .int .i64 0]), 2, 16) := by kernel_rfl
theorem Tb64 : bplaces Try.prog 64 = some [(0, 1), (1, 1)] := by kernel_rfl
theorem Tk66 : ldk Try.prog 66 = some (some 2) := by kernel_rfl
theorem Ts66 : (Try.prog.info? 66).map (·.size) = some 2 := by kernel_rfl
theorem Tz66 : (Try.prog.info? 66).bind (·.zero) = some (.agg #[.int .i64 0, .int .i64 0]) := by kernel_rfl
theorem Ti66 : (Try.prog.info? 66).map (fun i => (i.zero, i.size, i.bytes)) = some (some (.agg #[.int .i64 0, .int .i64 0]), 2, 16) := by kernel_rfl
theorem Tb66 : bplaces Try.prog 66 = some [(0, 1), (1, 1)] := by kernel_rfl
theorem Tk80 : ldk Try.prog 80 = some none := by kernel_rfl
theorem Ts80 : (Try.prog.info? 80).map (·.size) = some 1 := by kernel_rfl
theorem Tz80 : (Try.prog.info? 80).bind (·.zero) = some (.slice none 0 0) := by kernel_rfl
theorem Ti80 : (Try.prog.info? 80).map (fun i => (i.zero, i.size, i.bytes)) = some (some (.slice none 0 0), 1, 24) := by kernel_rfl
theorem Te80 : elemSz Try.prog 80 = some (28, 1) := by kernel_rfl
theorem Ta80 : ElemTy Try.prog 80 28 1 := elemTy_of (z := (.int .i64 0)) (b := 8) (by kernel_rfl) (by kernel_rfl) (by omega) rfl (by omega)
theorem Tk84 : ldk Try.prog 84 = some none := by kernel_rfl
theorem Ts84 : (Try.prog.info? 84).map (·.size) = some 1 := by kernel_rfl
theorem Tz84 : (Try.prog.info? 84).bind (·.zero) = some (.slice none 0 0) := by kernel_rfl
theorem Ti84 : (Try.prog.info? 84).map (fun i => (i.zero, i.size, i.bytes)) = some (some (.slice none 0 0), 1, 24) := by kernel_rfl
theorem Te84 : elemSz Try.prog 84 = some (96, 2) := by kernel_rfl
theorem Ta84 : ElemTy Try.prog 84 96 2 := elemTy_of (z := (.agg #[.slice none 0 0, .bool false])) (b := 32) (by kernel_rfl) (by kernel_rfl) (by omega) rfl (by omega)
theorem Tk94 : ldk Try.prog 94 = some none := by kernel_rfl
theorem Ts94 : (Try.prog.info? 94).map (·.size) = some 1 := by kernel_rfl
theorem Tz94 : (Try.prog.info? 94).bind (·.zero) = some (.slice none 0 0) := by kernel_rfl
theorem Ti94 : (Try.prog.info? 94).map (fun i => (i.zero, i.size, i.bytes)) = some (some (.slice none 0 0), 1, 24) := by kernel_rfl
theorem Te94 : elemSz Try.prog 94 = some (145, 2) := by kernel_rfl
theorem Ta94 : ElemTy Try.prog 94 145 2 := elemTy_of (z := (.agg #[.int .i64 0, .int .i64 0])) (b := 16) (by kernel_rfl) (by kernel_rfl) (by omega) rfl (by omega)
theorem Tk96 : ldk Try.prog 96 = some (some 2) := by kernel_rfl
theorem Ts96 : (Try.prog.info? 96).map (·.size) = some 2 := by kernel_rfl
theorem Tz96 : (Try.prog.info? 96).bind (·.zero) = some (.agg #[.slice none 0 0, .bool false]) := by kernel_rfl
theorem Ti96 : (Try.prog.info? 96).map (fun i => (i.zero, i.size, i.bytes)) = some (some (.agg #[.slice none 0 0, .bool false]), 2, 32) := by kernel_rfl
theorem Tb96 : bplaces Try.prog 96 = some [(0, 1), (1, 1)] := by kernel_rfl
theorem Tk120 : ldk Try.prog 120 = some none := by kernel_rfl
theorem Ts120 : (Try.prog.info? 120).map (·.size) = some 1 := by kernel_rfl
theorem Tz120 : (Try.prog.info? 120).bind (·.zero) = some (.slice none 0 0) := by kernel_rfl
theorem Ti120 : (Try.prog.info? 120).map (fun i => (i.zero, i.size, i.bytes)) = some (some (.slice none 0 0), 1, 24) := by kernel_rfl
theorem Te120 : elemSz Try.prog 120 = some (26, 1) := by kernel_rfl
theorem Ta120 : ElemTy Try.prog 120 26 1 := elemTy_of (z := (.slice none 0 0)) (b := 24) (by kernel_rfl) (by kernel_rfl) (by omega) rfl (by omega)
theorem Tk122 : ldk Try.prog 122 = some none := by kernel_rfl
theorem Ts122 : (Try.prog.info? 122).map (·.size) = some 1 := by kernel_rfl
theorem Tz122 : (Try.prog.info? 122).bind (·.zero) = some (.slice none 0 0) := by kernel_rfl
theorem Ti122 : (Try.prog.info? 122).map (fun i => (i.zero, i.size, i.bytes)) = some (some (.slice none 0 0), 1, 24) := by kernel_rfl
theorem Te122 : elemSz Try.prog 122 = some (124, 9) := by kernel_rfl
theorem Ta122 : ElemTy Try.prog 122 124 9 := elemTy_of (z := (.agg #[.int .i64 0, .int .i64 0, .int .i64 0, .int .i64 0, .int .i64 0, .int .i64 0, .int .i64 0, .bool false, .int .i64 0])) (b := 72) (by kernel_rfl) (by kernel_rfl) (by omega) rfl (by omega)
theorem Tk124 : ldk Try.prog 124 = some (some 9) := by kernel_rfl
theorem Ts124 : (Try.prog.info? 124).map (·.size) = some 9 := by kernel_rfl
theorem Tz124 : (Try.prog.info? 124).bind (·.zero) = some (.agg #[.int .i64 0, .int .i64 0, .int .i64 0, .int .i64 0, .int .i64 0, .int .i64 0, .int .i64 0, .bool false, .int .i64 0]) := by kernel_rfl
theorem Ti124 : (Try.prog.info? 124).map (fun i => (i.zero, i.size, i.bytes)) = some (some (.agg #[.int .i64 0, .int .i64 0, .int .i64 0, .int .i64 0, .int .i64 0, .int .i64 0, .int .i64 0, .bool false, .int .i64 0]), 9, 72) := by kernel_rfl
theorem Tb124 : bplaces Try.prog 124 = some [(0, 8), (8, 1)] := by kernel_rfl
theorem Tk127 : ldk Try.prog 127 = some none := by kernel_rfl
theorem Ts127 : (Try.prog.info? 127).map (·.size) = some 1 := by kernel_rfl
theorem Tz127 : (Try.prog.info? 127).bind (·.zero) = some (.slice none 0 0) := by kernel_rfl
theorem Ti127 : (Try.prog.info? 127).map (fun i => (i.zero, i.size, i.bytes)) = some (some (.slice none 0 0), 1, 24) := by kernel_rfl
theorem Te127 : elemSz Try.prog 127 = some (132, 9) := by kernel_rfl
theorem Ta127 : ElemTy Try.prog 127 132 9 := elemTy_of (z := (.agg #[.int .i64 0, .int .i64 0, .int .i64 0, .int .i64 0, .int .i64 0, .int .i64 0, .int .i64 0, .bool false, .int .i64 0])) (b := 72) (by kernel_rfl) (by kernel_rfl) (by omega) rfl (by omega)
theorem Tk132 : ldk Try.prog 132 = some (some 9) := by kernel_rfl
theorem Ts132 : (Try.prog.info? 132).map (·.size) = some 9 := by kernel_rfl
theorem Tz132 : (Try.prog.info? 132).bind (·.zero) = some (.agg #[.int .i64 0, .int .i64 0, .int .i64 0, .int .i64 0, .int .i64 0, .int .i64 0, .int .i64 0, .bool false, .int .i64 0]) := by kernel_rfl
theorem Ti132 : (Try.prog.info? 132).map (fun i => (i.zero, i.size, i.bytes)) = some (some (.agg #[.int .i64 0, .int .i64 0, .int .i64 0, .int .i64 0, .int .i64 0, .int .i64 0, .int .i64 0, .bool false, .int .i64 0]), 9, 72) := by kernel_rfl
theorem Tb132 : bplaces Try.prog 132 = some [(0, 8), (8, 1)] := by kernel_rfl
theorem Tk145 : ldk Try.prog 145 = some (some 2) := by kernel_rfl
theorem Ts145 : (Try.prog.info? 145).map (·.size) = some 2 := by kernel_rfl
theorem Tz145 : (Try.prog.info? 145).bind (·.zero) = some (.agg #[.int .i64 0, .int .i64 0]) := by kernel_rfl
theorem Ti145 : (Try.prog.info? 145).map (fun i => (i.zero, i.size, i.bytes)) = some (some (.agg #[.int .i64 0, .int .i64 0]), 2, 16) := by kernel_rfl
theorem Tb145 : bplaces Try.prog 145 = some [(0, 1), (1, 1)] := by kernel_rfl
theorem Tk147 : ldk Try.prog 147 = some none := by kernel_rfl
theorem Ts147 : (Try.prog.info? 147).map (·.size) = some 1 := by kernel_rfl
theorem Tz147 : (Try.prog.info? 147).bind (·.zero) = some (.pointer none) := by kernel_rfl
theorem Ti147 : (Try.prog.info? 147).map (fun i => (i.zero, i.size, i.bytes)) = some (some (.pointer none), 1, 8) := by kernel_rfl
theorem Tk149 : ldk Try.prog 149 = some (some 4) := by kernel_rfl
theorem Ts149 : (Try.prog.info? 149).map (·.size) = some 4 := by kernel_rfl
theorem Tz149 : (Try.prog.info? 149).bind (·.zero) = some (.agg #[.slice none 0 0, .slice none 0 0, .slice none 0 0, .bool false]) := by kernel_rfl
theorem Ti149 : (Try.prog.info? 149).map (fun i => (i.zero, i.size, i.bytes)) = some (some (.agg #[.slice none 0 0, .slice none 0 0, .slice none 0 0, .bool false]), 4, 80) := by kernel_rfl
theorem Tb149 : bplaces Try.prog 149 = some [(0, 1), (1, 1), (2, 1), (3, 1)] := by kernel_rfl
theorem Tk175 : ldk Try.prog 175 = some (some 7) := by kernel_rfl
theorem Ts175 : (Try.prog.info? 175).map (·.size) = some 7 := by kernel_rfl
theorem Tz175 : (Try.prog.info? 175).bind (·.zero) = some (.agg #[.string ByteArray.empty, .bool false, .bool false, .bool false, .bool false, .int .i64 0, .int .i64 0]) := by kernel_rfl
theorem Ti175 : (Try.prog.info? 175).map (fun i => (i.zero, i.size, i.bytes)) = some (some (.agg #[.string ByteArray.empty, .bool false, .bool false, .bool false, .bool false, .int .i64 0, .int .i64 0]), 7, 40) := by kernel_rfl
theorem Tb175 : bplaces Try.prog 175 = some [(0, 1), (1, 1), (2, 1), (3, 1), (4, 1), (5, 1), (6, 1)] := by kernel_rfl
theorem Tk176 : ldk Try.prog 176 = some none := by kernel_rfl
theorem Ts176 : (Try.prog.info? 176).map (·.size) = some 1 := by kernel_rfl
theorem Tz176 : (Try.prog.info? 176).bind (·.zero) = some (.slice none 0 0) := by kernel_rfl
theorem Ti176 : (Try.prog.info? 176).map (fun i => (i.zero, i.size, i.bytes)) = some (some (.slice none 0 0), 1, 24) := by kernel_rfl
theorem Te176 : elemSz Try.prog 176 = some (175, 7) := by kernel_rfl
theorem Ta176 : ElemTy Try.prog 176 175 7 := elemTy_of (z := (.agg #[.string ByteArray.empty, .bool false, .bool false, .bool false, .bool false, .int .i64 0, .int .i64 0])) (b := 40) (by kernel_rfl) (by kernel_rfl) (by omega) rfl (by omega)
theorem Tk181 : ldk Try.prog 181 = some none := by kernel_rfl
theorem Ts181 : (Try.prog.info? 181).map (·.size) = some 1 := by kernel_rfl
theorem Tz181 : (Try.prog.info? 181).bind (·.zero) = some (.int .u64 0) := by kernel_rfl
theorem Ti181 : (Try.prog.info? 181).map (fun i => (i.zero, i.size, i.bytes)) = some (some (.int .u64 0), 1, 8) := by kernel_rfl
theorem Tk188 : ldk Try.prog 188 = some none := by kernel_rfl
theorem Ts188 : (Try.prog.info? 188).map (·.size) = some 1 := by kernel_rfl
theorem Tz188 : (Try.prog.info? 188).bind (·.zero) = some (.slice none 0 0) := by kernel_rfl
theorem Ti188 : (Try.prog.info? 188).map (fun i => (i.zero, i.size, i.bytes)) = some (some (.slice none 0 0), 1, 24) := by kernel_rfl
theorem Te188 : elemSz Try.prog 188 = some (54, 1) := by kernel_rfl
theorem Ta188 : ElemTy Try.prog 188 54 1 := elemTy_of (z := (.slice none 0 0)) (b := 24) (by kernel_rfl) (by kernel_rfl) (by omega) rfl (by omega)
theorem Tk190 : ldk Try.prog 190 = some none := by kernel_rfl
theorem Ts190 : (Try.prog.info? 190).map (·.size) = some 1 := by kernel_rfl
theorem Tz190 : (Try.prog.info? 190).bind (·.zero) = some (.slice none 0 0) := by kernel_rfl
theorem Ti190 : (Try.prog.info? 190).map (fun i => (i.zero, i.size, i.bytes)) = some (some (.slice none 0 0), 1, 24) := by kernel_rfl
theorem Te190 : elemSz Try.prog 190 = some (22, 1) := by kernel_rfl
theorem Ta190 : ElemTy Try.prog 190 22 1 := elemTy_of (z := (.slice none 0 0)) (b := 24) (by kernel_rfl) (by kernel_rfl) (by omega) rfl (by omega)
theorem Tk194 : ldk Try.prog 194 = some none := by kernel_rfl
theorem Ts194 : (Try.prog.info? 194).map (·.size) = some 1 := by kernel_rfl
theorem Tz194 : (Try.prog.info? 194).bind (·.zero) = some (.int .u32 0) := by kernel_rfl
theorem Ti194 : (Try.prog.info? 194).map (fun i => (i.zero, i.size, i.bytes)) = some (some (.int .u32 0), 1, 4) := by kernel_rfl
theorem Tk197 : ldk Try.prog 197 = some none := by kernel_rfl
theorem Ts197 : (Try.prog.info? 197).map (·.size) = some 1 := by kernel_rfl
theorem Tz197 : (Try.prog.info? 197).bind (·.zero) = some (.int .u64 0) := by kernel_rfl
theorem Ti197 : (Try.prog.info? 197).map (fun i => (i.zero, i.size, i.bytes)) = some (some (.int .u64 0), 1, 8) := by kernel_rfl
theorem Tk203 : ldk Try.prog 203 = some none := by kernel_rfl
theorem Ts203 : (Try.prog.info? 203).map (·.size) = some 1 := by kernel_rfl
theorem Tz203 : (Try.prog.info? 203).bind (·.zero) = some (.slice none 0 0) := by kernel_rfl
theorem Ti203 : (Try.prog.info? 203).map (fun i => (i.zero, i.size, i.bytes)) = some (some (.slice none 0 0), 1, 24) := by kernel_rfl
theorem Te203 : elemSz Try.prog 203 = some (94, 1) := by kernel_rfl
theorem Ta203 : ElemTy Try.prog 203 94 1 := elemTy_of (z := (.slice none 0 0)) (b := 24) (by kernel_rfl) (by kernel_rfl) (by omega) rfl (by omega)
theorem Tf25_0 : fieldOff Try.prog 25 0 = some 0 := by kernel_rfl
theorem Tf25_1 : fieldOff Try.prog 25 1 = some 1 := by kernel_rfl
theorem Tf36_0 : fieldOff Try.prog 36 0 = some 0 := by kernel_rfl
theorem Tf36_1 : fieldOff Try.prog 36 1 = some 1 := by kernel_rfl
theorem Tf36_2 : fieldOff Try.prog 36 2 = some 2 := by kernel_rfl
theorem Tf36_3 : fieldOff Try.prog 36 3 = some 3 := by kernel_rfl
theorem Tf36_4 : fieldOff Try.prog 36 4 = some 4 := by kernel_rfl
theorem Tf36_5 : fieldOff Try.prog 36 5 = some 5 := by kernel_rfl
theorem Tf42_0 : fieldOff Try.prog 42 0 = some 0 := by kernel_rfl
theorem Tf42_1 : fieldOff Try.prog 42 1 = some 1 := by kernel_rfl
theorem Tf42_2 : fieldOff Try.prog 42 2 = some 2 := by kernel_rfl
theorem Tf42_3 : fieldOff Try.prog 42 3 = some 3 := by kernel_rfl
theorem Tf42_4 : fieldOff Try.prog 42 4 = some 4 := by kernel_rfl
theorem Tf42_5 : fieldOff Try.prog 42 5 = some 5 := by kernel_rfl
theorem Tf42_6 : fieldOff Try.prog 42 6 = some 6 := by kernel_rfl
theorem Tf42_7 : fieldOff Try.prog 42 7 = some 7 := by kernel_rfl
theorem Tf64_0 : fieldOff Try.prog 64 0 = some 0 := by kernel_rfl
theorem Tf64_1 : fieldOff Try.prog 64 1 = some 1 := by kernel_rfl
theorem Tf66_0 : fieldOff Try.prog 66 0 = some 0 := by kernel_rfl
theorem Tf66_1 : fieldOff Try.prog 66 1 = some 1 := by kernel_rfl
theorem Tf96_0 : fieldOff Try.prog 96 0 = some 0 := by kernel_rfl
theorem Tf96_1 : fieldOff Try.prog 96 1 = some 1 := by kernel_rfl
theorem Tf124_0 : fieldOff Try.prog 124 0 = some 0 := by kernel_rfl
theorem Tf124_1 : fieldOff Try.prog 124 1 = some 8 := by kernel_rfl
theorem Tf145_0 : fieldOff Try.prog 145 0 = some 0 := by kernel_rfl
theorem Tf145_1 : fieldOff Try.prog 145 1 = some 1 := by kernel_rfl
theorem Tf149_0 : fieldOff Try.prog 149 0 = some 0 := by kernel_rfl
theorem Tf149_1 : fieldOff Try.prog 149 1 = some 1 := by kernel_rfl
theorem Tf149_2 : fieldOff Try.prog 149 2 = some 2 := by kernel_rfl
theorem Tf149_3 : fieldOff Try.prog 149 3 = some 3 := by kernel_rfl
theorem Tf175_1 : fieldOff Try.prog 175 1 = some 1 := by kernel_rfl
theorem Tf175_2 : fieldOff Try.prog 175 2 = some 2 := by kernel_rfl
theorem Tf175_3 : fieldOff Try.prog 175 3 = some 3 := by kernel_rfl
theorem Tf175_4 : fieldOff Try.prog 175 4 = some 4 := by kernel_rfl
theorem Tf175_5 : fieldOff Try.prog 175 5 = some 5 := by kernel_rfl
theorem Tf175_6 : fieldOff Try.prog 175 6 = some 6 := by kernel_rfl
theorem rd_eqla36 {N : Nat} {E : Env} {o : Oper} {F : Fm} {H : List OB} {x y : Operand} {yt : TypeId} {a0 : Int} {a1 : Int} {a2 : Int} {a3 : Int} {a4 : Int} {a5 : Int} {b0 : Int} {b1 : Int} {b2 : Int} {b3 : Int} {b4 : Int} {b5 : Int} (ho : o.op = .binOp .eql 36 x y yt) (hx : ev F x = some (.a [.c (.s (.int .i64 a0)), .c (.s (.int .i64 a1)), .c (.s (.int .i64 a2)), .c (.s (.int .i64 a3)), .c (.s (.int .i64 a4)), .c (.s (.int .i64 a5))])) (hy : ev F y = some (.a [.c (.s (.int .i64 b0)), .c (.s (.int .i64 b1)), .c (.s (.int .i64 b2)), .c (.s (.int .i64 b3)), .c (.s (.int .i64 b4)), .c (.s (.int .i64 b5))])) : Rd Try.prog N E o F H (.c (.s (.bool (decide (a0 = b0 ∧ a1 = b1 ∧ a2 = b2 ∧ a3 = b3 ∧ a4 = b4 ∧ a5 = b5))))) :=
  rd_bin (dx := .agg #[.int .i64 a0, .int .i64 a1, .int .i64 a2, .int .i64 a3, .int .i64 a4, .int .i64 a5]) (dy := .agg #[.int .i64 b0, .int .i64 b1, .int .i64 b2, .int .i64 b3, .int .i64 b4, .int .i64 b5]) ho hx hy (fun _ _ => by simp [AV.den, CV.den, AV.denL]) (fun _ _ => by simp [AV.den, CV.den, AV.denL]) fun w => by
    go_simp
    repeat' split
    all_goals simp_all
theorem rd_neqa36 {N : Nat} {E : Env} {o : Oper} {F : Fm} {H : List OB} {x y : Operand} {yt : TypeId} {a0 : Int} {a1 : Int} {a2 : Int} {a3 : Int} {a4 : Int} {a5 : Int} {b0 : Int} {b1 : Int} {b2 : Int} {b3 : Int} {b4 : Int} {b5 : Int} (ho : o.op = .binOp .neq 36 x y yt) (hx : ev F x = some (.a [.c (.s (.int .i64 a0)), .c (.s (.int .i64 a1)), .c (.s (.int .i64 a2)), .c (.s (.int .i64 a3)), .c (.s (.int .i64 a4)), .c (.s (.int .i64 a5))])) (hy : ev F y = some (.a [.c (.s (.int .i64 b0)), .c (.s (.int .i64 b1)), .c (.s (.int .i64 b2)), .c (.s (.int .i64 b3)), .c (.s (.int .i64 b4)), .c (.s (.int .i64 b5))])) : Rd Try.prog N E o F H (.c (.s (.bool (decide (¬ (a0 = b0 ∧ a1 = b1 ∧ a2 = b2 ∧ a3 = b3 ∧ a4 = b4 ∧ a5 = b5)))))) :=
  rd_bin (dx := .agg #[.int .i64 a0, .int .i64 a1, .int .i64 a2, .int .i64 a3, .int .i64 a4, .int .i64 a5]) (dy := .agg #[.int .i64 b0, .int .i64 b1, .int .i64 b2, .int .i64 b3, .int .i64 b4, .int .i64 b5]) ho hx hy (fun _ _ => by simp [AV.den, CV.den, AV.denL]) (fun _ _ => by simp [AV.den, CV.den, AV.denL]) fun w => by
    go_simp
    repeat' split
    all_goals simp_all
theorem rd_eqla42 {N : Nat} {E : Env} {o : Oper} {F : Fm} {H : List OB} {x y : Operand} {yt : TypeId} {a0 : Int} {a1 : Int} {a2 : Int} {a3 : Int} {a4 : Int} {a5 : Int} {a6 : Int} {a7 : Bool} {b0 : Int} {b1 : Int} {b2 : Int} {b3 : Int} {b4 : Int} {b5 : Int} {b6 : Int} {b7 : Bool} (ho : o.op = .binOp .eql 42 x y yt) (hx : ev F x = some (.a [.c (.s (.int .i64 a0)), .c (.s (.int .i64 a1)), .c (.s (.int .i64 a2)), .c (.s (.int .i64 a3)), .c (.s (.int .i64 a4)), .c (.s (.int .i64 a5)), .c (.s (.int .i64 a6)), .c (.s (.bool a7))])) (hy : ev F y = some (.a [.c (.s (.int .i64 b0)), .c (.s (.int .i64 b1)), .c (.s (.int .i64 b2)), .c (.s (.int .i64 b3)), .c (.s (.int .i64 b4)), .c (.s (.int .i64 b5)), .c (.s (.int .i64 b6)), .c (.s (.bool b7))])) : Rd Try.prog N E o F H (.c (.s (.bool (decide (a0 = b0 ∧ a1 = b1 ∧ a2 = b2 ∧ a3 = b3 ∧ a4 = b4 ∧ a5 = b5 ∧ a6 = b6 ∧ a7 = b7))))) :=
  rd_bin (dx := .agg #[.int .i64 a0, .int .i64 a1, .int .i64 a2, .int .i64 a3, .int .i64 a4, .int .i64 a5, .int .i64 a6, .bool a7]) (dy := .agg #[.int .i64 b0, .int .i64 b1, .int .i64 b2, .int .i64 b3, .int .i64 b4, .int .i64 b5, .int .i64 b6, .bool b7]) ho hx hy (fun _ _ => by simp [AV.den, CV.den, AV.denL]) (fun _ _ => by simp [AV.den, CV.den, AV.denL]) fun w => by
    go_simp
    repeat' split
    all_goals simp_all
theorem rd_neqa42 {N : Nat} {E : Env} {o : Oper} {F : Fm} {H : List OB} {x y : Operand} {yt : TypeId} {a0 : Int} {a1 : Int} {a2 : Int} {a3 : Int} {a4 : Int} {a5 : Int} {a6 : Int} {a7 : Bool} {b0 : Int} {b1 : Int} {b2 : Int} {b3 : Int} {b4 : Int} {b5 : Int} {b6 : Int} {b7 : Bool} (ho : o.op = .binOp .neq 42 x y yt) (hx : ev F x = some (.a [.c (.s (.int .i64 a0)), .c (.s (.int .i64 a1)), .c (.s (.int .i64 a2)), .c (.s (.int .i64 a3)), .c (.s (.int .i64 a4)), .c (.s (.int .i64 a5)), .c (.s (.int .i64 a6)), .c (.s (.bool a7))])) (hy : ev F y = some (.a [.c (.s (.int .i64 b0)), .c (.s (.int .i64 b1)), .c (.s (.int .i64 b2)), .c (.s (.int .i64 b3)), .c (.s (.int .i64 b4)), .c (.s (.int .i64 b5)), .c (.s (.int .i64 b6)), .c (.s (.bool b7))])) : Rd Try.prog N E o F H (.c (.s (.bool (decide (¬ (a0 = b0 ∧ a1 = b1 ∧ a2 = b2 ∧ a3 = b3 ∧ a4 = b4 ∧ a5 = b5 ∧ a6 = b6 ∧ a7 = b7)))))) :=
  rd_bin (dx := .agg #[.int .i64 a0, .int .i64 a1, .int .i64 a2, .int .i64 a3, .int .i64 a4, .int .i64 a5, .int .i64 a6, .bool a7]) (dy := .agg #[.int .i64 b0, .int .i64 b1, .int .i64 b2, .int .i64 b3, .int .i64 b4, .int .i64 b5, .int .i64 b6, .bool b7]) ho hx hy (fun _ _ => by simp [AV.den, CV.den, AV.denL]) (fun _ _ => by simp [AV.den, CV.den, AV.denL]) fun w => by
    go_simp
    repeat' split
    all_goals simp_all
theorem rd_eqla64 {N : Nat} {E : Env} {o : Oper} {F : Fm} {H : List OB} {x y : Operand} {yt : TypeId} {a0 : Int} {a1 : Int} {b0 : Int} {b1 : Int} (ho : o.op = .binOp .eql 64 x y yt) (hx : ev F x = some (.a [.c (.s (.int .i64 a0)), .c (.s (.int .i64 a1))])) (hy : ev F y = some (.a [.c (.s (.int .i64 b0)), .c (.s (.int .i64 b1))])) : Rd Try.prog N E o F H (.c (.s (.bool (decide (a0 = b0 ∧ a1 = b1))))) :=
  rd_bin (dx := .agg #[.int .i64 a0, .int .i64 a1]) (dy := .agg #[.int .i64 b0, .int .i64 b1]) ho hx hy (fun _ _ => by simp [AV.den, CV.den, AV.denL]) (fun _ _ => by simp [AV.den, CV.den, AV.denL]) fun w => by
    go_simp
    repeat' split
    all_goals simp_all
theorem rd_neqa64 {N : Nat} {E : Env} {o : Oper} {F : Fm} {H : List OB} {x y : Operand} {yt : TypeId} {a0 : Int} {a1 : Int} {b0 : Int} {b1 : Int} (ho : o.op = .binOp .neq 64 x y yt) (hx : ev F x = some (.a [.c (.s (.int .i64 a0)), .c (.s (.int .i64 a1))])) (hy : ev F y = some (.a [.c (.s (.int .i64 b0)), .c (.s (.int .i64 b1))])) : Rd Try.prog N E o F H (.c (.s (.bool (decide (¬ (a0 = b0 ∧ a1 = b1)))))) :=
  rd_bin (dx := .agg #[.int .i64 a0, .int .i64 a1]) (dy := .agg #[.int .i64 b0, .int .i64 b1]) ho hx hy (fun _ _ => by simp [AV.den, CV.den, AV.denL]) (fun _ _ => by simp [AV.den, CV.den, AV.denL]) fun w => by
    go_simp
    repeat' split
    all_goals simp_all
theorem rd_eqla66 {N : Nat} {E : Env} {o : Oper} {F : Fm} {H : List OB} {x y : Operand} {yt : TypeId} {a0 : Int} {a1 : Int} {b0 : Int} {b1 : Int} (ho : o.op = .binOp .eql 66 x y yt) (hx : ev F x = some (.a [.c (.s (.int .i64 a0)), .c (.s (.int .i64 a1))])) (hy : ev F y = some (.a [.c (.s (.int .i64 b0)), .c (.s (.int .i64 b1))])) : Rd Try.prog N E o F H (.c (.s (.bool (decide (a0 = b0 ∧ a1 = b1))))) :=
  rd_bin (dx := .agg #[.int .i64 a0, .int .i64 a1]) (dy := .agg #[.int .i64 b0, .int .i64 b1]) ho hx hy (fun _ _ => by simp [AV.den, CV.den, AV.denL]) (fun _ _ => by simp [AV.den, CV.den, AV.denL]) fun w => by
    go_simp
    repeat' split
    all_goals simp_all
theorem rd_neqa66 {N : Nat} {E : Env} {o : Oper} {F : Fm} {H : List OB} {x y : Operand} {yt : TypeId} {a0 : Int} {a1 : Int} {b0 : Int} {b1 : Int} (ho : o.op = .binOp .neq 66 x y yt) (hx : ev F x = some (.a [.c (.s (.int .i64 a0)), .c (.s (.int .i64 a1))])) (hy : ev F y = some (.a [.c (.s (.int .i64 b0)), .c (.s (.int .i64 b1))])) : Rd Try.prog N E o F H (.c (.s (.bool (decide (¬ (a0 = b0 ∧ a1 = b1)))))) :=
  rd_bin (dx := .agg #[.int .i64 a0, .int .i64 a1]) (dy := .agg #[.int .i64 b0, .int .i64 b1]) ho hx hy (fun _ _ => by simp [AV.den, CV.den, AV.denL]) (fun _ _ => by simp [AV.den, CV.den, AV.denL]) fun w => by
    go_simp
    repeat' split
    all_goals simp_all
theorem rd_eqla124 {N : Nat} {E : Env} {o : Oper} {F : Fm} {H : List OB} {x y : Operand} {yt : TypeId} {a0 : Int} {a1 : Int} {a2 : Int} {a3 : Int} {a4 : Int} {a5 : Int} {a6 : Int} {a7 : Bool} {a8 : Int} {b0 : Int} {b1 : Int} {b2 : Int} {b3 : Int} {b4 : Int} {b5 : Int} {b6 : Int} {b7 : Bool} {b8 : Int} (ho : o.op = .binOp .eql 124 x y yt) (hx : ev F x = some (.a [.c (.s (.int .i64 a0)), .c (.s (.int .i64 a1)), .c (.s (.int .i64 a2)), .c (.s (.int .i64 a3)), .c (.s (.int .i64 a4)), .c (.s (.int .i64 a5)), .c (.s (.int .i64 a6)), .c (.s (.bool a7)), .c (.s (.int .i64 a8))])) (hy : ev F y = some (.a [.c (.s (.int .i64 b0)), .c (.s (.int .i64 b1)), .c (.s (.int .i64 b2)), .c (.s (.int .i64 b3)), .c (.s (.int .i64 b4)), .c (.s (.int .i64 b5)), .c (.s (.int .i64 b6)), .c (.s (.bool b7)), .c (.s (.int .i64 b8))])) : Rd Try.prog N E o F H (.c (.s (.bool (decide (a0 = b0 ∧ a1 = b1 ∧ a2 = b2 ∧ a3 = b3 ∧ a4 = b4 ∧ a5 = b5 ∧ a6 = b6 ∧ a7 = b7 ∧ a8 = b8))))) :=
  rd_bin (dx := .agg #[.int .i64 a0, .int .i64 a1, .int .i64 a2, .int .i64 a3, .int .i64 a4, .int .i64 a5, .int .i64 a6, .bool a7, .int .i64 a8]) (dy := .agg #[.int .i64 b0, .int .i64 b1, .int .i64 b2, .int .i64 b3, .int .i64 b4, .int .i64 b5, .int .i64 b6, .bool b7, .int .i64 b8]) ho hx hy (fun _ _ => by simp [AV.den, CV.den, AV.denL]) (fun _ _ => by simp [AV.den, CV.den, AV.denL]) fun w => by
    go_simp
    repeat' split
    all_goals simp_all
theorem rd_neqa124 {N : Nat} {E : Env} {o : Oper} {F : Fm} {H : List OB} {x y : Operand} {yt : TypeId} {a0 : Int} {a1 : Int} {a2 : Int} {a3 : Int} {a4 : Int} {a5 : Int} {a6 : Int} {a7 : Bool} {a8 : Int} {b0 : Int} {b1 : Int} {b2 : Int} {b3 : Int} {b4 : Int} {b5 : Int} {b6 : Int} {b7 : Bool} {b8 : Int} (ho : o.op = .binOp .neq 124 x y yt) (hx : ev F x = some (.a [.c (.s (.int .i64 a0)), .c (.s (.int .i64 a1)), .c (.s (.int .i64 a2)), .c (.s (.int .i64 a3)), .c (.s (.int .i64 a4)), .c (.s (.int .i64 a5)), .c (.s (.int .i64 a6)), .c (.s (.bool a7)), .c (.s (.int .i64 a8))])) (hy : ev F y = some (.a [.c (.s (.int .i64 b0)), .c (.s (.int .i64 b1)), .c (.s (.int .i64 b2)), .c (.s (.int .i64 b3)), .c (.s (.int .i64 b4)), .c (.s (.int .i64 b5)), .c (.s (.int .i64 b6)), .c (.s (.bool b7)), .c (.s (.int .i64 b8))])) : Rd Try.prog N E o F H (.c (.s (.bool (decide (¬ (a0 = b0 ∧ a1 = b1 ∧ a2 = b2 ∧ a3 = b3 ∧ a4 = b4 ∧ a5 = b5 ∧ a6 = b6 ∧ a7 = b7 ∧ a8 = b8)))))) :=
  rd_bin (dx := .agg #[.int .i64 a0, .int .i64 a1, .int .i64 a2, .int .i64 a3, .int .i64 a4, .int .i64 a5, .int .i64 a6, .bool a7, .int .i64 a8]) (dy := .agg #[.int .i64 b0, .int .i64 b1, .int .i64 b2, .int .i64 b3, .int .i64 b4, .int .i64 b5, .int .i64 b6, .bool b7, .int .i64 b8]) ho hx hy (fun _ _ => by simp [AV.den, CV.den, AV.denL]) (fun _ _ => by simp [AV.den, CV.den, AV.denL]) fun w => by
    go_simp
    repeat' split
    all_goals simp_all
theorem rd_eqla132 {N : Nat} {E : Env} {o : Oper} {F : Fm} {H : List OB} {x y : Operand} {yt : TypeId} {a0 : Int} {a1 : Int} {a2 : Int} {a3 : Int} {a4 : Int} {a5 : Int} {a6 : Int} {a7 : Bool} {a8 : Int} {b0 : Int} {b1 : Int} {b2 : Int} {b3 : Int} {b4 : Int} {b5 : Int} {b6 : Int} {b7 : Bool} {b8 : Int} (ho : o.op = .binOp .eql 132 x y yt) (hx : ev F x = some (.a [.c (.s (.int .i64 a0)), .c (.s (.int .i64 a1)), .c (.s (.int .i64 a2)), .c (.s (.int .i64 a3)), .c (.s (.int .i64 a4)), .c (.s (.int .i64 a5)), .c (.s (.int .i64 a6)), .c (.s (.bool a7)), .c (.s (.int .i64 a8))])) (hy : ev F y = some (.a [.c (.s (.int .i64 b0)), .c (.s (.int .i64 b1)), .c (.s (.int .i64 b2)), .c (.s (.int .i64 b3)), .c (.s (.int .i64 b4)), .c (.s (.int .i64 b5)), .c (.s (.int .i64 b6)), .c (.s (.bool b7)), .c (.s (.int .i64 b8))])) : Rd Try.prog N E o F H (.c (.s (.bool (decide (a0 = b0 ∧ a1 = b1 ∧ a2 = b2 ∧ a3 = b3 ∧ a4 = b4 ∧ a5 = b5 ∧ a6 = b6 ∧ a7 = b7 ∧ a8 = b8))))) :=
  rd_bin (dx := .agg #[.int .i64 a0, .int .i64 a1, .int .i64 a2, .int .i64 a3, .int .i64 a4, .int .i64 a5, .int .i64 a6, .bool a7, .int .i64 a8]) (dy := .agg #[.int .i64 b0, .int .i64 b1, .int .i64 b2, .int .i64 b3, .int .i64 b4, .int .i64 b5, .int .i64 b6, .bool b7, .int .i64 b8]) ho hx hy (fun _ _ => by simp [AV.den, CV.den, AV.denL]) (fun _ _ => by simp [AV.den, CV.den, AV.denL]) fun w => by
    go_simp
    repeat' split
    all_goals simp_all
theorem rd_neqa132 {N : Nat} {E : Env} {o : Oper} {F : Fm} {H : List OB} {x y : Operand} {yt : TypeId} {a0 : Int} {a1 : Int} {a2 : Int} {a3 : Int} {a4 : Int} {a5 : Int} {a6 : Int} {a7 : Bool} {a8 : Int} {b0 : Int} {b1 : Int} {b2 : Int} {b3 : Int} {b4 : Int} {b5 : Int} {b6 : Int} {b7 : Bool} {b8 : Int} (ho : o.op = .binOp .neq 132 x y yt) (hx : ev F x = some (.a [.c (.s (.int .i64 a0)), .c (.s (.int .i64 a1)), .c (.s (.int .i64 a2)), .c (.s (.int .i64 a3)), .c (.s (.int .i64 a4)), .c (.s (.int .i64 a5)), .c (.s (.int .i64 a6)), .c (.s (.bool a7)), .c (.s (.int .i64 a8))])) (hy : ev F y = some (.a [.c (.s (.int .i64 b0)), .c (.s (.int .i64 b1)), .c (.s (.int .i64 b2)), .c (.s (.int .i64 b3)), .c (.s (.int .i64 b4)), .c (.s (.int .i64 b5)), .c (.s (.int .i64 b6)), .c (.s (.bool b7)), .c (.s (.int .i64 b8))])) : Rd Try.prog N E o F H (.c (.s (.bool (decide (¬ (a0 = b0 ∧ a1 = b1 ∧ a2 = b2 ∧ a3 = b3 ∧ a4 = b4 ∧ a5 = b5 ∧ a6 = b6 ∧ a7 = b7 ∧ a8 = b8)))))) :=
  rd_bin (dx := .agg #[.int .i64 a0, .int .i64 a1, .int .i64 a2, .int .i64 a3, .int .i64 a4, .int .i64 a5, .int .i64 a6, .bool a7, .int .i64 a8]) (dy := .agg #[.int .i64 b0, .int .i64 b1, .int .i64 b2, .int .i64 b3, .int .i64 b4, .int .i64 b5, .int .i64 b6, .bool b7, .int .i64 b8]) ho hx hy (fun _ _ => by simp [AV.den, CV.den, AV.denL]) (fun _ _ => by simp [AV.den, CV.den, AV.denL]) fun w => by
    go_simp
    repeat' split
    all_goals simp_all
theorem rd_eqla145 {N : Nat} {E : Env} {o : Oper} {F : Fm} {H : List OB} {x y : Operand} {yt : TypeId} {a0 : Int} {a1 : Int} {b0 : Int} {b1 : Int} (ho : o.op = .binOp .eql 145 x y yt) (hx : ev F x = some (.a [.c (.s (.int .i64 a0)), .c (.s (.int .i64 a1))])) (hy : ev F y = some (.a [.c (.s (.int .i64 b0)), .c (.s (.int .i64 b1))])) : Rd Try.prog N E o F H (.c (.s (.bool (decide (a0 = b0 ∧ a1 = b1))))) :=
  rd_bin (dx := .agg #[.int .i64 a0, .int .i64 a1]) (dy := .agg #[.int .i64 b0, .int .i64 b1]) ho hx hy (fun _ _ => by simp [AV.den, CV.den, AV.denL]) (fun _ _ => by simp [AV.den, CV.den, AV.denL]) fun w => by
    go_simp
    repeat' split
    all_goals simp_all
theorem rd_neqa145 {N : Nat} {E : Env} {o : Oper} {F : Fm} {H : List OB} {x y : Operand} {yt : TypeId} {a0 : Int} {a1 : Int} {b0 : Int} {b1 : Int} (ho : o.op = .binOp .neq 145 x y yt) (hx : ev F x = some (.a [.c (.s (.int .i64 a0)), .c (.s (.int .i64 a1))])) (hy : ev F y = some (.a [.c (.s (.int .i64 b0)), .c (.s (.int .i64 b1))])) : Rd Try.prog N E o F H (.c (.s (.bool (decide (¬ (a0 = b0 ∧ a1 = b1)))))) :=
  rd_bin (dx := .agg #[.int .i64 a0, .int .i64 a1]) (dy := .agg #[.int .i64 b0, .int .i64 b1]) ho hx hy (fun _ _ => by simp [AV.den, CV.den, AV.denL]) (fun _ _ => by simp [AV.den, CV.den, AV.denL]) fun w => by
    go_simp
    repeat' split
    all_goals simp_all
theorem Tc9 : okFn Try.prog 9 = true := by kernel_rfl
theorem Tc10 : okFn Try.prog 10 = true := by kernel_rfl
theorem Tc11 : okFn Try.prog 11 = true := by kernel_rfl
theorem Tc12 : okFn Try.prog 12 = true := by kernel_rfl
theorem Tc13 : okFn Try.prog 13 = true := by kernel_rfl
theorem Tc14 : okFn Try.prog 14 = true := by kernel_rfl
theorem Tc15 : okFn Try.prog 15 = true := by kernel_rfl
theorem Tc16 : okFn Try.prog 16 = true := by kernel_rfl
theorem Tc17 : okFn Try.prog 17 = true := by kernel_rfl
theorem Tc18 : okFn Try.prog 18 = true := by kernel_rfl
theorem Tc19 : okFn Try.prog 19 = true := by kernel_rfl
theorem Tc20 : okFn Try.prog 20 = true := by kernel_rfl
theorem Tc21 : okFn Try.prog 21 = true := by kernel_rfl
theorem Tc22 : okFn Try.prog 22 = true := by kernel_rfl
theorem Tc23 : okFn Try.prog 23 = true := by kernel_rfl
theorem Tc24 : okFn Try.prog 24 = true := by kernel_rfl
theorem Tc25 : okFn Try.prog 25 = true := by kernel_rfl
theorem Tc26 : okFn Try.prog 26 = true := by kernel_rfl
theorem Tc27 : okFn Try.prog 27 = true := by kernel_rfl
theorem Tc28 : okFn Try.prog 28 = true := by kernel_rfl
theorem Tc29 : okFn Try.prog 29 = true := by kernel_rfl
theorem Tc30 : okFn Try.prog 30 = true := by kernel_rfl
theorem Tc31 : okFn Try.prog 31 = true := by kernel_rfl
theorem Tc32 : okFn Try.prog 32 = true := by kernel_rfl
theorem Tc33 : okFn Try.prog 33 = true := by kernel_rfl
theorem Tc34 : okFn Try.prog 34 = true := by kernel_rfl
theorem Tc35 : okFn Try.prog 35 = true := by kernel_rfl
theorem Tc36 : okFn Try.prog 36 = true := by kernel_rfl
theorem Tc37 : okFn Try.prog 37 = true := by kernel_rfl
theorem Tc38 : okFn Try.prog 38 = true := by kernel_rfl
theorem Tc39 : okFn Try.prog 39 = true := by kernel_rfl
theorem Tc40 : okFn Try.prog 40 = true := by kernel_rfl
theorem Tc41 : okFn Try.prog 41 = true := by kernel_rfl
theorem Tc42 : okFn Try.prog 42 = true := by kernel_rfl
theorem Tc43 : okFn Try.prog 43 = true := by kernel_rfl
theorem Tc44 : okFn Try.prog 44 = true := by kernel_rfl
theorem Tc45 : okFn Try.prog 45 = true := by kernel_rfl
theorem Tc46 : okFn Try.prog 46 = true := by kernel_rfl
theorem Tc47 : okFn Try.prog 47 = true := by kernel_rfl
theorem Tc48 : okFn Try.prog 48 = true := by kernel_rfl
theorem Tc49 : okFn Try.prog 49 = true := by kernel_rfl
theorem Tc50 : okFn Try.prog 50 = true := by kernel_rfl
theorem Tc51 : okFn Try.prog 51 = true := by kernel_rfl
theorem Tc52 : okFn Try.prog 52 = true := by kernel_rfl
theorem Tc53 : okFn Try.prog 53 = true := by kernel_rfl
theorem Tc54 : okFn Try.prog 54 = true := by kernel_rfl
theorem Tc55 : okFn Try.prog 55 = true := by kernel_rfl
theorem Tc56 : okFn Try.prog 56 = true := by kernel_rfl
theorem Tc57 : okFn Try.prog 57 = true := by kernel_rfl
theorem Tc58 : okFn Try.prog 58 = true := by kernel_rfl
theorem Tc59 : okFn Try.prog 59 = true := by kernel_rfl
theorem Tc60 : okFn Try.prog 60 = true := by kernel_rfl
theorem Tc61 : okFn Try.prog 61 = true := by kernel_rfl
theorem Tc62 : okFn Try.prog 62 = true := by kernel_rfl
theorem Tc63 : okFn Try.prog 63 = true := by kernel_rfl
theorem Tc64 : okFn Try.prog 64 = true := by kernel_rfl
theorem Tc65 : okFn Try.prog 65 = true := by kernel_rfl
theorem Tc66 : okFn Try.prog 66 = true := by kernel_rfl
theorem Tc67 : okFn Try.prog 67 = true := by kernel_rfl
theorem Tc68 : okFn Try.prog 68 = true := by kernel_rfl
theorem Tc69 : okFn Try.prog 69 = true := by kernel_rfl
theorem Tc70 : okFn Try.prog 70 = true := by kernel_rfl
theorem Tc71 : okFn Try.prog 71 = true := by kernel_rfl
theorem Tc72 : okFn Try.prog 72 = true := by kernel_rfl
theorem Tc73 : okFn Try.prog 73 = true := by kernel_rfl
theorem Tc74 : okFn Try.prog 74 = true := by kernel_rfl
theorem Tc75 : okFn Try.prog 75 = true := by kernel_rfl
theorem Tc76 : okFn Try.prog 76 = true := by kernel_rfl
theorem Tc77 : okFn Try.prog 77 = true := by kernel_rfl
theorem Tc78 : okFn Try.prog 78 = true := by kernel_rfl
theorem Tc79 : okFn Try.prog 79 = true := by kernel_rfl
theorem Tc80 : okFn Try.prog 80 = true := by kernel_rfl
theorem Tc81 : okFn Try.prog 81 = true := by kernel_rfl
theorem Tc82 : okFn Try.prog 82 = true := by kernel_rfl
theorem Tc83 : okFn Try.prog 83 = true := by kernel_rfl
theorem Tc84 : okFn Try.prog 84 = true := by kernel_rfl
theorem Tc85 : okFn Try.prog 85 = true := by kernel_rfl
theorem Tc86 : okFn Try.prog 86 = true := by kernel_rfl
theorem Tc87 : okFn Try.prog 87 = true := by kernel_rfl
theorem Tc88 : okFn Try.prog 88 = true := by kernel_rfl
theorem Tc89 : okFn Try.prog 89 = true := by kernel_rfl
theorem Tc90 : okFn Try.prog 90 = true := by kernel_rfl
theorem Tc91 : okFn Try.prog 91 = true := by kernel_rfl
theorem Tc92 : okFn Try.prog 92 = true := by kernel_rfl
theorem Tc93 : okFn Try.prog 93 = true := by kernel_rfl
theorem Tc94 : okFn Try.prog 94 = true := by kernel_rfl
theorem Tc95 : okFn Try.prog 95 = true := by kernel_rfl
theorem Tc96 : okFn Try.prog 96 = true := by kernel_rfl
theorem Tc97 : okFn Try.prog 97 = true := by kernel_rfl
theorem Tc98 : okFn Try.prog 98 = true := by kernel_rfl
theorem Tc99 : okFn Try.prog 99 = true := by kernel_rfl
theorem Tc100 : okFn Try.prog 100 = true := by kernel_rfl
theorem Tc101 : okFn Try.prog 101 = true := by kernel_rfl
theorem Tc102 : okFn Try.prog 102 = true := by kernel_rfl
theorem Tc103 : okFn Try.prog 103 = true := by kernel_rfl
theorem Tc104 : okFn Try.prog 104 = true := by kernel_rfl
theorem Tc105 : okFn Try.prog 105 = true := by kernel_rfl
theorem Tc106 : okFn Try.prog 106 = true := by kernel_rfl
theorem Tc107 : okFn Try.prog 107 = true := by kernel_rfl
theorem Tc108 : okFn Try.prog 108 = true := by kernel_rfl
theorem Tc109 : okFn Try.prog 109 = true := by kernel_rfl
theorem Tc110 : okFn Try.prog 110 = true := by kernel_rfl
theorem Tc111 : okFn Try.prog 111 = true := by kernel_rfl
theorem Tc112 : okFn Try.prog 112 = true := by kernel_rfl
theorem Tc113 : okFn Try.prog 113 = true := by kernel_rfl
theorem Tc114 : okFn Try.prog 114 = true := by kernel_rfl
theorem Tc115 : okFn Try.prog 115 = true := by kernel_rfl
theorem Tc116 : okFn Try.prog 116 = true := by kernel_rfl
theorem Tc117 : okFn Try.prog 117 = true := by kernel_rfl
theorem Tc118 : okFn Try.prog 118 = true := by kernel_rfl
theorem Tc119 : okFn Try.prog 119 = true := by kernel_rfl
theorem Tc120 : okFn Try.prog 120 = true := by kernel_rfl
theorem Tc121 : okFn Try.prog 121 = true := by kernel_rfl
theorem Tc122 : okFn Try.prog 122 = true := by kernel_rfl
theorem Tc123 : okFn Try.prog 123 = true := by kernel_rfl
theorem Tc124 : okFn Try.prog 124 = true := by kernel_rfl
theorem Tc125 : okFn Try.prog 125 = true := by kernel_rfl
theorem Tc126 : okFn Try.prog 126 = true := by kernel_rfl
theorem Tc127 : okFn Try.prog 127 = true := by kernel_rfl
theorem Tc128 : okFn Try.prog 128 = true := by kernel_rfl
theorem Tc129 : okFn Try.prog 129 = true := by kernel_rfl
theorem Tc130 : okFn Try.prog 130 = true := by kernel_rfl
theorem Tc131 : okFn Try.prog 131 = true := by kernel_rfl
theorem Tc132 : okFn Try.prog 132 = true := by kernel_rfl
theorem Tc133 : okFn Try.prog 133 = true := by kernel_rfl
theorem Tc134 : okFn Try.prog 134 = true := by kernel_rfl
theorem Tc135 : okFn Try.prog 135 = true := by kernel_rfl
theorem Tc136 : okFn Try.prog 136 = true := by kernel_rfl
theorem Tc137 : okFn Try.prog 137 = true := by kernel_rfl
theorem Tc138 : okFn Try.prog 138 = true := by kernel_rfl
theorem Tc139 : okFn Try.prog 139 = true := by kernel_rfl
theorem Tc140 : okFn Try.prog 140 = true := by kernel_rfl
theorem Tc141 : okFn Try.prog 141 = true := by kernel_rfl
theorem Tc142 : okFn Try.prog 142 = true := by kernel_rfl
theorem Tc143 : okFn Try.prog 143 = true := by kernel_rfl
theorem Tc144 : okFn Try.prog 144 = true := by kernel_rfl
theorem Tc145 : okFn Try.prog 145 = true := by kernel_rfl
theorem Tc146 : okFn Try.prog 146 = true := by kernel_rfl
theorem Tc147 : okFn Try.prog 147 = true := by kernel_rfl
theorem Tc148 : okFn Try.prog 148 = true := by kernel_rfl
theorem Tc149 : okFn Try.prog 149 = true := by kernel_rfl
theorem Tc150 : okFn Try.prog 150 = true := by kernel_rfl
theorem Tc151 : okFn Try.prog 151 = true := by kernel_rfl
theorem Tc152 : okFn Try.prog 152 = true := by kernel_rfl
theorem Tc153 : okFn Try.prog 153 = true := by kernel_rfl
theorem Tc154 : okFn Try.prog 154 = true := by kernel_rfl
theorem Tc155 : okFn Try.prog 155 = true := by kernel_rfl
theorem Tc156 : okFn Try.prog 156 = true := by kernel_rfl
theorem Tc157 : okFn Try.prog 157 = true := by kernel_rfl
theorem Tc158 : okFn Try.prog 158 = true := by kernel_rfl
theorem Tc159 : okFn Try.prog 159 = true := by kernel_rfl
theorem Tc160 : okFn Try.prog 160 = true := by kernel_rfl
theorem Tc161 : okFn Try.prog 161 = true := by kernel_rfl
theorem Tc162 : okFn Try.prog 162 = true := by kernel_rfl
theorem Tc163 : okFn Try.prog 163 = true := by kernel_rfl
theorem Tc164 : okFn Try.prog 164 = true := by kernel_rfl
theorem Tc165 : okFn Try.prog 165 = true := by kernel_rfl
theorem Tc166 : okFn Try.prog 166 = true := by kernel_rfl
theorem Tc167 : okFn Try.prog 167 = true := by kernel_rfl
theorem Tc168 : okFn Try.prog 168 = true := by kernel_rfl
theorem Tc169 : okFn Try.prog 169 = true := by kernel_rfl
theorem Tc170 : okFn Try.prog 170 = true := by kernel_rfl
theorem Tc171 : okFn Try.prog 171 = true := by kernel_rfl
theorem Tc173 : okFn Try.prog 173 = true := by kernel_rfl
theorem Tc174 : okFn Try.prog 174 = true := by kernel_rfl
theorem Tc175 : okFn Try.prog 175 = true := by kernel_rfl
theorem Tc176 : okFn Try.prog 176 = true := by kernel_rfl
theorem Tc177 : okFn Try.prog 177 = true := by kernel_rfl
theorem Tc178 : okFn Try.prog 178 = true := by kernel_rfl
theorem Tc180 : okFn Try.prog 180 = true := by kernel_rfl
theorem Tc182 : okFn Try.prog 182 = true := by kernel_rfl
theorem Tc183 : okFn Try.prog 183 = true := by kernel_rfl
theorem Tc184 : okFn Try.prog 184 = true := by kernel_rfl
theorem Tc185 : okFn Try.prog 185 = true := by kernel_rfl
theorem Tc186 : okFn Try.prog 186 = true := by kernel_rfl
theorem Tc187 : okFn Try.prog 187 = true := by kernel_rfl
theorem Tc188 : okFn Try.prog 188 = true := by kernel_rfl
theorem Tc189 : okFn Try.prog 189 = true := by kernel_rfl
theorem Tc190 : okFn Try.prog 190 = true := by kernel_rfl
theorem Tc191 : okFn Try.prog 191 = true := by kernel_rfl
theorem Tc192 : okFn Try.prog 192 = true := by kernel_rfl
theorem Tc193 : okFn Try.prog 193 = true := by kernel_rfl
theorem Tc194 : okFn Try.prog 194 = true := by kernel_rfl
theorem Tc195 : okFn Try.prog 195 = true := by kernel_rfl
theorem Tc196 : okFn Try.prog 196 = true := by kernel_rfl
theorem Tc197 : okFn Try.prog 197 = true := by kernel_rfl
end Go.Proofs.Ytpbedckdnoogpaa
