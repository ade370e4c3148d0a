/-
  FloatProducts: the functions that it reaches, by VX: joined. By the session's own hand.
-/
import Derived.Test.YtgpnmifejgdipaaFgFloatProducts1
import Derived.Test.YtgpnmifejgdipaaFgFloatProducts2
import Derived.Test.YtgpnmifejgdipaaFgFloatProducts3
import Derived.Test.YtgpnmifejgdipaaFgFloatProducts4
import Derived.Test.YtgpnmifejgdipaaFgFloatProducts5
import Derived.Test.YtgpnmifejgdipaaFgFloatProducts6
import Derived.Test.YtgpnmifejgdipaaFgFloatProducts7
namespace Go.Proofs.Ytgpnmifejgdipaa.Fx
open Go.Proofs.YtgpnmifejgdipaaVX Go.RowKit Go.Proofs.Ytgpnmifejgdipaa.My Go.Proofs.YtgpnmifejgdipaaW Go.Proofs.YtgpnmifejgdipaaW.PrintMore
set_option linter.unusedVariables false
set_option linter.unusedSimpArgs false
set_option maxRecDepth 100000
theorem ok53 : VSound Try.prog (53, R53) :=
  vsound (T := ty) (F := F53) (pl := P53) (nw := false) (cuts := []) mix tyOk .nil Try.func53 (by kernel_rfl) (by kernel_rfl) vc4.1
theorem ok64 : VSound Try.prog (64, R64) :=
  vsound (T := ty) (F := F64) (pl := P64) (nw := false) (cuts := []) mix tyOk .nil Try.func64 (by kernel_rfl) (by kernel_rfl) vc5.1
theorem ok90 : VSound Try.prog (90, R90) :=
  vsound (T := ty) (F := F90) (pl := P90) (nw := false) (cuts := []) mix tyOk .nil Try.func90 (by kernel_rfl) (by kernel_rfl) vc6.1
theorem ok89 : VSound Try.prog (89, R89) :=
  vsound (T := ty) (F := F89) (pl := P89) (nw := false) (cuts := []) mix tyOk (.cons ok90 .nil) Try.func89 (by kernel_rfl) (by kernel_rfl) vc4.2.1
theorem ok63 : VSound Try.prog (63, R63) :=
  vsound (T := ty) (F := F63) (pl := P63) (nw := false) (cuts := []) mix tyOk (.cons ok64 (.cons ok89 (.cons ok90 .nil))) Try.func63 (by kernel_rfl) (by kernel_rfl) vc5.2.1
theorem ok40 : VSound Try.prog (40, R40) :=
  vsound (T := ty) (F := F40) (pl := P40) (nw := false) (cuts := []) mix tyOk (.cons ok53 (.cons ok63 .nil)) Try.func40 (by kernel_rfl) (by kernel_rfl) vc6.2.1
theorem ok87 : VSound Try.prog (87, R87) :=
  vsound (T := ty) (F := F87) (pl := P87) (nw := false) (cuts := []) mix tyOk .nil Try.func87 (by kernel_rfl) (by kernel_rfl) vc4.2.2.1
theorem ok54 : VSound Try.prog (54, R54) :=
  vsound (T := ty) (F := F54) (pl := P54) (nw := false) (cuts := []) mix tyOk (.cons ok87 .nil) Try.func54 (by kernel_rfl) (by kernel_rfl) vc5.2.2.1
theorem ok60 : VSound Try.prog (60, R60) :=
  vsound (T := ty) (F := F60) (pl := P60) (nw := false) (cuts := []) mix tyOk (.cons ok64 (.cons ok87 .nil)) Try.func60 (by kernel_rfl) (by kernel_rfl) vc6.2.2.1
theorem ok66 : VSound Try.prog (66, R66) :=
  vsound (T := ty) (F := F66) (pl := P66) (nw := false) (cuts := []) mix tyOk .nil Try.func66 (by kernel_rfl) (by kernel_rfl) vc3.1
theorem ok67 : VSound Try.prog (67, R67) :=
  vsound (T := ty) (F := F67) (pl := P67) (nw := false) (cuts := []) mix tyOk .nil Try.func67 (by kernel_rfl) (by kernel_rfl) vc4.2.2.2.1
theorem ok88 : VSound Try.prog (88, R88) :=
  vsound (T := ty) (F := F88) (pl := P88) (nw := false) (cuts := []) mix tyOk (.cons ok95 .nil) Try.func88 (by kernel_rfl) (by kernel_rfl) vc5.2.2.2.1
theorem ok91 : VSound Try.prog (91, R91) :=
  vsound (T := ty) (F := F91) (pl := P91) (nw := false) (cuts := []) mix tyOk (.cons ok64 (.cons ok87 .nil)) Try.func91 (by kernel_rfl) (by kernel_rfl) vc6.2.2.2.1
theorem ok55 : VSound Try.prog (55, R55) :=
  vsound (T := ty) (F := F55) (pl := P55) (nw := false) (cuts := [8, 12, 14, 17]) mix tyOk (.cons ok60 (.cons ok64 (.cons ok66 (.cons ok67 (.cons ok87 (.cons ok88 (.cons ok89 (.cons ok90 (.cons ok91 .nil))))))))) Try.func55 (by kernel_rfl) (by kernel_rfl) vc0
theorem ok59 : VSound Try.prog (59, R59) :=
  vsound (T := ty) (F := F59) (pl := P59) (nw := false) (cuts := []) mix tyOk (.cons ok64 (.cons ok87 .nil)) Try.func59 (by kernel_rfl) (by kernel_rfl) vc4.2.2.2.2.1
theorem ok80 : VSound Try.prog (80, R80) :=
  vsound (T := ty) (F := F80) (pl := P80) (nw := false) (cuts := []) mix tyOk (.cons ok54 .nil) Try.func80 (by kernel_rfl) (by kernel_rfl) vc5.2.2.2.2.1
theorem ok73 : VSound Try.prog (73, R73) :=
  vsound (T := ty) (F := F73) (pl := P73) (nw := false) (cuts := []) mix tyOk .nil Try.func73 (by kernel_rfl) (by kernel_rfl) vc6.2.2.2.2.1
theorem ok81 : VSound Try.prog (81, R81) :=
  vsound (T := ty) (F := F81) (pl := P81) (nw := false) (cuts := [5, 10, 17, 24]) mix tyOk (.cons ok55 (.cons ok73 (.cons ok80 (.cons ok93 (.cons ok94 .nil))))) Try.func81 (by kernel_rfl) (by kernel_rfl) vc1
theorem ok41 : VSound Try.prog (41, R41) :=
  vsound (T := ty) (F := F41) (pl := P41) (nw := false) (cuts := []) mix tyOk (.cons ok54 (.cons ok55 (.cons ok59 (.cons ok60 (.cons ok80 (.cons ok81 .nil)))))) Try.func41 (by kernel_rfl) (by kernel_rfl) vc4.2.2.2.2.2.1
theorem ok13 : VSound Try.prog (13, R13) :=
  vsound (T := ty) (F := F13) (pl := P13) (nw := false) (cuts := []) mix tyOk (.cons ok40 (.cons ok41 .nil)) Try.func13 (by kernel_rfl) (by kernel_rfl) vc5.2.2.2.2.2.1
theorem ok32 : VSound Try.prog (32, R32) :=
  vsound (T := ty) (F := F32) (pl := P32) (nw := false) (cuts := []) mix tyOk (.cons ok40 .nil) Try.func32 (by kernel_rfl) (by kernel_rfl) vc6.2.2.2.2.2.1
theorem ok17 : VSound Try.prog (17, R17) :=
  vsound (T := ty) (F := F17) (pl := P17) (nw := false) (cuts := []) mix tyOk (.cons ok13 (.cons ok32 .nil)) Try.func17 (by kernel_rfl) (by kernel_rfl) vc4.2.2.2.2.2.2.1
theorem ok35 : VSound Try.prog (35, R35) :=
  vsound (T := ty) (F := F35) (pl := P35) (nw := false) (cuts := []) mix tyOk (.cons ok40 (.cons ok54 (.cons ok55 (.cons ok59 (.cons ok60 (.cons ok76 .nil)))))) Try.func35 (by kernel_rfl) (by kernel_rfl) vc5.2.2.2.2.2.2.1
theorem ok25 : VSound Try.prog (25, R25) :=
  vsound (T := ty) (F := F25) (pl := P25) (nw := false) (cuts := []) mix tyOk .nil Try.func25 (by kernel_rfl) (by kernel_rfl) vc6.2.2.2.2.2.2.1
theorem ok57 : VSound Try.prog (57, R57) :=
  vsound (T := ty) (F := F57) (pl := P57) (nw := false) (cuts := []) mix tyOk .nil Try.func57 (by kernel_rfl) (by kernel_rfl) vc4.2.2.2.2.2.2.2.1
theorem ok42 : VSound Try.prog (42, R42) :=
  vsound (T := ty) (F := F42) (pl := P42) (nw := false) (cuts := []) mix tyOk (.cons ok25 (.cons ok57 .nil)) Try.func42 (by kernel_rfl) (by kernel_rfl) vc5.2.2.2.2.2.2.2.1
theorem ok56 : VSound Try.prog (56, R56) :=
  vsound (T := ty) (F := F56) (pl := P56) (nw := false) (cuts := []) mix tyOk .nil Try.func56 (by kernel_rfl) (by kernel_rfl) vc6.2.2.2.2.2.2.2.1
theorem ok58 : VSound Try.prog (58, R58) :=
  vsound (T := ty) (F := F58) (pl := P58) (nw := false) (cuts := []) mix tyOk .nil Try.func58 (by kernel_rfl) (by kernel_rfl) vc3.2.1
theorem ok83 : VSound Try.prog (83, R83) :=
  vsound (T := ty) (F := F83) (pl := P83) (nw := false) (cuts := []) mix tyOk .nil Try.func83 (by kernel_rfl) (by kernel_rfl) vc4.2.2.2.2.2.2.2.2.1
theorem ok82 : VSound Try.prog (82, R82) :=
  vsound (T := ty) (F := F82) (pl := P82) (nw := false) (cuts := []) mix tyOk (.cons ok56 (.cons ok83 .nil)) Try.func82 (by kernel_rfl) (by kernel_rfl) vc5.2.2.2.2.2.2.2.2.1
theorem ok43 : VSound Try.prog (43, R43) :=
  vsound (T := ty) (F := F43) (pl := P43) (nw := false) (cuts := []) mix tyOk (.cons ok56 (.cons ok58 (.cons ok82 (.cons ok83 .nil)))) Try.func43 (by kernel_rfl) (by kernel_rfl) vc6.2.2.2.2.2.2.2.2.1
theorem ok65 : VSound Try.prog (65, R65) :=
  vsound (T := ty) (F := F65) (pl := P65) (nw := false) (cuts := []) mix tyOk (.cons ok56 .nil) Try.func65 (by kernel_rfl) (by kernel_rfl) vc4.2.2.2.2.2.2.2.2.2.1
theorem ok84 : VSound Try.prog (84, R84) :=
  vsound (T := ty) (F := F84) (pl := P84) (nw := false) (cuts := []) mix tyOk (.cons ok56 .nil) Try.func84 (by kernel_rfl) (by kernel_rfl) vc5.2.2.2.2.2.2.2.2.2.1
theorem ok44 : VSound Try.prog (44, R44) :=
  vsound (T := ty) (F := F44) (pl := P44) (nw := false) (cuts := []) mix tyOk (.cons ok56 (.cons ok65 (.cons ok84 .nil))) Try.func44 (by kernel_rfl) (by kernel_rfl) vc6.2.2.2.2.2.2.2.2.2.1
theorem ok45 : VSound Try.prog (45, R45) :=
  vsound (T := ty) (F := F45) (pl := P45) (nw := false) (cuts := []) mix tyOk (.cons ok65 (.cons ok84 .nil)) Try.func45 (by kernel_rfl) (by kernel_rfl) vc4.2.2.2.2.2.2.2.2.2.2.1
theorem ok50 : VSound Try.prog (50, R50) :=
  vsound (T := ty) (F := F50) (pl := P50) (nw := false) (cuts := []) mix tyOk (.cons ok65 .nil) Try.func50 (by kernel_rfl) (by kernel_rfl) vc5.2.2.2.2.2.2.2.2.2.2.1
theorem ok46 : VSound Try.prog (46, R46) :=
  vsound (T := ty) (F := F46) (pl := P46) (nw := false) (cuts := []) mix tyOk .nil Try.func46 (by kernel_rfl) (by kernel_rfl) vc6.2.2.2.2.2.2.2.2.2.2.1
theorem ok70 : VSound Try.prog (70, R70) :=
  vsound (T := ty) (F := F70) (pl := P70) (nw := false) (cuts := []) mix tyOk .nil Try.func70 (by kernel_rfl) (by kernel_rfl) vc4.2.2.2.2.2.2.2.2.2.2.2.1
theorem ok85 : VSound Try.prog (85, R85) :=
  vsound (T := ty) (F := F85) (pl := P85) (nw := false) (cuts := []) mix tyOk .nil Try.func85 (by kernel_rfl) (by kernel_rfl) vc3.2.2.1
theorem ok47 : VSound Try.prog (47, R47) :=
  vsound (T := ty) (F := F47) (pl := P47) (nw := false) (cuts := []) mix tyOk (.cons ok70 (.cons ok85 .nil)) Try.func47 (by kernel_rfl) (by kernel_rfl) vc3.2.2.2.1
theorem ok48 : VSound Try.prog (48, R48) :=
  vsound (T := ty) (F := F48) (pl := P48) (nw := false) (cuts := []) mix tyOk (.cons ok70 .nil) Try.func48 (by kernel_rfl) (by kernel_rfl) vc3.2.2.2.2.1
theorem ok49 : VSound Try.prog (49, R49) :=
  vsound (T := ty) (F := F49) (pl := P49) (nw := false) (cuts := []) mix tyOk (.cons ok70 (.cons ok85 .nil)) Try.func49 (by kernel_rfl) (by kernel_rfl) vc3.2.2.2.2.2.1
theorem ok68 : VSound Try.prog (68, R68) :=
  vsound (T := ty) (F := F68) (pl := P68) (nw := false) (cuts := []) mix tyOk .nil Try.func68 (by kernel_rfl) (by kernel_rfl) vc5.2.2.2.2.2.2.2.2.2.2.2.1
theorem ok69 : VSound Try.prog (69, R69) :=
  vsound (T := ty) (F := F69) (pl := P69) (nw := false) (cuts := []) mix tyOk .nil Try.func69 (by kernel_rfl) (by kernel_rfl) vc6.2.2.2.2.2.2.2.2.2.2.2.1
theorem ok71 : VSound Try.prog (71, R71) :=
  vsound (T := ty) (F := F71) (pl := P71) (nw := false) (cuts := []) mix tyOk .nil Try.func71 (by kernel_rfl) (by kernel_rfl) vc3.2.2.2.2.2.2.1
theorem ok86 : VSound Try.prog (86, R86) :=
  vsound (T := ty) (F := F86) (pl := P86) (nw := false) (cuts := []) mix tyOk (.cons ok56 (.cons ok65 (.cons ok84 .nil))) Try.func86 (by kernel_rfl) (by kernel_rfl) vc4.2.2.2.2.2.2.2.2.2.2.2.2.1
theorem ok51 : VSound Try.prog (51, R51) :=
  vsound (T := ty) (F := F51) (pl := P51) (nw := false) (cuts := [7, 21, 23, 14, 19]) mix tyOk (.cons ok45 (.cons ok46 (.cons ok47 (.cons ok48 (.cons ok49 (.cons ok56 (.cons ok58 (.cons ok65 (.cons ok68 (.cons ok69 (.cons ok70 (.cons ok71 (.cons ok82 (.cons ok83 (.cons ok86 .nil))))))))))))))) Try.func51 (by kernel_rfl) (by kernel_rfl) vc2
theorem ok77 : VSound Try.prog (77, R77) :=
  vsound (T := ty) (F := F77) (pl := P77) (nw := false) (cuts := []) mix tyOk (.cons ok46 (.cons ok47 .nil)) Try.func77 (by kernel_rfl) (by kernel_rfl) vc3.2.2.2.2.2.2.2.1
theorem ok36 : VSound Try.prog (36, R36) :=
  vsound (T := ty) (F := F36) (pl := P36) (nw := false) (cuts := []) mix tyOk (.cons ok42 (.cons ok43 (.cons ok44 (.cons ok45 (.cons ok50 (.cons ok51 (.cons ok77 .nil))))))) Try.func36 (by kernel_rfl) (by kernel_rfl) vc5.2.2.2.2.2.2.2.2.2.2.2.2.1
theorem ok72 : VSound Try.prog (72, R72) :=
  vsound (T := ty) (F := F72) (pl := P72) (nw := false) (cuts := []) mix tyOk (.cons ok92 .nil) Try.func72 (by kernel_rfl) (by kernel_rfl) vc6.2.2.2.2.2.2.2.2.2.2.2.2.1
theorem ok78 : VSound Try.prog (78, R78) :=
  vsound (T := ty) (F := F78) (pl := P78) (nw := false) (cuts := []) mix tyOk (.cons ok92 .nil) Try.func78 (by kernel_rfl) (by kernel_rfl) vc3.2.2.2.2.2.2.2.2.1
theorem ok37 : VSound Try.prog (37, R37) :=
  vsound (T := ty) (F := F37) (pl := P37) (nw := false) (cuts := []) mix tyOk (.cons ok40 (.cons ok54 (.cons ok55 (.cons ok59 (.cons ok60 (.cons ok72 (.cons ok78 .nil))))))) Try.func37 (by kernel_rfl) (by kernel_rfl) vc4.2.2.2.2.2.2.2.2.2.2.2.2.2
theorem ok79 : VSound Try.prog (79, R79) :=
  vsound (T := ty) (F := F79) (pl := P79) (nw := false) (cuts := []) mix tyOk (.cons ok48 (.cons ok49 (.cons ok85 .nil))) Try.func79 (by kernel_rfl) (by kernel_rfl) vc3.2.2.2.2.2.2.2.2.2
theorem ok38 : VSound Try.prog (38, R38) :=
  vsound (T := ty) (F := F38) (pl := P38) (nw := false) (cuts := []) mix tyOk (.cons ok42 (.cons ok43 (.cons ok44 (.cons ok45 (.cons ok46 (.cons ok50 (.cons ok51 (.cons ok56 (.cons ok79 .nil))))))))) Try.func38 (by kernel_rfl) (by kernel_rfl) vc5.2.2.2.2.2.2.2.2.2.2.2.2.2
theorem ok11 : VSound Try.prog (11, R11) :=
  vsound (T := ty) (F := F11) (pl := P11) (nw := false) (cuts := []) mix tyOk (.cons ok17 (.cons ok35 (.cons ok36 (.cons ok37 (.cons ok38 .nil))))) Try.func11 (by kernel_rfl) (by kernel_rfl) vc6.2.2.2.2.2.2.2.2.2.2.2.2.2
end Go.Proofs.Ytgpnmifejgdipaa.Fx
