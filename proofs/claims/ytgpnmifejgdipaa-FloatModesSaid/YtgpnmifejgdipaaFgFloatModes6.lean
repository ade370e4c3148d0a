/-
  FloatModes: the functions that it reaches, by VX: joined. By the session's own hand.
-/
import Derived.Test.YtgpnmifejgdipaaFgFloatModes1
import Derived.Test.YtgpnmifejgdipaaFgFloatModes2
import Derived.Test.YtgpnmifejgdipaaFgFloatModes3
import Derived.Test.YtgpnmifejgdipaaFgFloatModes4
import Derived.Test.YtgpnmifejgdipaaFgFloatModes5
namespace Go.Proofs.Ytgpnmifejgdipaa.Fx
open Go.Proofs.YtgpnmifejgdipaaVX Go.RowKit Go.Proofs.Ytgpnmifejgdipaa.My Go.Proofs.YtgpnmifejgdipaaW Go.Proofs.YtgpnmifejgdipaaW.PrintMore
set_option linter.unusedVariables false
set_option linter.unusedSimpArgs false
set_option maxRecDepth 100000
theorem ok53 : VSound Try.prog (53, R53) :=
  vsound (T := ty) (F := F53) (pl := P53) (nw := false) (cuts := []) mix tyOk .nil Try.func53 (by kernel_rfl) (by kernel_rfl) vc3.1
theorem ok64 : VSound Try.prog (64, R64) :=
  vsound (T := ty) (F := F64) (pl := P64) (nw := false) (cuts := []) mix tyOk .nil Try.func64 (by kernel_rfl) (by kernel_rfl) vc4.1
theorem ok90 : VSound Try.prog (90, R90) :=
  vsound (T := ty) (F := F90) (pl := P90) (nw := false) (cuts := []) mix tyOk .nil Try.func90 (by kernel_rfl) (by kernel_rfl) vc3.2.1
theorem ok89 : VSound Try.prog (89, R89) :=
  vsound (T := ty) (F := F89) (pl := P89) (nw := false) (cuts := []) mix tyOk (.cons ok90 .nil) Try.func89 (by kernel_rfl) (by kernel_rfl) vc4.2.1
theorem ok63 : VSound Try.prog (63, R63) :=
  vsound (T := ty) (F := F63) (pl := P63) (nw := false) (cuts := []) mix tyOk (.cons ok64 (.cons ok89 (.cons ok90 .nil))) Try.func63 (by kernel_rfl) (by kernel_rfl) vc3.2.2.1
theorem ok40 : VSound Try.prog (40, R40) :=
  vsound (T := ty) (F := F40) (pl := P40) (nw := false) (cuts := []) mix tyOk (.cons ok53 (.cons ok63 .nil)) Try.func40 (by kernel_rfl) (by kernel_rfl) vc4.2.2.1
theorem ok87 : VSound Try.prog (87, R87) :=
  vsound (T := ty) (F := F87) (pl := P87) (nw := false) (cuts := []) mix tyOk .nil Try.func87 (by kernel_rfl) (by kernel_rfl) vc3.2.2.2.1
theorem ok54 : VSound Try.prog (54, R54) :=
  vsound (T := ty) (F := F54) (pl := P54) (nw := false) (cuts := []) mix tyOk (.cons ok87 .nil) Try.func54 (by kernel_rfl) (by kernel_rfl) vc4.2.2.2.1
theorem ok60 : VSound Try.prog (60, R60) :=
  vsound (T := ty) (F := F60) (pl := P60) (nw := false) (cuts := []) mix tyOk (.cons ok64 (.cons ok87 .nil)) Try.func60 (by kernel_rfl) (by kernel_rfl) vc3.2.2.2.2.1
theorem ok66 : VSound Try.prog (66, R66) :=
  vsound (T := ty) (F := F66) (pl := P66) (nw := false) (cuts := []) mix tyOk .nil Try.func66 (by kernel_rfl) (by kernel_rfl) vc2.1
theorem ok67 : VSound Try.prog (67, R67) :=
  vsound (T := ty) (F := F67) (pl := P67) (nw := false) (cuts := []) mix tyOk .nil Try.func67 (by kernel_rfl) (by kernel_rfl) vc4.2.2.2.2.1
theorem ok88 : VSound Try.prog (88, R88) :=
  vsound (T := ty) (F := F88) (pl := P88) (nw := false) (cuts := []) mix tyOk (.cons ok95 .nil) Try.func88 (by kernel_rfl) (by kernel_rfl) vc3.2.2.2.2.2.1
theorem ok91 : VSound Try.prog (91, R91) :=
  vsound (T := ty) (F := F91) (pl := P91) (nw := false) (cuts := []) mix tyOk (.cons ok64 (.cons ok87 .nil)) Try.func91 (by kernel_rfl) (by kernel_rfl) vc4.2.2.2.2.2.1
theorem ok55 : VSound Try.prog (55, R55) :=
  vsound (T := ty) (F := F55) (pl := P55) (nw := false) (cuts := [8, 12, 14, 17]) mix tyOk (.cons ok60 (.cons ok64 (.cons ok66 (.cons ok67 (.cons ok87 (.cons ok88 (.cons ok89 (.cons ok90 (.cons ok91 .nil))))))))) Try.func55 (by kernel_rfl) (by kernel_rfl) vc0
theorem ok59 : VSound Try.prog (59, R59) :=
  vsound (T := ty) (F := F59) (pl := P59) (nw := false) (cuts := []) mix tyOk (.cons ok64 (.cons ok87 .nil)) Try.func59 (by kernel_rfl) (by kernel_rfl) vc3.2.2.2.2.2.2.1
theorem ok80 : VSound Try.prog (80, R80) :=
  vsound (T := ty) (F := F80) (pl := P80) (nw := false) (cuts := []) mix tyOk (.cons ok54 .nil) Try.func80 (by kernel_rfl) (by kernel_rfl) vc4.2.2.2.2.2.2.1
theorem ok73 : VSound Try.prog (73, R73) :=
  vsound (T := ty) (F := F73) (pl := P73) (nw := false) (cuts := []) mix tyOk .nil Try.func73 (by kernel_rfl) (by kernel_rfl) vc3.2.2.2.2.2.2.2.1
theorem ok81 : VSound Try.prog (81, R81) :=
  vsound (T := ty) (F := F81) (pl := P81) (nw := false) (cuts := [5, 10, 17, 24]) mix tyOk (.cons ok55 (.cons ok73 (.cons ok80 (.cons ok93 (.cons ok94 .nil))))) Try.func81 (by kernel_rfl) (by kernel_rfl) vc1
theorem ok41 : VSound Try.prog (41, R41) :=
  vsound (T := ty) (F := F41) (pl := P41) (nw := false) (cuts := []) mix tyOk (.cons ok54 (.cons ok55 (.cons ok59 (.cons ok60 (.cons ok80 (.cons ok81 .nil)))))) Try.func41 (by kernel_rfl) (by kernel_rfl) vc4.2.2.2.2.2.2.2.1
theorem ok13 : VSound Try.prog (13, R13) :=
  vsound (T := ty) (F := F13) (pl := P13) (nw := false) (cuts := []) mix tyOk (.cons ok40 (.cons ok41 .nil)) Try.func13 (by kernel_rfl) (by kernel_rfl) vc3.2.2.2.2.2.2.2.2.1
theorem ok32 : VSound Try.prog (32, R32) :=
  vsound (T := ty) (F := F32) (pl := P32) (nw := false) (cuts := []) mix tyOk (.cons ok40 .nil) Try.func32 (by kernel_rfl) (by kernel_rfl) vc4.2.2.2.2.2.2.2.2.1
theorem ok17 : VSound Try.prog (17, R17) :=
  vsound (T := ty) (F := F17) (pl := P17) (nw := false) (cuts := []) mix tyOk (.cons ok13 (.cons ok32 .nil)) Try.func17 (by kernel_rfl) (by kernel_rfl) vc3.2.2.2.2.2.2.2.2.2.1
theorem ok24 : VSound Try.prog (24, R24) :=
  vsound (T := ty) (F := F24) (pl := P24) (nw := false) (cuts := []) mix tyOk (.cons ok53 (.cons ok63 .nil)) Try.func24 (by kernel_rfl) (by kernel_rfl) vc4.2.2.2.2.2.2.2.2.2.1
theorem ok35 : VSound Try.prog (35, R35) :=
  vsound (T := ty) (F := F35) (pl := P35) (nw := false) (cuts := []) mix tyOk (.cons ok40 (.cons ok54 (.cons ok55 (.cons ok59 (.cons ok60 (.cons ok76 .nil)))))) Try.func35 (by kernel_rfl) (by kernel_rfl) vc3.2.2.2.2.2.2.2.2.2.2.1
theorem ok61 : VSound Try.prog (61, R61) :=
  vsound (T := ty) (F := F61) (pl := P61) (nw := false) (cuts := []) mix tyOk .nil Try.func61 (by kernel_rfl) (by kernel_rfl) vc4.2.2.2.2.2.2.2.2.2.2.1
theorem ok22 : VSound Try.prog (22, R22) :=
  vsound (T := ty) (F := F22) (pl := P22) (nw := false) (cuts := []) mix tyOk (.cons ok40 (.cons ok61 .nil)) Try.func22 (by kernel_rfl) (by kernel_rfl) vc3.2.2.2.2.2.2.2.2.2.2.2.1
theorem ok72 : VSound Try.prog (72, R72) :=
  vsound (T := ty) (F := F72) (pl := P72) (nw := false) (cuts := []) mix tyOk (.cons ok92 .nil) Try.func72 (by kernel_rfl) (by kernel_rfl) vc4.2.2.2.2.2.2.2.2.2.2.2.1
theorem ok78 : VSound Try.prog (78, R78) :=
  vsound (T := ty) (F := F78) (pl := P78) (nw := false) (cuts := []) mix tyOk (.cons ok92 .nil) Try.func78 (by kernel_rfl) (by kernel_rfl) vc2.2.1
theorem ok37 : VSound Try.prog (37, R37) :=
  vsound (T := ty) (F := F37) (pl := P37) (nw := false) (cuts := []) mix tyOk (.cons ok40 (.cons ok54 (.cons ok55 (.cons ok59 (.cons ok60 (.cons ok72 (.cons ok78 .nil))))))) Try.func37 (by kernel_rfl) (by kernel_rfl) vc3.2.2.2.2.2.2.2.2.2.2.2.2
theorem ok39 : VSound Try.prog (39, R39) :=
  vsound (T := ty) (F := F39) (pl := P39) (nw := false) (cuts := []) mix tyOk (.cons ok13 (.cons ok22 (.cons ok37 .nil))) Try.func39 (by kernel_rfl) (by kernel_rfl) vc4.2.2.2.2.2.2.2.2.2.2.2.2
theorem ok12 : VSound Try.prog (12, R12) :=
  vsound (T := ty) (F := F12) (pl := P12) (nw := false) (cuts := []) mix tyOk (.cons ok13 (.cons ok17 (.cons ok24 (.cons ok35 (.cons ok39 .nil))))) Try.func12 (by kernel_rfl) (by kernel_rfl) vc2.2.2
end Go.Proofs.Ytgpnmifejgdipaa.Fx
