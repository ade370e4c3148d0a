/-
  FloatParts: the functions that it reaches, by VX: joined. By the session's own hand.
-/
import Derived.Test.YtgpnmifejgdipaaDoorFgFloatParts1
import Derived.Test.YtgpnmifejgdipaaDoorFgFloatParts2
import Derived.Test.YtgpnmifejgdipaaDoorFgFloatParts3
import Derived.Test.YtgpnmifejgdipaaDoorFgFloatParts4
import Derived.Test.YtgpnmifejgdipaaDoorFgFloatParts5
import Derived.Test.YtgpnmifejgdipaaDoorFgFloatParts6
import Derived.Test.YtgpnmifejgdipaaDoorFgFloatParts7
namespace Go.Proofs.YtgpnmifejgdipaaDoor.Fx
open Go.Proofs.YtgpnmifejgdipaaDoorVX Go.RowKit Go.Proofs.YtgpnmifejgdipaaDoor.My Go.Proofs.YtgpnmifejgdipaaDoorW Go.Proofs.YtgpnmifejgdipaaDoorW.PrintMore
set_option linter.unusedVariables false
set_option linter.unusedSimpArgs false
set_option maxRecDepth 100000
theorem ok31 : VSound Tryd.prog (31, R31) :=
  vsound (T := ty) (F := F31) (pl := P31) (nw := false) (cuts := []) mix tyOk .nil Tryd.func31 (by kernel_rfl) (by kernel_rfl) vc4.1
theorem ok43 : VSound Tryd.prog (43, R43) :=
  vsound (T := ty) (F := F43) (pl := P43) (nw := false) (cuts := []) mix tyOk .nil Tryd.func43 (by kernel_rfl) (by kernel_rfl) vc5.1
theorem ok45 : VSound Tryd.prog (45, R45) :=
  vsound (T := ty) (F := F45) (pl := P45) (nw := false) (cuts := []) mix tyOk .nil Tryd.func45 (by kernel_rfl) (by kernel_rfl) vc6.1
theorem ok44 : VSound Tryd.prog (44, R44) :=
  vsound (T := ty) (F := F44) (pl := P44) (nw := false) (cuts := []) mix tyOk (.cons ok45 .nil) Tryd.func44 (by kernel_rfl) (by kernel_rfl) vc4.2.1
theorem ok32 : VSound Tryd.prog (32, R32) :=
  vsound (T := ty) (F := F32) (pl := P32) (nw := false) (cuts := []) mix tyOk (.cons ok43 (.cons ok44 (.cons ok45 .nil))) Tryd.func32 (by kernel_rfl) (by kernel_rfl) vc5.2.1
theorem ok17 : VSound Tryd.prog (17, R17) :=
  vsound (T := ty) (F := F17) (pl := P17) (nw := false) (cuts := []) mix tyOk (.cons ok31 (.cons ok32 .nil)) Tryd.func17 (by kernel_rfl) (by kernel_rfl) vc6.2.1
theorem ok5 : VSound Tryd.prog (5, R5) :=
  vsound (T := ty) (F := F5) (pl := P5) (nw := false) (cuts := []) mix tyOk (.cons ok17 (.cons ok18 .nil)) Tryd.func5 (by kernel_rfl) (by kernel_rfl) vc4.2.2.1
theorem ok19 : VSound Tryd.prog (19, R19) :=
  vsound (T := ty) (F := F19) (pl := P19) (nw := false) (cuts := []) mix tyOk .nil Tryd.func19 (by kernel_rfl) (by kernel_rfl) vc5.2.2.1
theorem ok29 : VSound Tryd.prog (29, R29) :=
  vsound (T := ty) (F := F29) (pl := P29) (nw := false) (cuts := []) mix tyOk .nil Tryd.func29 (by kernel_rfl) (by kernel_rfl) vc6.2.2.1
theorem ok37 : VSound Tryd.prog (37, R37) :=
  vsound (T := ty) (F := F37) (pl := P37) (nw := false) (cuts := []) mix tyOk .nil Tryd.func37 (by kernel_rfl) (by kernel_rfl) vc3.1
theorem ok39 : VSound Tryd.prog (39, R39) :=
  vsound (T := ty) (F := F39) (pl := P39) (nw := false) (cuts := []) mix tyOk .nil Tryd.func39 (by kernel_rfl) (by kernel_rfl) vc4.2.2.2.1
theorem ok38 : VSound Tryd.prog (38, R38) :=
  vsound (T := ty) (F := F38) (pl := P38) (nw := false) (cuts := []) mix tyOk (.cons ok29 (.cons ok39 .nil)) Tryd.func38 (by kernel_rfl) (by kernel_rfl) vc5.2.2.2.1
theorem ok20 : VSound Tryd.prog (20, R20) :=
  vsound (T := ty) (F := F20) (pl := P20) (nw := false) (cuts := []) mix tyOk (.cons ok29 (.cons ok37 (.cons ok38 (.cons ok39 .nil)))) Tryd.func20 (by kernel_rfl) (by kernel_rfl) vc6.2.2.2.1
theorem ok21 : VSound Tryd.prog (21, R21) :=
  vsound (T := ty) (F := F21) (pl := P21) (nw := false) (cuts := []) mix tyOk .nil Tryd.func21 (by kernel_rfl) (by kernel_rfl) vc3.2.1
theorem ok22 : VSound Tryd.prog (22, R22) :=
  vsound (T := ty) (F := F22) (pl := P22) (nw := false) (cuts := []) mix tyOk .nil Tryd.func22 (by kernel_rfl) (by kernel_rfl) vc4.2.2.2.2.1
theorem ok6 : VSound Tryd.prog (6, R6) :=
  vsound (T := ty) (F := F6) (pl := P6) (nw := false) (cuts := []) mix tyOk (.cons ok19 (.cons ok20 (.cons ok21 (.cons ok22 .nil)))) Tryd.func6 (by kernel_rfl) (by kernel_rfl) vc3.2.2.1
theorem ok46 : VSound Tryd.prog (46, R46) :=
  vsound (T := ty) (F := F46) (pl := P46) (nw := false) (cuts := []) mix tyOk .nil Tryd.func46 (by kernel_rfl) (by kernel_rfl) vc5.2.2.2.2.1
theorem ok35 : VSound Tryd.prog (35, R35) :=
  vsound (T := ty) (F := F35) (pl := P35) (nw := false) (cuts := []) mix tyOk (.cons ok43 (.cons ok46 .nil)) Tryd.func35 (by kernel_rfl) (by kernel_rfl) vc6.2.2.2.2.1
theorem ok23 : VSound Tryd.prog (23, R23) :=
  vsound (T := ty) (F := F23) (pl := P23) (nw := false) (cuts := []) mix tyOk (.cons ok17 (.cons ok35 (.cons ok24 (.cons ok26 .nil)))) Tryd.func23 (by kernel_rfl) (by kernel_rfl) vc0
theorem ok7 : VSound Tryd.prog (7, R7) :=
  vsound (T := ty) (F := F7) (pl := P7) (nw := false) (cuts := []) mix tyOk (.cons ok23 .nil) Tryd.func7 (by kernel_rfl) (by kernel_rfl) vc4.2.2.2.2.2.1
theorem ok40 : VSound Tryd.prog (40, R40) :=
  vsound (T := ty) (F := F40) (pl := P40) (nw := false) (cuts := []) mix tyOk (.cons ok29 .nil) Tryd.func40 (by kernel_rfl) (by kernel_rfl) vc5.2.2.2.2.2.1
theorem ok41 : VSound Tryd.prog (41, R41) :=
  vsound (T := ty) (F := F41) (pl := P41) (nw := false) (cuts := []) mix tyOk (.cons ok29 .nil) Tryd.func41 (by kernel_rfl) (by kernel_rfl) vc6.2.2.2.2.2.1
theorem ok27 : VSound Tryd.prog (27, R27) :=
  vsound (T := ty) (F := F27) (pl := P27) (nw := false) (cuts := []) mix tyOk (.cons ok29 (.cons ok40 (.cons ok41 .nil))) Tryd.func27 (by kernel_rfl) (by kernel_rfl) vc4.2.2.2.2.2.2.1
theorem ok25 : VSound Tryd.prog (25, R25) :=
  vsound (T := ty) (F := F25) (pl := P25) (nw := false) (cuts := []) mix tyOk (.cons ok20 (.cons ok27 .nil)) Tryd.func25 (by kernel_rfl) (by kernel_rfl) vc5.2.2.2.2.2.2.1
theorem ok8 : VSound Tryd.prog (8, R8) :=
  vsound (T := ty) (F := F8) (pl := P8) (nw := false) (cuts := []) mix tyOk (.cons ok19 (.cons ok25 .nil)) Tryd.func8 (by kernel_rfl) (by kernel_rfl) vc6.2.2.2.2.2.2.1
theorem ok9 : VSound Tryd.prog (9, R9) :=
  vsound (T := ty) (F := F9) (pl := P9) (nw := false) (cuts := []) mix tyOk (.cons ok23 .nil) Tryd.func9 (by kernel_rfl) (by kernel_rfl) vc4.2.2.2.2.2.2.2.1
theorem ok28 : VSound Tryd.prog (28, R28) :=
  vsound (T := ty) (F := F28) (pl := P28) (nw := false) (cuts := []) mix tyOk .nil Tryd.func28 (by kernel_rfl) (by kernel_rfl) vc5.2.2.2.2.2.2.2.1
theorem ok10 : VSound Tryd.prog (10, R10) :=
  vsound (T := ty) (F := F10) (pl := P10) (nw := false) (cuts := []) mix tyOk (.cons ok19 (.cons ok20 (.cons ok27 (.cons ok28 .nil)))) Tryd.func10 (by kernel_rfl) (by kernel_rfl) vc6.2.2.2.2.2.2.2.1
theorem ok11 : VSound Tryd.prog (11, R11) :=
  vsound (T := ty) (F := F11) (pl := P11) (nw := false) (cuts := []) mix tyOk (.cons ok17 .nil) Tryd.func11 (by kernel_rfl) (by kernel_rfl) vc4.2.2.2.2.2.2.2.2.1
theorem ok12 : VSound Tryd.prog (12, R12) :=
  vsound (T := ty) (F := F12) (pl := P12) (nw := false) (cuts := []) mix tyOk (.cons ok19 (.cons ok20 (.cons ok28 (.cons ok29 .nil)))) Tryd.func12 (by kernel_rfl) (by kernel_rfl) vc5.2.2.2.2.2.2.2.2.1
theorem ok33 : VSound Tryd.prog (33, R33) :=
  vsound (T := ty) (F := F33) (pl := P33) (nw := false) (cuts := []) mix tyOk (.cons ok46 .nil) Tryd.func33 (by kernel_rfl) (by kernel_rfl) vc6.2.2.2.2.2.2.2.2.1
theorem ok36 : VSound Tryd.prog (36, R36) :=
  vsound (T := ty) (F := F36) (pl := P36) (nw := false) (cuts := []) mix tyOk (.cons ok43 (.cons ok46 .nil)) Tryd.func36 (by kernel_rfl) (by kernel_rfl) vc4.2.2.2.2.2.2.2.2.2.1
theorem ok47 : VSound Tryd.prog (47, R47) :=
  vsound (T := ty) (F := F47) (pl := P47) (nw := false) (cuts := []) mix tyOk (.cons ok53 .nil) Tryd.func47 (by kernel_rfl) (by kernel_rfl) vc5.2.2.2.2.2.2.2.2.2.1
theorem ok48 : VSound Tryd.prog (48, R48) :=
  vsound (T := ty) (F := F48) (pl := P48) (nw := false) (cuts := []) mix tyOk .nil Tryd.func48 (by kernel_rfl) (by kernel_rfl) vc3.2.2.2
theorem ok49 : VSound Tryd.prog (49, R49) :=
  vsound (T := ty) (F := F49) (pl := P49) (nw := false) (cuts := []) mix tyOk .nil Tryd.func49 (by kernel_rfl) (by kernel_rfl) vc6.2.2.2.2.2.2.2.2.2.1
theorem ok50 : VSound Tryd.prog (50, R50) :=
  vsound (T := ty) (F := F50) (pl := P50) (nw := false) (cuts := []) mix tyOk (.cons ok43 (.cons ok46 .nil)) Tryd.func50 (by kernel_rfl) (by kernel_rfl) vc4.2.2.2.2.2.2.2.2.2.2.1
theorem ok34 : VSound Tryd.prog (34, R34) :=
  vsound (T := ty) (F := F34) (pl := P34) (nw := false) (cuts := [8, 12, 14, 17]) mix tyOk (.cons ok36 (.cons ok43 (.cons ok44 (.cons ok45 (.cons ok46 (.cons ok47 (.cons ok48 (.cons ok49 (.cons ok50 .nil))))))))) Tryd.func34 (by kernel_rfl) (by kernel_rfl) vc1
theorem ok51 : VSound Tryd.prog (51, R51) :=
  vsound (T := ty) (F := F51) (pl := P51) (nw := false) (cuts := []) mix tyOk (.cons ok33 .nil) Tryd.func51 (by kernel_rfl) (by kernel_rfl) vc5.2.2.2.2.2.2.2.2.2.2.1
theorem ok54 : VSound Tryd.prog (54, R54) :=
  vsound (T := ty) (F := F54) (pl := P54) (nw := false) (cuts := []) mix tyOk .nil Tryd.func54 (by kernel_rfl) (by kernel_rfl) vc6.2.2.2.2.2.2.2.2.2.2.1
theorem ok52 : VSound Tryd.prog (52, R52) :=
  vsound (T := ty) (F := F52) (pl := P52) (nw := false) (cuts := [5, 10, 17, 24]) mix tyOk (.cons ok34 (.cons ok51 (.cons ok54 (.cons ok55 (.cons ok56 .nil))))) Tryd.func52 (by kernel_rfl) (by kernel_rfl) vc2
theorem ok42 : VSound Tryd.prog (42, R42) :=
  vsound (T := ty) (F := F42) (pl := P42) (nw := false) (cuts := []) mix tyOk (.cons ok33 (.cons ok34 (.cons ok35 (.cons ok36 (.cons ok51 (.cons ok52 .nil)))))) Tryd.func42 (by kernel_rfl) (by kernel_rfl) vc4.2.2.2.2.2.2.2.2.2.2.2.1
theorem ok30 : VSound Tryd.prog (30, R30) :=
  vsound (T := ty) (F := F30) (pl := P30) (nw := false) (cuts := []) mix tyOk (.cons ok17 (.cons ok42 .nil)) Tryd.func30 (by kernel_rfl) (by kernel_rfl) vc5.2.2.2.2.2.2.2.2.2.2.2
theorem ok13 : VSound Tryd.prog (13, R13) :=
  vsound (T := ty) (F := F13) (pl := P13) (nw := false) (cuts := []) mix tyOk (.cons ok11 (.cons ok30 .nil)) Tryd.func13 (by kernel_rfl) (by kernel_rfl) vc6.2.2.2.2.2.2.2.2.2.2.2
theorem ok3 : VSound Tryd.prog (3, R3) :=
  vsound (T := ty) (F := F3) (pl := P3) (nw := false) (cuts := []) mix tyOk (.cons ok5 (.cons ok6 (.cons ok7 (.cons ok8 (.cons ok9 (.cons ok10 (.cons ok11 (.cons ok12 (.cons ok13 .nil))))))))) Tryd.func3 (by kernel_rfl) (by kernel_rfl) vc4.2.2.2.2.2.2.2.2.2.2.2.2
end Go.Proofs.YtgpnmifejgdipaaDoor.Fx
