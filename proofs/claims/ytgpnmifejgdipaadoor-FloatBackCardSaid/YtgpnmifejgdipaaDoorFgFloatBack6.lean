/-
  FloatBack: the functions that it reaches, by VX: joined. By the session's own hand.
-/
import Derived.Test.YtgpnmifejgdipaaDoorFgFloatBack1
import Derived.Test.YtgpnmifejgdipaaDoorFgFloatBack2
import Derived.Test.YtgpnmifejgdipaaDoorFgFloatBack3
import Derived.Test.YtgpnmifejgdipaaDoorFgFloatBack4
import Derived.Test.YtgpnmifejgdipaaDoorFgFloatBack5
namespace Go.Proofs.YtgpnmifejgdipaaDoor.Fx
open Go.Proofs.YtgpnmifejgdipaaDoorVX Go.RowKit Go.Proofs.YtgpnmifejgdipaaDoor.My Go.Proofs.YtgpnmifejgdipaaDoorW Go.Proofs.YtgpnmifejgdipaaDoorW.PrintMore
set_option linter.unusedVariables false
set_option linter.unusedSimpArgs false
set_option maxRecDepth 100000
theorem ok31 : VSound Tryd.prog (31, R31) :=
  vsound (T := ty) (F := F31) (pl := P31) (nw := false) (cuts := []) mix tyOk .nil Tryd.func31 (by kernel_rfl) (by kernel_rfl) vc3.1
theorem ok43 : VSound Tryd.prog (43, R43) :=
  vsound (T := ty) (F := F43) (pl := P43) (nw := false) (cuts := []) mix tyOk .nil Tryd.func43 (by kernel_rfl) (by kernel_rfl) vc4.1
theorem ok45 : VSound Tryd.prog (45, R45) :=
  vsound (T := ty) (F := F45) (pl := P45) (nw := false) (cuts := []) mix tyOk .nil Tryd.func45 (by kernel_rfl) (by kernel_rfl) vc3.2.1
theorem ok44 : VSound Tryd.prog (44, R44) :=
  vsound (T := ty) (F := F44) (pl := P44) (nw := false) (cuts := []) mix tyOk (.cons ok45 .nil) Tryd.func44 (by kernel_rfl) (by kernel_rfl) vc4.2.1
theorem ok32 : VSound Tryd.prog (32, R32) :=
  vsound (T := ty) (F := F32) (pl := P32) (nw := false) (cuts := []) mix tyOk (.cons ok43 (.cons ok44 (.cons ok45 .nil))) Tryd.func32 (by kernel_rfl) (by kernel_rfl) vc3.2.2.1
theorem ok17 : VSound Tryd.prog (17, R17) :=
  vsound (T := ty) (F := F17) (pl := P17) (nw := false) (cuts := []) mix tyOk (.cons ok31 (.cons ok32 .nil)) Tryd.func17 (by kernel_rfl) (by kernel_rfl) vc4.2.2.1
theorem ok5 : VSound Tryd.prog (5, R5) :=
  vsound (T := ty) (F := F5) (pl := P5) (nw := false) (cuts := []) mix tyOk (.cons ok17 (.cons ok18 .nil)) Tryd.func5 (by kernel_rfl) (by kernel_rfl) vc3.2.2.2.1
theorem ok11 : VSound Tryd.prog (11, R11) :=
  vsound (T := ty) (F := F11) (pl := P11) (nw := false) (cuts := []) mix tyOk (.cons ok17 .nil) Tryd.func11 (by kernel_rfl) (by kernel_rfl) vc4.2.2.2.1
theorem ok46 : VSound Tryd.prog (46, R46) :=
  vsound (T := ty) (F := F46) (pl := P46) (nw := false) (cuts := []) mix tyOk .nil Tryd.func46 (by kernel_rfl) (by kernel_rfl) vc3.2.2.2.2.1
theorem ok33 : VSound Tryd.prog (33, R33) :=
  vsound (T := ty) (F := F33) (pl := P33) (nw := false) (cuts := []) mix tyOk (.cons ok46 .nil) Tryd.func33 (by kernel_rfl) (by kernel_rfl) vc4.2.2.2.2.1
theorem ok36 : VSound Tryd.prog (36, R36) :=
  vsound (T := ty) (F := F36) (pl := P36) (nw := false) (cuts := []) mix tyOk (.cons ok43 (.cons ok46 .nil)) Tryd.func36 (by kernel_rfl) (by kernel_rfl) vc3.2.2.2.2.2.1
theorem ok47 : VSound Tryd.prog (47, R47) :=
  vsound (T := ty) (F := F47) (pl := P47) (nw := false) (cuts := []) mix tyOk (.cons ok53 .nil) Tryd.func47 (by kernel_rfl) (by kernel_rfl) vc4.2.2.2.2.2.1
theorem ok48 : VSound Tryd.prog (48, R48) :=
  vsound (T := ty) (F := F48) (pl := P48) (nw := false) (cuts := []) mix tyOk .nil Tryd.func48 (by kernel_rfl) (by kernel_rfl) vc2.1
theorem ok49 : VSound Tryd.prog (49, R49) :=
  vsound (T := ty) (F := F49) (pl := P49) (nw := false) (cuts := []) mix tyOk .nil Tryd.func49 (by kernel_rfl) (by kernel_rfl) vc3.2.2.2.2.2.2.1
theorem ok50 : VSound Tryd.prog (50, R50) :=
  vsound (T := ty) (F := F50) (pl := P50) (nw := false) (cuts := []) mix tyOk (.cons ok43 (.cons ok46 .nil)) Tryd.func50 (by kernel_rfl) (by kernel_rfl) vc4.2.2.2.2.2.2.1
theorem ok34 : VSound Tryd.prog (34, R34) :=
  vsound (T := ty) (F := F34) (pl := P34) (nw := false) (cuts := [8, 12, 14, 17]) mix tyOk (.cons ok36 (.cons ok43 (.cons ok44 (.cons ok45 (.cons ok46 (.cons ok47 (.cons ok48 (.cons ok49 (.cons ok50 .nil))))))))) Tryd.func34 (by kernel_rfl) (by kernel_rfl) vc0
theorem ok35 : VSound Tryd.prog (35, R35) :=
  vsound (T := ty) (F := F35) (pl := P35) (nw := false) (cuts := []) mix tyOk (.cons ok43 (.cons ok46 .nil)) Tryd.func35 (by kernel_rfl) (by kernel_rfl) vc3.2.2.2.2.2.2.2.1
theorem ok51 : VSound Tryd.prog (51, R51) :=
  vsound (T := ty) (F := F51) (pl := P51) (nw := false) (cuts := []) mix tyOk (.cons ok33 .nil) Tryd.func51 (by kernel_rfl) (by kernel_rfl) vc4.2.2.2.2.2.2.2.1
theorem ok54 : VSound Tryd.prog (54, R54) :=
  vsound (T := ty) (F := F54) (pl := P54) (nw := false) (cuts := []) mix tyOk .nil Tryd.func54 (by kernel_rfl) (by kernel_rfl) vc3.2.2.2.2.2.2.2.2.1
theorem ok52 : VSound Tryd.prog (52, R52) :=
  vsound (T := ty) (F := F52) (pl := P52) (nw := false) (cuts := [5, 10, 17, 24]) mix tyOk (.cons ok34 (.cons ok51 (.cons ok54 (.cons ok55 (.cons ok56 .nil))))) Tryd.func52 (by kernel_rfl) (by kernel_rfl) vc1
theorem ok42 : VSound Tryd.prog (42, R42) :=
  vsound (T := ty) (F := F42) (pl := P42) (nw := false) (cuts := []) mix tyOk (.cons ok33 (.cons ok34 (.cons ok35 (.cons ok36 (.cons ok51 (.cons ok52 .nil)))))) Tryd.func42 (by kernel_rfl) (by kernel_rfl) vc4.2.2.2.2.2.2.2.2.1
theorem ok30 : VSound Tryd.prog (30, R30) :=
  vsound (T := ty) (F := F30) (pl := P30) (nw := false) (cuts := []) mix tyOk (.cons ok17 (.cons ok42 .nil)) Tryd.func30 (by kernel_rfl) (by kernel_rfl) vc3.2.2.2.2.2.2.2.2.2.1
theorem ok13 : VSound Tryd.prog (13, R13) :=
  vsound (T := ty) (F := F13) (pl := P13) (nw := false) (cuts := []) mix tyOk (.cons ok11 (.cons ok30 .nil)) Tryd.func13 (by kernel_rfl) (by kernel_rfl) vc4.2.2.2.2.2.2.2.2.2.1
theorem ok14 : VSound Tryd.prog (14, R14) :=
  vsound (T := ty) (F := F14) (pl := P14) (nw := false) (cuts := []) mix tyOk (.cons ok31 (.cons ok32 .nil)) Tryd.func14 (by kernel_rfl) (by kernel_rfl) vc3.2.2.2.2.2.2.2.2.2.2.1
theorem ok15 : VSound Tryd.prog (15, R15) :=
  vsound (T := ty) (F := F15) (pl := P15) (nw := false) (cuts := []) mix tyOk (.cons ok31 (.cons ok33 (.cons ok34 .nil))) Tryd.func15 (by kernel_rfl) (by kernel_rfl) vc4.2.2.2.2.2.2.2.2.2.2
theorem ok16 : VSound Tryd.prog (16, R16) :=
  vsound (T := ty) (F := F16) (pl := P16) (nw := false) (cuts := []) mix tyOk (.cons ok17 (.cons ok31 (.cons ok33 (.cons ok34 (.cons ok35 (.cons ok36 .nil)))))) Tryd.func16 (by kernel_rfl) (by kernel_rfl) vc3.2.2.2.2.2.2.2.2.2.2.2
theorem ok4 : VSound Tryd.prog (4, R4) :=
  vsound (T := ty) (F := F4) (pl := P4) (nw := false) (cuts := []) mix tyOk (.cons ok5 (.cons ok11 (.cons ok13 (.cons ok14 (.cons ok15 (.cons ok16 .nil)))))) Tryd.func4 (by kernel_rfl) (by kernel_rfl) vc2.2
end Go.Proofs.YtgpnmifejgdipaaDoor.Fx
