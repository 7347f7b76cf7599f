/- What the functions compute: equations, by the kernel. -/
import Derived.Test.YtnhbfjegcaflcaaQ2
import Derived.KernelRfl
namespace Go.Proofs.Ytnhbfjegcaflcaa
open Go Go.Proofs.Ytnhbfjegcaflcaa.R
set_option linter.unusedVariables false
set_option maxRecDepth 100000
noncomputable section
def spiritlevelref19_Fits (l0 : List (List Int)) (values1 : List Bool) : Option (Bool) := DF E 36 [(.d (.list (.list (.int .i64))) l0), (.d (.list .bool) values1)] [(.d .bool)]
def spiritlevelref19_Fits.l0 (l0 : List (List Int)) (values1 : List Bool) (i5 : Int) : Option (Bool) := DM E [(.d .bool)] [.loopAt (sub b36 [1, 0, 1, 0, 0]), .inBlock 0, .code (sub b36 [1, 1])] ({ f := 36, sl := [(.d (.list (.list (.int .i64))) l0), (.d (.list .bool) values1), .any, .any, .any, (.d (.int .i64) i5), .any, .any, .any, .any, .any, .any, .any, .any, .any, .any, .any, .any, .any], ob := [] })
theorem spiritlevelref19_Fits.eq (l0 : List (List Int)) (values1 : List Bool) : spiritlevelref19_Fits l0 values1 = spiritlevelref19_Fits.l0 l0 values1 (0 : Int) :=
  (D_eq 2000 36 _ _).trans (by kernel_rfl)
theorem spiritlevelref19_Fits.l0_eq (l0 : List (List Int)) (values1 : List Bool) (i5 : Int) : spiritlevelref19_Fits.l0 l0 values1 i5 = bif (decide (i5 < (List.length l0 : Int))) then ((geti l0 i5).bind fun x1_ => (spiritlevelref13_Holds x1_ values1).bind fun r2_ => bif (!r2_) then (some false) else (spiritlevelref19_Fits.l0 l0 values1 (IntKind.wrap .i64 (i5 + (1 : Int))))) else (some true) :=
  (DM_loop 2000 _ _ _ _).trans (by kernel_rfl)
def spiritlevelref19_Least (vars0 : Int) (l1 : List (List Int)) : Option (List Bool × Bool) := DF E 18 [(.d (.int .i64) vars0), (.d (.list (.list (.int .i64))) l1)] [(.own .bool), (.d .bool)]
def spiritlevelref19_Least.l0 (vars0 : Int) (l1 : List (List Int)) (n6 : Int) : Option (List Bool × Bool) := DM E [(.own .bool), (.d .bool)] [.loopAt (sub b18 [1, 0, 1, 0, 0]), .inBlock 0, .code (sub b18 [1, 1])] ({ f := 18, sl := [(.d (.int .i64) vars0), (.d (.list (.list (.int .i64))) l1), .any, .any, .any, .any, (.d (.int .i64) n6), .any, .any, .any, .any, .any, .any, .any, .any, .any, .any, .any, .any, .any, .any, .any], ob := [] })
theorem spiritlevelref19_Least.eq (vars0 : Int) (l1 : List (List Int)) : spiritlevelref19_Least vars0 l1 = spiritlevelref19_Least.l0 vars0 l1 (0 : Int) :=
  (D_eq 2000 18 _ _).trans (by kernel_rfl)
theorem spiritlevelref19_Least.l0_eq (vars0 : Int) (l1 : List (List Int)) (n6 : Int) : spiritlevelref19_Least.l0 vars0 l1 n6 = bif decide ((IntKind.wrap .u64 vars0) < 0) then (none) else (bif (decide (n6 < (bshl .i64 (1 : Int) (IntKind.wrap .u64 vars0)))) then ((spiritlevelref13_Values vars0 n6).bind fun r1_ => (spiritlevelref19_Fits l1 r1_).bind fun r2_ => bif r2_ then (some (r1_, true)) else (spiritlevelref19_Least.l0 vars0 l1 (IntKind.wrap .i64 (n6 + (1 : Int))))) else (some (([] : List Bool), false))) :=
  (DM_loop 2000 _ _ _ _).trans (by kernel_rfl)
def spiritlevellaw19_SolveLeast (vars0 : Int) (l1 : List (List Int)) : Option (Bool) := DF E 8 [(.d (.int .i64) vars0), (.d (.list (.list (.int .i64))) l1)] [(.d .bool)]
theorem spiritlevellaw19_SolveLeast.eq (vars0 : Int) (l1 : List (List Int)) : spiritlevellaw19_SolveLeast vars0 l1 = (spiritlevellaw19_alive).bind fun r1_ => (spiritlevellaw19_fit vars0 l1).bind fun r2_ => bif (!r2_) then (some r1_) else (bif (!r1_) then (some r1_) else ((solve_Run vars0 l1 (5000 : Int)).bind fun r3_ => (spiritlevelref19_Least vars0 l1).bind fun r4_ => bif (r3_.2 != (0 : Int)) then (some false) else (bif (!(r3_.1.1 == r4_.2)) then (some false) else (bif ((List.length r3_.1.2.2.1 : Int) != (0 : Int)) then (some false) else (bif (!r4_.2) then (bif r1_ then (some ((List.length r3_.1.2.1 : Int) == (0 : Int))) else (some false)) else ((solve_Model vars0 l1 r3_.1.2.1).bind fun r5_ => bif r1_ then (bif (r5_.2 == (0 : Int)) then (bif r5_.1 then ((spiritlevelref19_SameValues r3_.1.2.1 r4_.1).bind fun r6_ => some r6_) else (some false)) else (some false)) else (some false))))))) :=
  (D_eq 2000 8 _ _).trans (by kernel_rfl)

end
end Go.Proofs.Ytnhbfjegcaflcaa
