/- What the functions compute: equations, by the kernel. -/
import Derived.Test.YtnhbfjegcaflcaaQ3
import Derived.KernelRfl
namespace Go.Proofs.Ytnhbfjegcaflcaa
open Go Go.Proofs.Ytnhbfjegcaflcaa.R
set_option linter.unusedVariables false
set_option maxRecDepth 100000
noncomputable section
def spiritlevelref13_Values (vars0 : Int) (number1 : Int) : Option (List Bool) := DF E 35 [(.d (.int .i64) vars0), (.d (.int .i64) number1)] [(.own .bool)]
def spiritlevelref13_Values.l0 (number1 : Int) (i6 : Int) (o0 : List Bool) : Option (List Bool) := DM E [(.own .bool)] [.loopAt (sub b35 [1, 1, 0, 1, 0, 0]), .inBlock 0, .code (sub b35 [1, 1, 1])] ({ f := 35, sl := [.any, (.d (.int .i64) number1), .any, .any, .any, (.ow 0), (.d (.int .i64) i6), .any, .any, .any, .any, .any, .any, .any, .any, .any, .any, .any, .any, .any, .any, .any, .any, .any], ob := [(0, (.row .bool o0))] })
theorem spiritlevelref13_Values.eq (vars0 : Int) (number1 : Int) : spiritlevelref13_Values vars0 number1 = (mkl vars0 false).bind fun l1_ => if vars0 = vars0 then (spiritlevelref13_Values.l0 number1 (IntKind.wrap .i64 (vars0 - (1 : Int))) l1_) else none :=
  (D_eq 2000 35 _ _).trans (by kernel_rfl)
theorem spiritlevelref13_Values.l0_eq (number1 : Int) (i6 : Int) (o0 : List Bool) : spiritlevelref13_Values.l0 number1 i6 o0 = bif (decide (i6 ≥ (0 : Int))) then ((geti o0 i6).bind fun _ => (o0[(Int.toNat i6)]?).bind fun _ => spiritlevelref13_Values.l0 (IntKind.wrap .i64 (Int.tdiv number1 (2 : Int))) (IntKind.wrap .i64 (i6 - (1 : Int))) (List.set o0 (Int.toNat i6) ((Int.tmod number1 (2 : Int)) == (1 : Int)))) else (some o0) :=
  (DM_loop 2000 _ _ _ _).trans (by kernel_rfl)
def spiritlevelref13_Truth (l0 : Int) (values1 : List Bool) : Option (Bool) := DF E 61 [(.d (.int .i64) l0), (.d (.list .bool) values1)] [(.d .bool)]
theorem spiritlevelref13_Truth.eq (l0 : Int) (values1 : List Bool) : spiritlevelref13_Truth l0 values1 = bif ((Int.tmod l0 (2 : Int)) == (1 : Int)) then ((geti values1 (IntKind.wrap .i64 ((IntKind.wrap .i64 (Int.tdiv l0 (2 : Int))) - (1 : Int)))).bind fun x1_ => some (!x1_)) else ((geti values1 (IntKind.wrap .i64 ((IntKind.wrap .i64 (Int.tdiv l0 (2 : Int))) - (1 : Int)))).bind fun x2_ => some x2_) :=
  (D_eq 2000 61 _ _).trans (by kernel_rfl)
def spiritlevelref13_Holds (c0 : List Int) (values1 : List Bool) : Option (Bool) := DF E 48 [(.d (.list (.int .i64)) c0), (.d (.list .bool) values1)] [(.d .bool)]
def spiritlevelref13_Holds.l0 (c0 : List Int) (values1 : List Bool) (i5 : Int) : Option (Bool) := DM E [(.d .bool)] [.loopAt (sub b48 [1, 0, 1, 0, 0]), .inBlock 0, .code (sub b48 [1, 1])] ({ f := 48, sl := [(.d (.list (.int .i64)) c0), (.d (.list .bool) values1), .any, .any, .any, (.d (.int .i64) i5), .any, .any, .any, .any, .any, .any, .any, .any, .any, .any, .any, .any], ob := [] })
theorem spiritlevelref13_Holds.eq (c0 : List Int) (values1 : List Bool) : spiritlevelref13_Holds c0 values1 = spiritlevelref13_Holds.l0 c0 values1 (0 : Int) :=
  (D_eq 2000 48 _ _).trans (by kernel_rfl)
theorem spiritlevelref13_Holds.l0_eq (c0 : List Int) (values1 : List Bool) (i5 : Int) : spiritlevelref13_Holds.l0 c0 values1 i5 = bif (decide (i5 < (List.length c0 : Int))) then ((geti c0 i5).bind fun x1_ => (spiritlevelref13_Truth x1_ values1).bind fun r2_ => bif r2_ then (some true) else (spiritlevelref13_Holds.l0 c0 values1 (IntKind.wrap .i64 (i5 + (1 : Int))))) else (some false) :=
  (DM_loop 2000 _ _ _ _).trans (by kernel_rfl)
def spiritlevelref19_Fits (l0 : List (List Int)) (values1 : List Bool) : Option (Bool) := DF E 36 [(.d (.list (.list (.int .i64))) l0), (.d (.list .bool) values1)] [(.d .bool)]
def spiritlevelref19_Fits.l0 (l0 : List (List Int)) (values1 : List Bool) (i5 : Int) : Option (Bool) := DM E [(.d .bool)] [.loopAt (sub b36 [1, 0, 1, 0, 0]), .inBlock 0, .code (sub b36 [1, 1])] ({ f := 36, sl := [(.d (.list (.list (.int .i64))) l0), (.d (.list .bool) values1), .any, .any, .any, (.d (.int .i64) i5), .any, .any, .any, .any, .any, .any, .any, .any, .any, .any, .any, .any, .any], ob := [] })
theorem spiritlevelref19_Fits.eq (l0 : List (List Int)) (values1 : List Bool) : spiritlevelref19_Fits l0 values1 = spiritlevelref19_Fits.l0 l0 values1 (0 : Int) :=
  (D_eq 2000 36 _ _).trans (by kernel_rfl)
theorem spiritlevelref19_Fits.l0_eq (l0 : List (List Int)) (values1 : List Bool) (i5 : Int) : spiritlevelref19_Fits.l0 l0 values1 i5 = bif (decide (i5 < (List.length l0 : Int))) then ((geti l0 i5).bind fun x1_ => (spiritlevelref13_Holds x1_ values1).bind fun r2_ => bif (!r2_) then (some false) else (spiritlevelref19_Fits.l0 l0 values1 (IntKind.wrap .i64 (i5 + (1 : Int))))) else (some true) :=
  (DM_loop 2000 _ _ _ _).trans (by kernel_rfl)
def spiritlevelref19_Least (vars0 : Int) (l1 : List (List Int)) : Option (List Bool × Bool) := DF E 18 [(.d (.int .i64) vars0), (.d (.list (.list (.int .i64))) l1)] [(.own .bool), (.d .bool)]
def spiritlevelref19_Least.l0 (vars0 : Int) (l1 : List (List Int)) (n6 : Int) : Option (List Bool × Bool) := DM E [(.own .bool), (.d .bool)] [.loopAt (sub b18 [1, 0, 1, 0, 0]), .inBlock 0, .code (sub b18 [1, 1])] ({ f := 18, sl := [(.d (.int .i64) vars0), (.d (.list (.list (.int .i64))) l1), .any, .any, .any, .any, (.d (.int .i64) n6), .any, .any, .any, .any, .any, .any, .any, .any, .any, .any, .any, .any, .any, .any, .any], ob := [] })
theorem spiritlevelref19_Least.eq (vars0 : Int) (l1 : List (List Int)) : spiritlevelref19_Least vars0 l1 = spiritlevelref19_Least.l0 vars0 l1 (0 : Int) :=
  (D_eq 2000 18 _ _).trans (by kernel_rfl)
theorem spiritlevelref19_Least.l0_eq (vars0 : Int) (l1 : List (List Int)) (n6 : Int) : spiritlevelref19_Least.l0 vars0 l1 n6 = bif decide ((IntKind.wrap .u64 vars0) < 0) then (none) else (bif (decide (n6 < (bshl .i64 (1 : Int) (IntKind.wrap .u64 vars0)))) then ((spiritlevelref13_Values vars0 n6).bind fun r1_ => (spiritlevelref19_Fits l1 r1_).bind fun r2_ => bif r2_ then (some (r1_, true)) else (spiritlevelref19_Least.l0 vars0 l1 (IntKind.wrap .i64 (n6 + (1 : Int))))) else (some (([] : List Bool), false))) :=
  (DM_loop 2000 _ _ _ _).trans (by kernel_rfl)

end
end Go.Proofs.Ytnhbfjegcaflcaa
