/- What the functions compute: equations, by the kernel. -/
import Derived.Test.YtfjpfjnepdhnaaaGreatQ3
import Derived.KernelRfl
namespace Go.Proofs.YtfjpfjnepdhnaaaGreat
open Go Go.Proofs.YtfjpfjnepdhnaaaGreat.R
open Go.IntKind (wrap)
set_option linter.unusedVariables false
set_option linter.unusedSimpArgs false
set_option maxRecDepth 100000
noncomputable section
def bAb (a0 b1:Ll):Option Bool:=DF E 17 [(.d mT a0),(.d mT b1)] [sB]
def bAb.l0 (a0 b1:Ll) (i5:Int):Option Bool:=DM E [sB] [.loopAt (sub b17 [1,1,0,1,0,0]),.inBlock 0,.code (sub b17 [1,1,1])] ({ f:=17,sl:=[(.d mT a0),(.d mT b1),.any,.any,.any,dI i5]++anyN 21,ob:=[] })
theorem bAb.eq (a0 b1):bAb a0 b1=bif ((List.length a0:Int) != (List.length b1:Int)) then (some false) else (bAb.l0 a0 b1 (0:Int)):=
 (D_eq 2000 17 _ _).trans (by kernel_rfl)
theorem bAb.l0_eq (a0 b1 i5):bAb.l0 a0 b1 i5=bif (decide (i5<(List.length a0:Int))) then ((geti a0 i5).bind fun x1_=>(geti b1 i5).bind fun x2_=>(bAh x1_ x2_).bind fun r3_=>bif (!r3_) then (some false) else (bAb.l0 a0 b1 (wrap .i64 (i5+(1:Int))))) else (some true):=
 (bAy 2000 _ _ _ _).trans (by kernel_rfl)
def bB3  : Option Bool:=DF E 7 [] [sB]
theorem bB3.eq  : bB3  = (bBe (0:Int) (0:Int) (2:Int)).bind fun r1_=>(bBk r1_.1 r1_.2.1 r1_.2.2.1 r1_.2.2.2.1 r1_.2.2.2.2 (100:Int)).bind fun r2_=>(bBe (0:Int) (1:Int) (3:Int)).bind fun r3_=>(bBk r3_.1 r3_.2.1 r3_.2.2.1 r3_.2.2.2.1 r3_.2.2.2.2 (100:Int)).bind fun r4_=>bif (r2_.2==(0:Int)) then ((bAb r2_.1 ([([(0:Int)]:Li),([(4:Int),(6:Int)]:Li)]:Ll)).bind fun r5_=>bif r5_ then (bif (r4_.2==(0:Int)) then ((bAb r4_.1 ([([(0:Int)]:Li),([(4:Int),(7:Int)]:Li)]:Ll)).bind fun r6_=>some r6_) else (some false)) else (some false)) else (some false):=
 (D_eq 2000 7 _ _).trans (by kernel_rfl)
def bB4 (a0_0:Lp) (a0_1:Int) (b1_0:Lp) (b1_1:Int):Option Bool:=DF E 16 [(.agg [dP a0_0,dI a0_1]),(.agg [dP b1_0,dI b1_1])] [sB]
def bB4.l0 (i5:Int) (b0:Lp) (b0_1:Int) (b1:Lp) (b1_1:Int):Option Bool:=DM E [sB] [.loopAt (sub b16 [1,1,0,1,0,0]),.inBlock 0,.code (sub b16 [1,1,1])] ({ f:=16,sl:=[.any,.any,(.ptr 0 0),(.ptr 1 0),.any,dI i5]++anyN 32,ob:=[(0,(.box [dP b0,dI b0_1])),(1,(.box [dP b1,dI b1_1]))] })
theorem bB4.eq (a0_0 a0_1 b1_0 b1_1):bB4 a0_0 a0_1 b1_0 b1_1=bif (a0_1 != b1_1) then (some false) else (bif ((List.length a0_0:Int) != (List.length b1_0:Int)) then (some false) else (bB4.l0 (0:Int) a0_0 a0_1 b1_0 b1_1)):=
 (D_eq 2000 16 _ _).trans (by kernel_rfl)
theorem bB4.l0_eq (i5 b0 b0_1 b1 b1_1):bB4.l0 i5 b0 b0_1 b1 b1_1=bif (decide (i5<(List.length b0:Int))) then ((geti b0 i5).bind fun x1_=>(geti b1 i5).bind fun x2_=>bif (!(x1_.1==x2_.1 && x1_.2==x2_.2)) then (some false) else (bB4.l0 (wrap .i64 (i5+(1:Int))) b0 b0_1 b1 b1_1)) else (some true):=
 (bAy 2000 _ _ _ _).trans (by kernel_rfl)
def bDu  : Option Bool:=DF E 4 [] [sB]
theorem bDu.eq  : bDu  = (bBk (-1:Int) ([]:Lp) ([]:Lp) ([]:Li) ([]:Li) (-1:Int)).bind fun r1_=>(bBx (-1:Int) ([]:Lp) ([]:Lp) ([]:Li) ([]:Li) (-1:Int)).bind fun r2_=>(bBe (0:Int) (0:Int) (2:Int)).bind fun r3_=>(bBk r3_.1 r3_.2.1 r3_.2.2.1 r3_.2.2.2.1 r3_.2.2.2.2 (-1:Int)).bind fun r4_=>(bBe (0:Int) (0:Int) (2:Int)).bind fun r5_=>(bBx r5_.1 r5_.2.1 r5_.2.2.1 r5_.2.2.2.1 r5_.2.2.2.2 (100001:Int)).bind fun r6_=>(bBe (0:Int) (1:Int) (3:Int)).bind fun r7_=>(bBx r7_.1 r7_.2.1 r7_.2.2.1 r7_.2.2.2.1 r7_.2.2.2.2 (100:Int)).bind fun r8_=>(bBe (0:Int) (2:Int) (2:Int)).bind fun r9_=>(bBk r9_.1 r9_.2.1 r9_.2.2.1 r9_.2.2.2.1 r9_.2.2.2.2 (100:Int)).bind fun r10_=>(bBe (0:Int) (0:Int) (3:Int)).bind fun r11_=>(bBk r11_.1 r11_.2.1 r11_.2.2.1 r11_.2.2.2.1 r11_.2.2.2.2 (100:Int)).bind fun r12_=>(bBk (1:Int) ([((4:Int),(0:Int)),((7:Int),(1:Int)),((5:Int),(1:Int)),((2:Int),(0:Int))]:Lp) ([]:Lp) ([]:Li) ([]:Li) (100:Int)).bind fun r13_=>(bBx (1:Int) ([((4:Int),(0:Int)),((7:Int),(1:Int)),((5:Int),(1:Int)),((2:Int),(0:Int))]:Lp) ([]:Lp) ([]:Li) ([]:Li) (100:Int)).bind fun r14_=>(bBk (0:Int) ([]:Lp) ([]:Lp) ([]:Li) ([]:Li) (0:Int)).bind fun r15_=>(bB3).bind fun r16_=>bif r16_ then (bif (r1_.2==(8:Int)) then (bif (r2_.2==(8:Int)) then (bif (r4_.2==(2:Int)) then (bif (r6_.2==(2:Int)) then (bif (r8_.2==(0:Int)) then ((bAh r8_.1.1.2.2.2.1 ([(4:Int),(5:Int)]:Li)).bind fun r17_=>bif r17_ then ((bB4 r8_.1.2.2.2.2.2.2.1 r8_.1.2.2.2.2.2.2.2 ([((5:Int),(3:Int)),((4:Int),(2:Int)),((9:Int),(7:Int))]:Lp) (10:Int)).bind fun r18_=>bif r18_ then (bif (r10_.2==(0:Int)) then ((bAb r10_.1 ([([(0:Int)]:Li),([(4:Int)]:Li)]:Ll)).bind fun r19_=>bif r19_ then (bif (r12_.2==(0:Int)) then ((bAb r12_.1 ([([(0:Int)]:Li),([(4:Int)]:Li),([(6:Int)]:Li)]:Ll)).bind fun r20_=>bif r20_ then (bif (r13_.2==(0:Int)) then ((bAb r13_.1 ([([(0:Int),(4:Int),(9:Int)]:Li),([(7:Int)]:Li),([(10:Int)]:Li)]:Ll)).bind fun r21_=>bif r21_ then (bif (r14_.2==(0:Int)) then ((bB4 r14_.1.2.2.2.2.2.2.1 r14_.1.2.2.2.2.2.2.2 ([((6:Int),(3:Int))]:Lp) (10:Int)).bind fun r22_=>bif r22_ then (bif (r15_.2==(0:Int)) then ((bAb r15_.1 ([([(0:Int)]:Li)]:Ll)).bind fun r23_=>some r23_) else (some false)) else (some false)) else (some false)) else (some false)) else (some false)) else (some false)) else (some false)) else (some false)) else (some false)) else (some false)) else (some false)) else (some false)) else (some false)) else (some false)) else (some false)) else (some false)) else (some false):=
 (D_eq 2000 4 _ _).trans (by kernel_rfl)

end
end Go.Proofs.YtfjpfjnepdhnaaaGreat
