/- Part of a proof that a law of the program holds for every input: what the functions answer, in plain Lean. No conditions. -/
import Derived.Test.YtgpdnmfpgkkgcaaGreatDoorP12
namespace Go.Proofs.YtgpdnmfpgkkgcaaGreatDoor
open Go
set_option linter.unusedVariables false
set_option maxRecDepth 4000
def ZJ.wp(x0:Int)(x1:Lin)(x2:Int)(x3:Lin)(Q:Lin→Prop):Prop:=(((0:Int)≤((List.length x1.1:Nat):Int)∧(((List.length x1.1:Nat):Int)≤((List.length x1.1:Nat):Int)∧((((List.length x1.1:Nat):Int)*((8:Nat):Int))≤(140737488355328:Int)∧((List.length x1.1:Nat):Int)≤(9223372036854775807:Int))))∧(Zo IntKind.i64 (x0*x1.2)∧(Zo IntKind.i64 (x2*x3.2)∧(Zo IntKind.i64 ((x0*x1.2)+(x2*x3.2))∧Lp (σ:=Int×List Int) (fun y5 R5=>let v2:=List.getD x1.1 (Int.toNat y5.1) (0:Int);let v3:=List.getD x3.1 (Int.toNat y5.1) (0:Int);cond (decide (y5.1 < ((List.length x1.1:Nat):Int))) (((0:Int)≤y5.1∧y5.1 < ((List.length x1.1:Nat):Int))∧(Zo IntKind.i64 (x0*v2)∧(((0:Int)≤y5.1∧y5.1 < ((List.length x3.1:Nat):Int))∧(Zo IntKind.i64 (x2*v3)∧(Zo IntKind.i64 ((x0*v2)+(x2*v3))∧(((0:Int)≤y5.1∧y5.1 < ((List.length y5.2:Nat):Int))∧(Int.toNat y5.1 < List.length y5.2∧(Zo IntKind.i64 (y5.1+(1:Int))∧R5 ((y5.1+(1:Int)),(List.set y5.2 (Int.toNat y5.1) ((x0*v2)+(x2*v3)))))))))))) (Q (y5.2,((x0*x1.2)+(x2*x3.2))))) ((0:Int),(List.replicate (Int.toNat ((List.length x1.1:Nat):Int)) (0:Int)))))))
def Zah.wp(x0:Lin)(x1:Int)(Q:Lin→Prop):Prop:=((List.length x0.1*8)≤140737488355328∧(Zo IntKind.i64 (x0.2+x1)∧Q (x0.1,(x0.2+x1))))
def Zan.wp(x0:List Zc)(x1:Int)(Q:Int→Prop):Prop:=let v0:=List.replicate (Int.toNat x1) (0:Int);(((0:Int)≤x1∧(x1≤x1∧((x1*((8:Nat):Int))≤(140737488355328:Int)∧x1≤(9223372036854775807:Int))))∧(((0:Int)≤x1∧(x1≤x1∧((x1*((8:Nat):Int))≤(140737488355328:Int)∧x1≤(9223372036854775807:Int))))∧Lp (σ:=Int×Int×Int×(List Int)×List Int) (fun y3 R3=>let v1:=List.getD x0 (Int.toNat y3.1) Za;cond (decide (y3.1 < ((List.length x0:Nat):Int))) (((0:Int)≤y3.1∧y3.1 < ((List.length x0:Nat):Int))∧Lp (σ:=Int×Int×Int×(List Int)×List Int) (fun y5 R5=>let v2:=List.getD v1.2.2.1 (Int.toNat y5.1) (0:Int);let v3:=List.getD y5.2.2.2.1 (Int.toNat y5.1) (0:Int);let v5:=List.getD y5.2.2.2.2 (Int.toNat y5.1) (0:Int);cond (decide (y5.1 < ((List.length v1.2.2.1:Nat):Int))) (((0:Int)≤y5.1∧y5.1 < ((List.length v1.2.2.1:Nat):Int))∧cond (v2 == (0:Int)) (Zo IntKind.i64 (y5.1+(1:Int))∧R5 ((y5.1+(1:Int)),y5.2)) (cond (v1.1 == (1:Int)) (((!(v2 == (1:Int)))=true→((!(v2 == (1:Int)))=true∧True))∧(((v2 == (1:Int))=false→(!(v2 == (1:Int)))=true)∧cond ((v2 == (1:Int))||(v2 == (-(1:Int)))) (Zo IntKind.i64 (y5.1+(1:Int))∧R5 ((y5.1+(1:Int)),(Max.max y5.2.1 y5.1,(Max.max y5.2.2.1 y5.1,y5.2.2.2)))) (Zo IntKind.i64 (y5.1+(1:Int))∧R5 ((y5.1+(1:Int)),(y5.2.1,(Max.max y5.2.2.1 y5.1,y5.2.2.2)))))) (((v1.1 == (0:Int))=true→((v1.1 == (0:Int))=true∧True))∧(((v1.1 == (0:Int))=true→(v1.1 == (0:Int))=true)∧cond ((v1.1 == (0:Int))&&decide ((0:Int) < v2)) (((0:Int)≤y5.1∧y5.1 < ((List.length y5.2.2.2.1:Nat):Int))∧(Int.toNat y5.1 < List.length y5.2.2.2.1∧(Zo IntKind.i64 (v3+(1:Int))∧(((0:Int)≤y5.1∧y5.1 < ((List.length y5.2.2.2.1:Nat):Int))∧(Int.toNat y5.1 < List.length y5.2.2.2.1∧(Zo IntKind.i64 (y5.1+(1:Int))∧R5 ((y5.1+(1:Int)),(y5.2.1,(y5.2.2.1,((List.set y5.2.2.2.1 (Int.toNat y5.1) (v3+(1:Int))),y5.2.2.2.2)))))))))) (cond (v1.1 == (0:Int)) (((0:Int)≤y5.1∧y5.1 < ((List.length y5.2.2.2.2:Nat):Int))∧(Int.toNat y5.1 < List.length y5.2.2.2.2∧(Zo IntKind.i64 (v5+(1:Int))∧(((0:Int)≤y5.1∧y5.1 < ((List.length y5.2.2.2.2:Nat):Int))∧(Int.toNat y5.1 < List.length y5.2.2.2.2∧(Zo IntKind.i64 (y5.1+(1:Int))∧R5 ((y5.1+(1:Int)),(y5.2.1,(y5.2.2.1,(y5.2.2.2.1,(List.set y5.2.2.2.2 (Int.toNat y5.1) (v5+(1:Int))))))))))))) (Zo IntKind.i64 (y5.1+(1:Int))∧R5 ((y5.1+(1:Int)),y5.2))))))) (Zo IntKind.i64 (y3.1+(1:Int))∧R3 ((y3.1+(1:Int)),y5.2))) ((0:Int),y3.2)) (cond (decide ((0:Int)≤y3.2.1)) (Q y3.2.1) (cond (decide ((0:Int)≤y3.2.2.1)) (Q y3.2.2.1) (Lp (σ:=Int×Int) (fun y5 R5=>let v7:=List.getD y3.2.2.2.1 (Int.toNat y5.1) (0:Int);let v8:=List.getD y3.2.2.2.2 (Int.toNat y5.1) (0:Int);let v9:=List.getD y3.2.2.2.1 (Int.toNat y5.2) (0:Int);let v10:=List.getD y3.2.2.2.2 (Int.toNat y5.2) (0:Int);cond (decide (y5.1 < x1)) (((0:Int)≤y5.1∧y5.1 < ((List.length y3.2.2.2.1:Nat):Int))∧(Int.toNat y5.1 < List.length y3.2.2.2.1∧(((0:Int)≤y5.1∧y5.1 < ((List.length y3.2.2.2.2:Nat):Int))∧(Int.toNat y5.1 < List.length y3.2.2.2.2∧(Zo IntKind.i64 (v7*v8)∧(((0:Int)≤y5.2∧y5.2 < ((List.length y3.2.2.2.1:Nat):Int))∧(Int.toNat y5.2 < List.length y3.2.2.2.1∧(((0:Int)≤y5.2∧y5.2 < ((List.length y3.2.2.2.2:Nat):Int))∧(Int.toNat y5.2 < List.length y3.2.2.2.2∧(Zo IntKind.i64 (v9*v10)∧cond (decide ((v7*v8)≤(v9*v10))) (Zo IntKind.i64 (y5.1+(1:Int))∧R5 ((y5.1+(1:Int)),y5.1)) (Zo IntKind.i64 (y5.1+(1:Int))∧R5 ((y5.1+(1:Int)),y5.2)))))))))))) (Q y5.2)) ((0:Int),(0:Int)))))) ((0:Int),((-(1:Int)),((-(1:Int)),(v0,v0))))))
def Zz.wp(x0:Int×(List Zc)×(List (Zc×Int×Lin))×Int×(List (Zc×Int×Lin))×(List (Zc×Int×Lin))×(List (Zc×Int×Lin)))(Q:(List (List Zc))→Prop):Prop:=let v0:=List.getD x0.2.2.1 (Int.toNat x0.2.2.2.1) (Za,((0:Int),(([]:List Int),(0:Int))));let v5:=List.length ([]:List (Zc));(((0:Int)≤x0.2.2.2.1∧x0.2.2.2.1 < ((List.length x0.2.2.1:Nat):Int))∧Zqi (σ:=Int×Int×Bool×Int) (fun y2=>let v4:=[((2:Int),(y2.1,v0.2.2))];∀ b3:Bool,((b3=true→x0.2.1=([]:List (Zc)))→cond b3 (Lp (σ:=Int×List (Zc)) (fun y4 R4=>let v1:=List.getD x0.2.2.1 (Int.toNat y4.1) (Za,((0:Int),(([]:List Int),(0:Int))));let v3:=[(v1.1.1,((y2.1*v1.1.2.1),(ZJ.fn (y2.1,(v1.2.2,(((-y2.2.1)*v1.2.1),(v0.2.2,())))))))];cond (decide (y4.1 < ((List.length x0.2.2.1:Nat):Int))) (((0:Int)≤y4.1∧y4.1 < ((List.length x0.2.2.1:Nat):Int))∧cond (y4.1 != x0.2.2.2.1) (Zo IntKind.i64 (y2.1*v1.1.2.1)∧(Zo IntKind.i64 (-y2.2.1)∧(Zo IntKind.i64 ((-y2.2.1)*v1.2.1)∧(ZJ.pre (y2.1,(v1.2.2,(((-y2.2.1)*v1.2.1),(v0.2.2,()))))∧((((List.length y4.2+List.length v3)*48)≤140737488355328∧(List.length y4.2+List.length v3)≤9223372036854775807)∧(Zo IntKind.i64 (y4.1+(1:Int))∧R4 ((y4.1+(1:Int)),(y4.2++v3)))))))) (Zo IntKind.i64 (y4.1+(1:Int))∧R4 ((y4.1+(1:Int)),y4.2))) (cond (decide ((1:Int) < y2.1)) ((((List.length y4.2+List.length v4)*48)≤140737488355328∧(List.length y4.2+List.length v4)≤9223372036854775807)∧Q ([(y4.2++v4)])) (Q [y4.2]))) ((0:Int),([]:List (Zc)))) ((((v5+List.length x0.2.1)*48)≤140737488355328∧(v5+List.length x0.2.1)≤9223372036854775807)∧Lp (σ:=Int×List (Zc)) (fun y4 R4=>let v1:=List.getD x0.2.2.1 (Int.toNat y4.1) (Za,((0:Int),(([]:List Int),(0:Int))));let v3:=[(v1.1.1,((y2.1*v1.1.2.1),(ZJ.fn (y2.1,(v1.2.2,(((-y2.2.1)*v1.2.1),(v0.2.2,())))))))];cond (decide (y4.1 < ((List.length x0.2.2.1:Nat):Int))) (((0:Int)≤y4.1∧y4.1 < ((List.length x0.2.2.1:Nat):Int))∧cond (y4.1 != x0.2.2.2.1) (Zo IntKind.i64 (y2.1*v1.1.2.1)∧(Zo IntKind.i64 (-y2.2.1)∧(Zo IntKind.i64 ((-y2.2.1)*v1.2.1)∧(ZJ.pre (y2.1,(v1.2.2,(((-y2.2.1)*v1.2.1),(v0.2.2,()))))∧((((List.length y4.2+List.length v3)*48)≤140737488355328∧(List.length y4.2+List.length v3)≤9223372036854775807)∧(Zo IntKind.i64 (y4.1+(1:Int))∧R4 ((y4.1+(1:Int)),(y4.2++v3)))))))) (Zo IntKind.i64 (y4.1+(1:Int))∧R4 ((y4.1+(1:Int)),y4.2))) (cond (decide ((1:Int) < y2.1)) ((((List.length y4.2+List.length v4)*48)≤140737488355328∧(List.length y4.2+List.length v4)≤9223372036854775807)∧Q ([(y4.2++v4)])) (Q [y4.2]))) ((0:Int),(([]:List (Zc))++x0.2.1))))) (fun J2=>cond (decide (v0.2.1 < (0:Int))) (Zo IntKind.i64 (-v0.2.1)∧J2 ((-v0.2.1),((-(1:Int)),(decide (v0.2.1 < (0:Int)),v0.2.1)))) (J2 (v0.2.1,((1:Int),(decide (v0.2.1 < (0:Int)),v0.2.1))))))
def Zw.wp(x0:Int×(List Zc)×(List (Zc×Int×Lin))×Int×(List (Zc×Int×Lin))×(List (Zc×Int×Lin))×(List (Zc×Int×Lin)))(Q:(List (List Zc))→Prop):Prop:=let v0:=List.length x0.2.2.2.2.1;let v1:=List.length x0.2.2.2.2.2.1;let v6:=List.length ([]:List (Zc));∀ b2:Bool,((b2=true→x0.2.1=([]:List (Zc)))→cond b2 (Lp (σ:=Int×List (Zc)) (fun y3 R3=>let v3:=List.getD x0.2.2.2.2.1 (Int.toNat y3.1) (Za,((0:Int),(([]:List Int),(0:Int))));cond (decide (y3.1 < ((v0:Nat):Int))) (((0:Int)≤y3.1∧y3.1 < ((v0:Nat):Int))∧Lp (σ:=Int×List (Zc)) (fun y5 R5=>let v2:=List.getD x0.2.2.2.2.2.1 (Int.toNat y5.1) (Za,((0:Int),(([]:List Int),(0:Int))));let v5:=[((0:Int),((0:Int),(ZJ.fn (v3.2.1,(v2.2.2,((-v2.2.1),(v3.2.2,())))))))];cond (decide (y5.1 < ((v1:Nat):Int))) (((0:Int)≤y5.1∧y5.1 < ((v1:Nat):Int))∧(Zo IntKind.i64 (-v2.2.1)∧(ZJ.pre (v3.2.1,(v2.2.2,((-v2.2.1),(v3.2.2,()))))∧((((List.length y5.2+List.length v5)*48)≤140737488355328∧(List.length y5.2+List.length v5)≤9223372036854775807)∧(Zo IntKind.i64 (y5.1+(1:Int))∧R5 ((y5.1+(1:Int)),(y5.2++v5))))))) (Zo IntKind.i64 (y3.1+(1:Int))∧R3 ((y3.1+(1:Int)),y5.2))) ((0:Int),y3.2)) (Q [y3.2])) ((0:Int),([]:List (Zc)))) ((((v6+List.length x0.2.1)*48)≤140737488355328∧(v6+List.length x0.2.1)≤9223372036854775807)∧Lp (σ:=Int×List (Zc)) (fun y3 R3=>let v3:=List.getD x0.2.2.2.2.1 (Int.toNat y3.1) (Za,((0:Int),(([]:List Int),(0:Int))));cond (decide (y3.1 < ((v0:Nat):Int))) (((0:Int)≤y3.1∧y3.1 < ((v0:Nat):Int))∧Lp (σ:=Int×List (Zc)) (fun y5 R5=>let v2:=List.getD x0.2.2.2.2.2.1 (Int.toNat y5.1) (Za,((0:Int),(([]:List Int),(0:Int))));let v5:=[((0:Int),((0:Int),(ZJ.fn (v3.2.1,(v2.2.2,((-v2.2.1),(v3.2.2,())))))))];cond (decide (y5.1 < ((v1:Nat):Int))) (((0:Int)≤y5.1∧y5.1 < ((v1:Nat):Int))∧(Zo IntKind.i64 (-v2.2.1)∧(ZJ.pre (v3.2.1,(v2.2.2,((-v2.2.1),(v3.2.2,()))))∧((((List.length y5.2+List.length v5)*48)≤140737488355328∧(List.length y5.2+List.length v5)≤9223372036854775807)∧(Zo IntKind.i64 (y5.1+(1:Int))∧R5 ((y5.1+(1:Int)),(y5.2++v5))))))) (Zo IntKind.i64 (y3.1+(1:Int))∧R3 ((y3.1+(1:Int)),y5.2))) ((0:Int),y3.2)) (Q [y3.2])) ((0:Int),(([]:List (Zc))++x0.2.1))))
def Zn.wp(x0:Int×(List Zc)×(List (Zc×Int×Lin))×Int×(List (Zc×Int×Lin))×(List (Zc×Int×Lin))×(List (Zc×Int×Lin)))(x1:Int)(x2:Lin)(x3:Bool)(Q:(List Zc)→Prop):Prop:=let v3:=List.length ([((2:Int),(x1,x2))]);let v4:=List.length ([]:List (Zc));∀ b5:Bool,((b5=true→x0.2.1=([]:List (Zc)))→cond b5 (Lp (σ:=Int×List (Zc)) (fun y6 R6=>let v0:=List.getD x0.2.2.1 (Int.toNat y6.1) (Za,((0:Int),(([]:List Int),(0:Int))));let v2:=[(v0.1.1,(v0.1.2.1,(ZJ.fn ((1:Int),(v0.2.2,(Int.tdiv v0.2.1 x1,(x2,())))))))];cond (decide (y6.1 < ((List.length x0.2.2.1:Nat):Int))) (((0:Int)≤y6.1∧y6.1 < ((List.length x0.2.2.1:Nat):Int))∧(((!x3)=true→((!x3)=true∧True))∧(((!x3)=true→((!x3)=true∧True))∧(((!x3)=true→((!x3)=true∧True))∧((x3=false→(!x3)=true)∧cond (x3||(v0.1.1 == (2:Int))) ((x1≠(0:Int)∧Zo IntKind.i64 (Int.tdiv v0.2.1 x1))∧(ZJ.pre ((1:Int),(v0.2.2,(Int.tdiv v0.2.1 x1,(x2,()))))∧((((List.length y6.2+List.length v2)*48)≤140737488355328∧(List.length y6.2+List.length v2)≤9223372036854775807)∧(Zo IntKind.i64 (y6.1+(1:Int))∧R6 ((y6.1+(1:Int)),(y6.2++v2)))))) (Zo IntKind.i64 (y6.1+(1:Int))∧R6 ((y6.1+(1:Int)),y6.2))))))) ((((List.length y6.2+v3)*48)≤140737488355328∧(List.length y6.2+v3)≤9223372036854775807)∧Q (y6.2++[((2:Int),(x1,x2))]))) ((0:Int),([]:List (Zc)))) ((((v4+List.length x0.2.1)*48)≤140737488355328∧(v4+List.length x0.2.1)≤9223372036854775807)∧Lp (σ:=Int×List (Zc)) (fun y6 R6=>let v0:=List.getD x0.2.2.1 (Int.toNat y6.1) (Za,((0:Int),(([]:List Int),(0:Int))));let v2:=[(v0.1.1,(v0.1.2.1,(ZJ.fn ((1:Int),(v0.2.2,(Int.tdiv v0.2.1 x1,(x2,())))))))];cond (decide (y6.1 < ((List.length x0.2.2.1:Nat):Int))) (((0:Int)≤y6.1∧y6.1 < ((List.length x0.2.2.1:Nat):Int))∧(((!x3)=true→((!x3)=true∧True))∧(((!x3)=true→((!x3)=true∧True))∧(((!x3)=true→((!x3)=true∧True))∧((x3=false→(!x3)=true)∧cond (x3||(v0.1.1 == (2:Int))) ((x1≠(0:Int)∧Zo IntKind.i64 (Int.tdiv v0.2.1 x1))∧(ZJ.pre ((1:Int),(v0.2.2,(Int.tdiv v0.2.1 x1,(x2,()))))∧((((List.length y6.2+List.length v2)*48)≤140737488355328∧(List.length y6.2+List.length v2)≤9223372036854775807)∧(Zo IntKind.i64 (y6.1+(1:Int))∧R6 ((y6.1+(1:Int)),(y6.2++v2)))))) (Zo IntKind.i64 (y6.1+(1:Int))∧R6 ((y6.1+(1:Int)),y6.2))))))) ((((List.length y6.2+v3)*48)≤140737488355328∧(List.length y6.2+v3)≤9223372036854775807)∧Q (y6.2++[((2:Int),(x1,x2))]))) ((0:Int),(([]:List (Zc))++x0.2.1))))
def Zau.wp(x0:Int)(x1:Int)(Q:Int→Prop):Prop:=let v0:=IntKind.wrap IntKind.u64 x1;let v1:=Z8.fn (x0,(v0,()));(((!(decide ((512:Int) < x0)))=true→((!(decide ((512:Int) < x0)))=true∧True))∧(((!(decide ((512:Int) < x0)))=true→((!(decide ((512:Int) < x0)))=true∧True))∧((decide ((512:Int) < x0)=false→(!(decide ((512:Int) < x0)))=true)∧cond (decide ((512:Int) < x0)||decide ((512:Int) < v0)) (Q (513:Int)) (v1≠(0:Int)∧Q (IntKind.wrap IntKind.u64 ((IntKind.wrap IntKind.u64 (Int.tdiv x0 v1))*v0))))))
def ZI.wp(x0:List Int)(Q:Int×Int→Prop):Prop:=let v1:=ZC.fn (x0,((1:Int),((fun (a4:Int×Int)=>Zau.pre (a4.1,(a4.2,())),fun (a4:Int×Int)=>Zau.fn (a4.1,(a4.2,()))),())));Lp (σ:=Int) (fun y2 R2=>cond (decide (y2 < ((List.length x0:Nat):Int))) (((0:Int)≤y2∧y2 < ((List.length x0:Nat):Int))∧cond (decide ((List.getD x0 (Int.toNat y2) (0:Int)) < (1:Int))) (Q ((0:Int),(1:Int))) (Zo IntKind.i64 (y2+(1:Int))∧R2 (y2+(1:Int)))) (ZC.pre (x0,((1:Int),((fun (a4:Int×Int)=>Zau.pre (a4.1,(a4.2,())),fun (a4:Int×Int)=>Zau.fn (a4.1,(a4.2,()))),())))∧cond (decide ((512:Int) < v1)) (Q ((0:Int),(3:Int))) (Zo IntKind.i64 v1∧Q (v1,(0:Int))))) (0:Int)
def Zat.wp(x0:List Int)(Q:Int×Int→Prop):Prop:=Lp (σ:=Int) (fun y2 R2=>cond (decide (y2 < ((List.length x0:Nat):Int))) (((0:Int)≤y2∧y2 < ((List.length x0:Nat):Int))∧cond (decide ((List.getD x0 (Int.toNat y2) (0:Int)) < (1:Int))) (Q ((0:Int),(1:Int))) (Zo IntKind.i64 (y2+(1:Int))∧R2 (y2+(1:Int)))) (Lp (σ:=Int) (fun y4 R4=>cond (decide (y4≤(512:Int))) (Lp (σ:=Int×Bool) (fun y6 R6=>let v1:=List.getD x0 (Int.toNat y6.1) (0:Int);cond (decide (y6.1 < ((List.length x0:Nat):Int))) (((0:Int)≤y6.1∧y6.1 < ((List.length x0:Nat):Int))∧((y6.2=true→(y6.2=true∧(y6.2=true∧v1≠(0:Int))))∧((y6.2=true→(y6.2=true∧True))∧((y6.2=true→y6.2=true)∧(Zo IntKind.i64 (y6.1+(1:Int))∧R6 ((y6.1+(1:Int)),(y6.2&&(Int.tmod y4 v1 == (0:Int))))))))) (cond y6.2 (Q (y4,(0:Int))) (Zo IntKind.i64 (y4+(1:Int))∧R4 (y4+(1:Int))))) ((0:Int),true)) (Q ((0:Int),(3:Int)))) (1:Int))) (0:Int)
def Zq.wp(x0:Int)(Q:Int→Prop):Prop:=(Zo IntKind.i64 (-x0)∧Q (Max.max x0 (-x0)))
def ZR.wp(x0:Int)(x1:Int)(Q:Lin→Prop):Prop:=(((0:Int)≤x0∧(x0≤x0∧((x0*((8:Nat):Int))≤(140737488355328:Int)∧x0≤(9223372036854775807:Int))))∧Q ((List.replicate (Int.toNat x0) (0:Int)),x1))
def Z6.wp(x0:Zc)(x1:Int)(x2:Int)(x3:Int)(x4:Lin)(Q:Zc→Prop):Prop:=let v0:=List.getD x0.2.2.1 (Int.toNat x1) (0:Int);let v1:=Zm.fn (x0.2.2,(x1,()));(Zm.pre (x0.2.2,(x1,()))∧(Zo IntKind.i64 (x0.2.1*x2)∧(((0:Int)≤x1∧x1 < ((List.length x0.2.2.1:Nat):Int))∧(Zo IntKind.i64 (v0*x3)∧(ZB.pre (x2,(v1,((v0*x3),(x4,()))))∧Q (x0.1,((x0.2.1*x2),(ZB.fn (x2,(v1,((v0*x3),(x4,()))))))))))))
theorem ZJ.spec(a:Int)(l:Lin)(b:Int)(m:Lin)(hp:ZJ.pre (a,l,b,m,())):ZJ.wp a l b m (fun r=>r=ZJ.fn (a,l,b,m,())):=ZB.spec a l b m hp
theorem Zah.spec(l:Lin)(k:Int)(hp:Zah.pre (l,k,())):Zah.wp l k (fun r=>r=Zah.fn (l,k,())):=by
 obtain⟨⟨h1,h2,h3⟩,h4,h5⟩:=hp
 simp only at h1 h2 h3 h4 h5
 exact⟨by omega,⟨by omega,by omega⟩,rfl⟩
theorem Zq.spec(n:Int)(hp:Zq.pre (n,())):Zq.wp n (fun r=>r=Zq.fn (n,())):=by
 obtain⟨h1,h2⟩:=hp
 simp only at h1 h2
 exact⟨⟨by omega,by omega⟩,rfl⟩
theorem ZR.spec(n k:Int)(hp:ZR.pre (n,k,())):ZR.wp n k (fun r=>r=ZR.fn (n,k,())):=by
 obtain⟨h1,h2⟩:=hp
 simp only at h1 h2
 exact⟨⟨h1,Int.le_refl _,by omega,by omega⟩,rfl⟩
theorem ZxF(l:List Int):∀ m:Nat,l.foldl (fun m n=>Nat.lcm m n.natAbs) m=Nat.lcm m (ZfR l):=by
 induction l with
 | nil=>intro m;simp[ZfR]
 | cons n l ih =>
   intro m
   have h0:ZfR (n::l)=Nat.lcm n.natAbs (ZfR l):=by
    show (n::l).foldl _ 1=_
    rw[List.foldl_cons,ih,Nat.lcm_one_left]
   rw[List.foldl_cons,ih,h0,Nat.lcm_assoc]
theorem Zgr(n:Int)(l:List Int):ZfR (n::l)=Nat.lcm n.natAbs (ZfR l):=by
 show (n::l).foldl _ 1=_
 rw[List.foldl_cons,ZxF,Nat.lcm_one_left]
theorem ZkV{l:List Int}(h:∀ n∈l,1≤n):1≤ZfR l:=by
 induction l with
 | nil=>simp[ZfR]
 | cons n l ih =>
   rw[Zgr]
   have h1:=h n (by simp)
   exact Nat.lcm_pos (by omega) (ih fun m hm=>h m (List.mem_cons_of_mem _ hm))
theorem ZhF{l:List Int}{n:Int}(h:n∈l):n ∣ (ZfR l:Int):=by
 induction l with
 | nil=>simp at h
 | cons m l ih =>
   rw[Zgr]
   rcases List.mem_cons.1 h with rfl | h
   ·exact Int.natAbs_dvd.1 (Int.natCast_dvd_natCast.2 (Nat.dvd_lcm_left _ _))
   ·exact Int.dvd_trans (ih h) (Int.natCast_dvd_natCast.2 (Nat.dvd_lcm_right _ _))
theorem Zsq{l:List Int}{m:Nat}(h:∀ n∈l,n ∣ (m:Int)):ZfR l ∣ m:=by
 induction l with
 | nil=>simp[ZfR]
 | cons n l ih =>
   rw[Zgr]
   exact Nat.lcm_dvd (Int.ofNat_dvd_right.1 (h n (by simp))) (ih fun m hm=>h m (List.mem_cons_of_mem _ hm))
theorem Zjz(l:List Int):(ZiH l).2=1∨(ZiH l).2=3∨((ZiH l).2=0∧(∀ n∈l,1≤n)∧(ZiH l).1=(ZfR l:Int)∧ZfR l≤512):=by
 unfold ZiH
 split
 ·exact .inl rfl
 ·rename_i h
  split
  ·exact .inr (.inl rfl)
  ·refine .inr (.inr ⟨rfl,fun n hn=>?_,rfl,by omega⟩)
   simp only[List.any_eq_true,decide_eq_true_eq,not_exists,not_and,Int.not_lt] at h
   exact h n hn
theorem Zkz{n:Nat}(h:n≤9223372036854775807):IntKind.wrap .u64 (n:Int)=(n:Int):=by
 simp only[IntKind.wrap,IntKind.bits,IntKind.signed]
 simp;omega
theorem Zau.spec(g n:Int)(hp:Zau.pre (g,n,())):Zau.wp g n (fun r=>r=Zau.fn (g,n,())):=by
 obtain⟨h1,h2⟩:=hp
 simp only at h1 h2
 have e:IntKind.wrap .u64 n=n:=by
  have:=Zkz (n:=n.toNat) (by omega)
  rwa [Int.toNat_of_nonneg (by omega)] at this
 simp only[Zau.wp,Zau.fn,e]
 by_cases hg:(512:Int) < g
 ·simp[hg]
 ·simp only[decide_eq_false hg,Bool.not_false,forall_const,true_and,Bool.false_or]
  by_cases hn:(512:Int) < n
  ·simp[hn]
  ·simp only[decide_eq_false hn,cond_false]
   refine⟨?_,by simp⟩
   unfold Z8.fn
   simp only
   rw[if_neg (by omega)]
   split
   ·omega
   ·intro h0
    have:Nat.gcd g.toNat n.toNat=0:=by omega
    rw[Nat.gcd_eq_zero_iff] at this
    omega
def Zt6(g n:Int):Int:=Zau.fn (g,n,())
theorem ZqN {m : Nat} {g n : Int} (hm : 1 ≤ m) (hn : 1 ≤ n) (hn2 : n ≤ 9223372036854775807) (hg : (m ≤ 512 ∧ g = (m : Int)) ∨ (512 < m ∧ 512 < g ∧ g ≤ 262144)) :
 (Nat.lcm m n.natAbs≤512∧Zt6 g n=(Nat.lcm m n.natAbs:Int))∨(512 < Nat.lcm m n.natAbs∧512 < Zt6 g n∧Zt6 g n≤262144):=by
 have e:IntKind.wrap .u64 n=n:=by
  have:=Zkz (n:=n.toNat) (by omega)
  rwa [Int.toNat_of_nonneg (by omega)] at this
 have hna:(n.natAbs:Int)=n:=by omega
 have hpos:1≤Nat.lcm m n.natAbs:=Nat.lcm_pos (by omega) (by omega)
 have hle1:m≤Nat.lcm m n.natAbs:=Nat.le_of_dvd hpos (Nat.dvd_lcm_left _ _)
 have hle2:n.natAbs≤Nat.lcm m n.natAbs:=Nat.le_of_dvd hpos (Nat.dvd_lcm_right _ _)
 unfold Zt6 Zau.fn
 simp only[e]
 rcases hg with ⟨h1,rfl⟩ | ⟨h1,h2,h3⟩
 ·by_cases hb:(512:Int) < n
  ·rw[if_pos (by simp[hb])]
   exact .inr ⟨by omega,by omega,by omega⟩
  ·rw[if_neg (by simp;omega)]
   have hc:Z8.fn ((m:Int),n,())=(Nat.gcd m n.natAbs:Nat):=by
    unfold Z8.fn
    simp only
    rw[if_neg (by omega),if_neg (by omega)]
    congr 2
    omega
   have hgp:0 < Nat.gcd m n.natAbs:=Nat.gcd_pos_of_pos_left _ (by omega)
   have hdiv:Int.tdiv (m:Int) ((Nat.gcd m n.natAbs:Nat):Int)=((m / Nat.gcd m n.natAbs:Nat):Int):=by
    rw[Int.tdiv_eq_ediv_of_nonneg (by omega)];rfl
   have hlc:m / Nat.gcd m n.natAbs*n.natAbs=Nat.lcm m n.natAbs:=by
    rw[Nat.lcm,Nat.div_mul_right_comm (Nat.gcd_dvd_left _ _)]
   have hq:m / Nat.gcd m n.natAbs≤m:=Nat.div_le_self _ _
   have hl:Nat.lcm m n.natAbs≤262144:=by
    rw[← hlc]
    have:=Nat.mul_le_mul (show m / Nat.gcd m n.natAbs≤512 by omega) (show n.natAbs≤512 by omega)
    omega
   rw[hc,hdiv,Zkz (n:=m / Nat.gcd m n.natAbs) (by omega),← hna,show ((m / Nat.gcd m (n.natAbs:Int).natAbs:Nat):Int)*((n.natAbs:Nat):Int)=((m / Nat.gcd m n.natAbs*n.natAbs:Nat):Int) from by rw[Int.natAbs_natCast];push_cast;rfl,Int.natAbs_natCast,hlc,Zkz (n:=Nat.lcm m n.natAbs) (by omega)]
   by_cases hs:Nat.lcm m n.natAbs≤512
   ·exact .inl ⟨hs,rfl⟩
   ·exact .inr ⟨by omega,by omega,by omega⟩
 ·rw[if_pos (by simp;omega)]
  exact .inr ⟨by omega,by omega,by omega⟩
theorem Zq1 {l : List Int} (h : ∀ n ∈ l, 1 ≤ n ∧ n ≤ 9223372036854775807) : ∀ {m : Nat} {g : Int}, 1 ≤ m → ((m ≤ 512 ∧ g = (m : Int)) ∨ (512 < m ∧ 512 < g ∧ g ≤ 262144)) →
 (Nat.lcm m (ZfR l)≤512∧l.foldl Zt6 g=(Nat.lcm m (ZfR l):Int))∨(512 < Nat.lcm m (ZfR l)∧512 < l.foldl Zt6 g∧l.foldl Zt6 g≤262144):=by
 induction l with
 | nil=>intro m g hm hg;simpa[ZfR] using hg
 | cons n l ih =>
   intro m g hm hg
   have hn:=h n (by simp)
   rw[List.foldl_cons,Zgr,← Nat.lcm_assoc]
   exact ih (fun k hk=>h k (List.mem_cons_of_mem _ hk)) (Nat.lcm_pos (by omega) (by omega)) (ZqN hm hn.1 hn.2 hg)
theorem ZI.spec(l:List Int)(hl:l.length≤9223372036854775807)(hp:ZI.pre (l,())):ZI.wp l (fun r=>r=ZI.fn (l,())):=by
 have hb:ZcO l:=hp
 have hfn:ZI.fn (l,())=ZiH l:=rfl
 simp only[ZI.wp,hfn]
 have hany:(l.all fun n=>!decide (n < 1))=!(l.any fun n=>decide (n < 1)):=by simp[List.all_eq_not_any_not]
 refine Lp.all l 0 (fun n=>!decide (n < 1)) hl (fun i R hi hi' hf h1 h2=>?_) (fun R hall=>?_)
 ·simp only[decide_eq_true hi',Int.toNat_natCast,cond_true]
  refine⟨⟨by omega,hi'⟩,?_⟩
  cases hd:decide (l.getD i 0 < 1) with
  | true =>
    simp only[cond_true]
    have:=h2 (by rw[hd];rfl)
    rw[hany] at this
    unfold ZiH
    rw[if_pos (by simpa using this)]
  | false=>exact⟨hf,h1 (by rw[hd];rfl)⟩
 ·simp only[Int.lt_irrefl,decide_false,cond_false]
  rw[hany] at hall
  have hall':(l.any fun n=>decide (n < 1))=false:=by simpa using hall
  have hpos:∀ n∈l,1≤n:=fun n hn=>by
   rw[List.any_eq_false] at hall'
   have:=hall' n hn
   simp at this;omega
  have hfold:ZC.fn (l,((1:Int),((fun (a4:Int×Int)=>Zau.pre (a4.1,a4.2,()),fun (a4:Int×Int)=>Zau.fn (a4.1,(a4.2,()))),())))=l.foldl Zt6 1:=rfl
  refine⟨fun g n hn=>⟨hpos n hn,(hb n hn).2⟩,?_⟩
  rw[hfold]
  have key:=Zq1 (fun n hn=>⟨hpos n hn,(hb n hn).2⟩) (m:=1) (g:=1) (by omega) (.inl ⟨by omega,rfl⟩)
  rw[Nat.lcm_one_left] at key
  have hF:ZiH l=if 512 < ZfR l then ((0:Int),(3:Int)) else (((ZfR l:Nat):Int),0):=by
   unfold ZiH;rw[if_neg (by rw[hall'];simp)]
  rw[hF]
  rcases key with ⟨h1,h2⟩ | ⟨h1,h2,h3⟩
  ·rw[h2,decide_eq_false (by omega),if_neg (by omega)]
   exact⟨⟨by omega,by omega⟩,rfl⟩
  ·rw[decide_eq_true h2,if_pos h1]
   rfl
theorem Zat.spec(l:List Int)(hl:l.length≤9223372036854775807)(hp:Zat.pre (l,())):Zat.wp l (fun r=>r=Zat.fn (l,())):=by
 have hfn:Zat.fn (l,())=ZiH l:=rfl
 simp only[Zat.wp,hfn]
 have hany:(l.all fun n=>!decide (n < 1))=!(l.any fun n=>decide (n < 1)):=by simp[List.all_eq_not_any_not]
 refine Lp.all l 0 (fun n=>!decide (n < 1)) hl (fun i R hi hi' hf h1 h2=>?_) (fun R hall=>?_)
 ·simp only[decide_eq_true hi',Int.toNat_natCast,cond_true]
  refine⟨⟨by omega,hi'⟩,?_⟩
  cases hd:decide (l.getD i 0 < 1) with
  | true =>
    simp only[cond_true]
    have:=h2 (by rw[hd];rfl)
    rw[hany] at this
    unfold ZiH
    rw[if_pos (by simpa using this)]
  | false=>exact⟨hf,h1 (by rw[hd];rfl)⟩
 ·simp only[Int.lt_irrefl,decide_false,cond_false]
  rw[hany] at hall
  have hall':(l.any fun n=>decide (n < 1))=false:=by simpa using hall
  have hpos:∀ n∈l,1≤n:=fun n hn=>by
   rw[List.any_eq_false] at hall'
   have:=hall' n hn
   simp at this;omega
  have hF:ZiH l=if 512 < ZfR l then ((0:Int),(3:Int)) else (((ZfR l:Nat):Int),0):=by
   unfold ZiH;rw[if_neg (by rw[hall'];simp)]
  rw[hF]
  have hLp:=ZkV hpos
  have hsm:∀ m:Nat,1≤m→m < ZfR l→(l.all fun n=>Int.tmod (m:Int) n == 0)=false:=fun m hm hlt=>by
   cases e:l.all fun n=>Int.tmod (m:Int) n == 0 with
   | false=>rfl
   | true =>
     rw[List.all_eq_true] at e
     have:=Nat.le_of_dvd hm (Zsq fun n hn=>Int.dvd_of_tmod_eq_zero (by simpa using e n hn))
     omega
  obtain⟨N,hN⟩:∃ N:Nat,N=513:=⟨_,rfl⟩
  refine Lp.iter N (fun k (y:Int)=>y=(k:Int)+1∧k < ZfR l) ⟨rfl,by omega⟩ ?_
  intro k y hk hI R1 hR
  have hy:y=(k:Int)+1:=hI.1
  have hkl:k < ZfR l:=hI.2
  clear hI
  by_cases h512:k+1≤512
  ·simp only[hy,decide_eq_true (show ((k:Int)+1)≤512 by omega),cond_true]
   refine Lp.iter l.length (fun i (z:Int×Bool)=>z=((i:Int),(l.take i).all fun n=>Int.tmod ((k:Int)+1) n == 0)) (by simp) ?_
   rintro i z hi rfl R2 hR2
   by_cases hil:i < l.length
   ·have hi':(i:Int) < (l.length:Int):=by omega
    have hd:l.getD i 0≠0:=by have:=hpos _ (Zj (d:=0) hil);omega
    simp only[decide_eq_true hi',Int.toNat_natCast,cond_true]
    refine⟨⟨by omega,hi'⟩,fun h=>⟨h,h,hd⟩,fun h=>⟨h,trivial⟩,fun h=>h,⟨by omega,by omega⟩,hR2 hil _ ?_⟩
    have ht:l.take (i+1)=l.take i++[l.getD i 0]:=by
     rw[List.take_add_one,List.getElem?_eq_getElem hil,ZD hil];rfl
    rw[ht,List.all_append]
    simp
   ·have:i=l.length:=by omega
    subst this
    simp only[Int.lt_irrefl,decide_false,cond_false,List.take_length]
    cases e:l.all fun n=>Int.tmod ((k:Int)+1) n == 0 with
    | true =>
      simp only[cond_true]
      have:¬ k+1 < ZfR l:=fun hlt=>by
       have:=hsm (k+1) (by omega) hlt
       rw[show ((k+1:Nat):Int)=(k:Int)+1 from rfl,e] at this;cases this
      rw[if_neg (by omega)]
      have:ZfR l=k+1:=by omega
      rw[this];rfl
    | false =>
      simp only[cond_false]
      refine⟨⟨by omega,by omega⟩,hR (by omega) _ ⟨by push_cast;omega,?_⟩⟩
      apply Classical.byContradiction
      intro hge
      have hk1:ZfR l=k+1:=by omega
      rw[List.all_eq_false] at e
      obtain⟨n,hn,hne⟩:=e
      have:=ZhF hn
      rw[hk1] at this
      apply hne
      simp only[beq_iff_eq]
      exact Int.tmod_eq_zero_of_dvd this
  ·simp only[hy,decide_eq_false (show ¬ ((k:Int)+1)≤512 by omega),cond_false]
   rw[if_pos (by omega)]
theorem ZdH{n j:Nat}{f:Nat→Int}(h:j < n):((List.range n).map f).getD j 0=f j:=by
 rw[List.getD_eq_getElem?_getD,List.getElem?_map,List.getElem?_range h];rfl
theorem ZfW{n j:Nat}{f g:Nat→Int}(h:∀ i,i≠j→f i=g i):((List.range n).map f).set j (g j)=(List.range n).map g:=by
 apply List.ext_getElem (by simp)
 intro i h1 h2
 simp only[List.getElem_set,List.getElem_map,List.getElem_range]
 split
 ·rename_i e;rw[e]
 ·rename_i e;exact h i (fun e'=>e e'.symm)
theorem Zdg{n:Nat}{f g:Nat→Int}(h:∀ i,i < n→f i=g i):(List.range n).map f=(List.range n).map g:=by
 apply List.map_congr_left
 intro i hi
 exact h i (List.mem_range.1 hi)
theorem Zgv{α:Type}(d:α)(l:List α):(Zbv d l).length=l.length:=by simp[Zbv]
theorem ZjG{α:Type}(d:α)(l:List α){i:Nat}(h:i < l.length):(Zbv d l).take (i+1)=(Zbv d l).take i++[(i,l.getD i d)]:=by
 have h':i < (Zbv d l).length:=by rw[Zgv];exact h
 rw[List.take_add_one,List.getElem?_eq_getElem h']
 simp[Zbv]
theorem ZbU{α:Type}{l:List α}{d:α}{i:Nat}(h:i < l.length):l.take (i+1)=l.take i++[l.getD i d]:=by
 rw[List.take_add_one,List.getElem?_eq_getElem h,ZD h];rfl
def ZdD(st:Int×Int)(ia:Nat×Int):Int×Int:=if ia.2=0 then st else (if ia.2=1∨ia.2=-1 then max st.1 (ia.1:Int) else st.1,max st.2 (ia.1:Int))
theorem ZuK(l:List Int)(st:Int×Int):Zuz l st=(Zbv 0 l).foldl ZdD st:=rfl
def Zp3(st:Int×Int)(c:Zc):Int×Int:=if c.1=1 then Zuz c.2.2.1 st else st
theorem ZoX(p:List Zc):Zir p=p.foldl Zp3 (-1,-1):=rfl
theorem ZrP(p:List Zc)(c:Zc)(v:Nat):ZmS (p++[c]) v=ZmS p v+if c.1=0∧0 < Zd v c then 1 else 0:=by
 unfold ZmS
 rw[List.filter_append,List.length_append]
 congr 1
 by_cases h:c.1=0∧0 < Zd v c
 ·simp[h]
 ·rw[if_neg h];simp[h]
theorem Zsv(p:List Zc)(c:Zc)(v:Nat):upN (p++[c]) v=upN p v+if c.1=0∧Zd v c < 0 then 1 else 0:=by
 unfold upN
 rw[List.filter_append,List.length_append]
 congr 1
 by_cases h:c.1=0∧Zd v c < 0
 ·simp[h]
 ·rw[if_neg h];simp[h]
theorem ZnF(p:List Zc)(v:Nat):ZmS p v≤p.length:=List.length_filter_le _ _
theorem ZqE(p:List Zc)(v:Nat):upN p v≤p.length:=List.length_filter_le _ _
theorem Zrp(p:List Zc)(i v:Nat):ZmS (p.take i) v≤p.length:=Nat.le_trans (ZnF _ _) (by rw[List.length_take];omega)
theorem ZtC(p:List Zc)(i v:Nat):upN (p.take i) v≤p.length:=Nat.le_trans (ZqE _ _) (by rw[List.length_take];omega)
def ZpG(p:List Zc)(b v:Nat):Nat:=if ZkW p v≤ZkW p b then v else b
theorem ZsX(p:List Zc)(n:Nat):ZfE p n=(List.range n).foldl (ZpG p) 0:=rfl
theorem ZgF(p:List Zc)(n:Nat):ZfE p (n+1)=ZpG p (ZfE p n) n:=by
 rw[ZsX,List.range_succ,List.foldl_append];rfl
theorem Zlr(p:List Zc):∀ n:Nat,0 < n→ZfE p n < n
 | 0,h=>absurd h (by omega)
 | 1,_=>by
   rw[ZgF]
   have:ZfE p 0=0:=rfl
   rw[this];unfold ZpG;split<;>omega
 | n+2,_=>by
   rw[ZgF]
   have:=Zlr p (n+1) (by omega)
   unfold ZpG;split<;>omega
theorem ZtX{a b:Nat}(ha:a≤400)(hb:b≤400):Zo .i64 ((a:Int)*(b:Int)):=by
 have h:=Nat.mul_le_mul ha hb
 have e:(a:Int)*(b:Int)=((a*b:Nat):Int):=by push_cast;rfl
 rw[e]
 exact⟨by omega,by omega⟩
theorem Zuy{N:Nat}{st:Int×Int}{ia:Nat×Int}(h:-1≤st.1∧st.1 < N∧-1≤st.2∧st.2 < N)(hi:ia.1 < N):-1≤(ZdD st ia).1∧(ZdD st ia).1 < N∧-1≤(ZdD st ia).2∧(ZdD st ia).2 < N:=by
 unfold ZdD
 split
 ·exact h
 ·refine⟨?_,?_,?_,?_⟩<;>simp only[]<;>(try split)<;>omega
theorem Zws{N:Nat}{l:List Int}{st:Int×Int}(h:-1≤st.1∧st.1 < N∧-1≤st.2∧st.2 < N)(hl:l.length≤N):-1≤(Zuz l st).1∧(Zuz l st).1 < N∧-1≤(Zuz l st).2∧(Zuz l st).2 < N:=by
 rw[ZuK]
 have key:∀ (m:List (Nat×Int)) (st:Int×Int),(∀ x∈m,x.1 < N)→(-1≤st.1∧st.1 < N∧-1≤st.2∧st.2 < N)→-1≤(m.foldl ZdD st).1∧(m.foldl ZdD st).1 < N∧-1≤(m.foldl ZdD st).2∧(m.foldl ZdD st).2 < N:=by
  intro m
  induction m with
  | nil=>exact fun st _ h=>h
  | cons x m ih=>exact fun st hm h=>ih _ (fun y hy=>hm y (List.mem_cons_of_mem _ hy)) (Zuy h (hm x (by simp)))
 refine key _ st (fun x hx=>?_) h
 simp only[Zbv,List.mem_map,List.mem_range] at hx
 obtain⟨i,hi,rfl⟩:=hx
 simp only;omega
theorem Zva{p:List Zc}{N:Nat}(h:∀ c∈p,c.2.2.1.length≤N):-1≤(Zir p).1∧(Zir p).1 < N∧-1≤(Zir p).2∧(Zir p).2 < N:=by
 rw[ZoX]
 have key:∀ (m:List Zc) (st:Int×Int),(∀ c∈m,c.2.2.1.length≤N)→(-1≤st.1∧st.1 < N∧-1≤st.2∧st.2 < N)→-1≤(m.foldl Zp3 st).1∧(m.foldl Zp3 st).1 < N∧-1≤(m.foldl Zp3 st).2∧(m.foldl Zp3 st).2 < N:=by
  intro m
  induction m with
  | nil=>exact fun st _ h=>h
  | cons x m ih =>
    refine fun st hm h=>ih _ (fun y hy=>hm y (List.mem_cons_of_mem _ hy)) ?_
    unfold Zp3
    split
    ·exact Zws h (hm x (by simp))
    ·exact h
 exact key p _ h ⟨by omega,by simp only;omega,by omega,by simp only;omega⟩
theorem Zrf{p:List Zc}{n:Int}(h:pieceN p n)(h1:1≤n):0≤ZbP p n∧ZbP p n < n:=by
 obtain⟨_,hc,h0,h12⟩:=h
 have hb:=Zva (p:=p) (N:=n.toNat) fun c hc'=>by have:=(hc c hc').2;omega
 have hbest:=Zlr p n.toNat (by omega)
 unfold ZbP
 split
 ·omega
 ·split
  ·omega
  ·omega
theorem Zan.spec(p:List Zc)(n:Int)(hp:Zan.pre (p,n,())):Zan.wp p n (fun r=>r=Zan.fn (p,n,())):=by
 obtain⟨h400,hc,h0,h12⟩:=hp
 simp only at h400 hc h0 h12
 have hfn:Zan.fn (p,n,())=ZbP p n:=rfl
 simp only[Zan.wp,hfn]
 obtain⟨N,rfl⟩:∃ N:Nat,n=(N:Int):=⟨n.toNat,by omega⟩
 simp only[Int.toNat_natCast]
 refine⟨⟨h0,Int.le_refl _,by omega,by omega⟩,⟨h0,Int.le_refl _,by omega,by omega⟩,?_⟩
 have hrep:List.replicate N (0:Int)=(List.range N).map fun v=>(ZmS (p.take 0) v:Int):=by
  apply List.ext_getElem (by simp)
  intro i h1 h2
  simp[ZmS]
 have hrep':List.replicate N (0:Int)=(List.range N).map fun v=>(upN (p.take 0) v:Int):=by
  apply List.ext_getElem (by simp)
  intro i h1 h2
  simp[upN]
 refine Lp.iter p.length (fun i z=>z=((i:Int),((p.take i).foldl Zp3 (-1,-1)).1,((p.take i).foldl Zp3 (-1,-1)).2,((List.range N).map fun v=>(ZmS (p.take i) v:Int)),((List.range N).map fun v=>(upN (p.take i) v:Int)))) (by rw[← hrep,← hrep'];rfl) ?_
 rintro i z hle rfl R hR
 by_cases e:i < p.length
 ·have e':(i:Int) < (p.length:Int):=by omega
  simp only[decide_eq_true e',Int.toNat_natCast,cond_true]
  refine⟨⟨by omega,e'⟩,?_⟩
  have hmem:=Zj (d:=Za) e
  obtain⟨c,hcc⟩:∃ c,p.getD i Za=c:=⟨_,rfl⟩
  simp only[hcc] at hmem ⊢
  obtain⟨hcv,hcl⟩:=hc c hmem
  have hcN:c.2.2.1.length=N:=by omega
  obtain⟨st,hst⟩:∃ st,(p.take i).foldl Zp3 (-1,-1)=st:=⟨_,rfl⟩
  simp only[hst]
  have hs1:(p.take (i+1)).foldl Zp3 (-1,-1)=Zp3 st c:=by rw[ZbU (d:=Za) e,List.foldl_append,hst,hcc];rfl
  have hlo:∀ v,ZmS (p.take (i+1)) v=ZmS (p.take i) v+if c.1=0∧0 < Zd v c then 1 else 0:=fun v=>by rw[ZbU (d:=Za) e,ZrP,hcc]
  have hup:∀ v,upN (p.take (i+1)) v=upN (p.take i) v+if c.1=0∧Zd v c < 0 then 1 else 0:=fun v=>by rw[ZbU (d:=Za) e,Zsv,hcc]
  refine Lp.iter c.2.2.1.length (fun j z=>z=((j:Int),(if c.1=1 then ((Zbv 0 c.2.2.1).take j).foldl ZdD st else st).1,(if c.1=1 then ((Zbv 0 c.2.2.1).take j).foldl ZdD st else st).2,
   ((List.range N).map fun v=>(ZmS (p.take i) v:Int)+if v < j∧c.1=0∧0 < Zd v c then 1 else 0),((List.range N).map fun v=>(upN (p.take i) v:Int)+if v < j∧c.1=0∧Zd v c < 0 then 1 else 0))) (by simp) ?_
  rintro j z hj rfl R1 hR1
  by_cases ej:j < c.2.2.1.length
  ·have ej':(j:Int) < (c.2.2.1.length:Int):=by omega
   have hjN:j < N:=by omega
   have hcoef:c.2.2.1.getD j 0=Zd j c:=rfl
   have hst1:((Zbv 0 c.2.2.1).take (j+1)).foldl ZdD st=ZdD (((Zbv 0 c.2.2.1).take j).foldl ZdD st) (j,Zd j c):=by
    rw[ZjG 0 _ ej,List.foldl_append];rfl
   have hR1':=hR1 ej _ rfl
   simp only[hst1] at hR1'
   simp only[decide_eq_true ej',Int.toNat_natCast,cond_true,hcoef]
   refine⟨⟨by omega,ej'⟩,?_⟩
   have hfj:Zo IntKind.i64 ((j:Int)+1):=⟨by omega,by omega⟩
   have hsame:∀ (f:Nat→Int) (g:Nat→Prop) [DecidablePred g],(∀ v,v=j→¬ g v)→((List.range N).map fun v=>f v+if v < j+1∧g v then 1 else 0)=((List.range N).map fun v=>f v+if v < j∧g v then (1:Int) else 0):=fun f g _ hg=>by
    apply Zdg
    intro v hv
    congr 1
    by_cases hvj:v=j
    ·have:=hg v hvj
     rw[if_neg (fun h=>this h.2),if_neg (fun h=>this h.2)]
    ·by_cases hg':g v
     ·by_cases hlt:v < j
      ·rw[if_pos ⟨by omega,hg'⟩,if_pos ⟨hlt,hg'⟩]
      ·rw[if_neg (by omega),if_neg (by omega)]
     ·rw[if_neg (fun h=>hg' h.2),if_neg (fun h=>hg' h.2)]
   by_cases ha:Zd j c=0
   ·rw[ha]
    refine⟨hfj,?_⟩
    have hx:ZdD (((Zbv 0 c.2.2.1).take j).foldl ZdD st) (j,Zd j c)=((Zbv 0 c.2.2.1).take j).foldl ZdD st:=by unfold ZdD;rw[if_pos ha]
    rw[hx,hsame _ (fun v=>c.1=0∧0 < Zd v c) (fun v hv h=>by subst hv;omega),hsame _ (fun v=>c.1=0∧Zd v c < 0) (fun v hv h=>by subst hv;omega)] at hR1'
    exact hR1'
   ·have ha':(Zd j c == 0)=false:=by simpa using ha
    rw[ha',cond_false]
    by_cases h1:c.1=1
    ·have h1':(c.1 == 1)=true:=by simpa using h1
     rw[h1',cond_true]
     rw[hsame _ (fun v=>c.1=0∧0 < Zd v c) (fun v hv h=>by omega),hsame _ (fun v=>c.1=0∧Zd v c < 0) (fun v hv h=>by omega)] at hR1'
     simp only[if_pos h1] at hR1' ⊢
     unfold ZdD at hR1'
     rw[if_neg ha] at hR1'
     refine⟨fun h=>⟨h,trivial⟩,fun h=>by rw[h];rfl,?_⟩
     by_cases hu:Zd j c=1∨Zd j c=-1
     ·rw[show ((Zd j c == 1)||(Zd j c == (-(1:Int))))=true by simpa using hu,cond_true]
      simp only[if_pos hu] at hR1'
      exact⟨hfj,hR1'⟩
     ·rw[show ((Zd j c == 1)||(Zd j c == (-(1:Int))))=false by simpa using hu,cond_false]
      simp only[if_neg hu] at hR1'
      exact⟨hfj,hR1'⟩
    ·have h1':(c.1 == 1)=false:=by simpa using h1
     rw[h1',cond_false]
     simp only[if_neg h1] at hR1' ⊢
     refine⟨fun h=>⟨h,trivial⟩,fun h=>h,?_⟩
     simp only[List.length_map,List.length_range,ZdH hjN]
     have hlt0:(if j < j∧c.1=0∧0 < Zd j c then (1:Int) else 0)=0:=if_neg (by omega)
     have hlt1:(if j < j∧c.1=0∧Zd j c < 0 then (1:Int) else 0)=0:=if_neg (by omega)
     have hlb:=Zrp p i j
     have hub:=ZtC p i j
     by_cases h0':c.1=0
     ·have h0b:(c.1 == 0)=true:=by simpa using h0'
      by_cases hpos:0 < Zd j c
      ·rw[h0b,decide_eq_true hpos,Bool.and_self,cond_true]
       refine⟨⟨by omega,by omega⟩,hjN,⟨by omega,by omega⟩,⟨by omega,by omega⟩,hjN,hfj,?_⟩
       rw[hsame _ (fun v=>c.1=0∧Zd v c < 0) (fun v hv h=>by subst hv;omega)] at hR1'
       rw[hlt0,Int.add_zero]
       have hset:=ZfW (n:=N) (j:=j) (f:=fun v=>(ZmS (p.take i) v:Int)+if v < j∧c.1=0∧0 < Zd v c then 1 else 0) (g:=fun v=>(ZmS (p.take i) v:Int)+if v < j+1∧c.1=0∧0 < Zd v c then 1 else 0) (fun v hv=>by
        congr 1
        by_cases hlt:v < j
        ·by_cases hx:c.1=0∧0 < Zd v c
         ·rw[if_pos ⟨hlt,hx⟩,if_pos ⟨by omega,hx⟩]
         ·rw[if_neg (fun h=>hx h.2),if_neg (fun h=>hx h.2)]
        ·rw[if_neg (by omega),if_neg (by omega)])
       simp only[if_pos (show j < j+1∧c.1=0∧0 < Zd j c from ⟨by omega,h0',hpos⟩)] at hset
       rw[hset]
       exact hR1'
      ·rw[h0b,decide_eq_false hpos,Bool.and_false,cond_false,cond_true]
       refine⟨⟨by omega,by omega⟩,hjN,⟨by omega,by omega⟩,⟨by omega,by omega⟩,hjN,hfj,?_⟩
       rw[hsame _ (fun v=>c.1=0∧0 < Zd v c) (fun v hv h=>by subst hv;omega)] at hR1'
       rw[hlt1,Int.add_zero]
       have hneg:Zd j c < 0:=by omega
       have hset:=ZfW (n:=N) (j:=j) (f:=fun v=>(upN (p.take i) v:Int)+if v < j∧c.1=0∧Zd v c < 0 then 1 else 0) (g:=fun v=>(upN (p.take i) v:Int)+if v < j+1∧c.1=0∧Zd v c < 0 then 1 else 0) (fun v hv=>by
        congr 1
        by_cases hlt:v < j
        ·by_cases hx:c.1=0∧Zd v c < 0
         ·rw[if_pos ⟨hlt,hx⟩,if_pos ⟨by omega,hx⟩]
         ·rw[if_neg (fun h=>hx h.2),if_neg (fun h=>hx h.2)]
        ·rw[if_neg (by omega),if_neg (by omega)])
       simp only[if_pos (show j < j+1∧c.1=0∧Zd j c < 0 from ⟨by omega,h0',hneg⟩)] at hset
       rw[hset]
       exact hR1'
     ·have h0b:(c.1 == 0)=false:=by simpa using h0'
      rw[h0b,Bool.false_and,cond_false,cond_false]
      rw[hsame _ (fun v=>c.1=0∧0 < Zd v c) (fun v hv h=>h0' h.1),hsame _ (fun v=>c.1=0∧Zd v c < 0) (fun v hv h=>h0' h.1)] at hR1'
      exact⟨hfj,hR1'⟩
  ·have:j=c.2.2.1.length:=by omega
   subst this
   simp only[Int.lt_irrefl,decide_false,cond_false]
   refine⟨⟨by omega,by omega⟩,hR e _ ?_⟩
   rw[hs1]
   have ht:(Zbv 0 c.2.2.1).take c.2.2.1.length=Zbv 0 c.2.2.1:=by rw[← Zgv 0,List.take_length]
   have hE:(if c.1=1 then ((Zbv 0 c.2.2.1).take c.2.2.1.length).foldl ZdD st else st)=Zp3 st c:=by rw[ht];rfl
   rw[hE]
   congr 4
   ·apply Zdg
    intro v hv
    rw[hlo v]
    by_cases hx:c.1=0∧0 < Zd v c
    ·rw[if_pos ⟨by omega,hx⟩,if_pos hx];push_cast;rfl
    ·rw[if_neg (fun h=>hx h.2),if_neg hx];push_cast;rfl
   ·apply Zdg
    intro v hv
    rw[hup v]
    by_cases hx:c.1=0∧Zd v c < 0
    ·rw[if_pos ⟨by omega,hx⟩,if_pos hx];push_cast;rfl
    ·rw[if_neg (fun h=>hx h.2),if_neg hx];push_cast;rfl
 ·have:i=p.length:=by omega
  subst this
  simp only[Int.lt_irrefl,decide_false,cond_false,List.take_length]
  rw[← ZoX]
  unfold ZbP
  by_cases hu:0≤(Zir p).1
  ·rw[decide_eq_true hu,cond_true,if_pos hu]
  ·rw[decide_eq_false hu,cond_false,if_neg hu]
   by_cases hu2:0≤(Zir p).2
   ·rw[decide_eq_true hu2,cond_true,if_pos hu2]
   ·rw[decide_eq_false hu2,cond_false,if_neg hu2]
    simp only[Int.toNat_natCast,List.length_map,List.length_range]
    refine Lp.iter N (fun v z=>z=((v:Int),(ZfE p v:Int))) rfl ?_
    rintro v z hv rfl R1 hR1
    by_cases ev:v < N
    ·have hb:ZfE p v < N:=by
      by_cases h:v=0
      ·subst h;have:ZfE p 0=0:=rfl;omega
      ·have:=Zlr p v (by omega);omega
     simp only[decide_eq_true (show (v:Int) < (N:Int) by omega),Int.toNat_natCast,cond_true,ZdH ev,ZdH hb]
     have a1:=ZnF p v
     have a2:=ZqE p v
     have a3:=ZnF p (ZfE p v)
     have a4:=ZqE p (ZfE p v)
     have hR1':=hR1 ev _ rfl
     rw[ZgF] at hR1'
     refine⟨⟨by omega,by omega⟩,ev,⟨by omega,by omega⟩,ev,ZtX (by omega) (by omega),⟨by omega,by omega⟩,hb,⟨by omega,by omega⟩,hb,ZtX (by omega) (by omega),?_⟩
     have hcst:((ZmS p v:Int)*(upN p v:Int)≤(ZmS p (ZfE p v):Int)*(upN p (ZfE p v):Int))↔ZkW p v≤ZkW p (ZfE p v):=by
      unfold ZkW
      rw[← Int.ofNat_le];push_cast;exact Iff.rfl
     by_cases hle:ZkW p v≤ZkW p (ZfE p v)
     ·rw[decide_eq_true (hcst.2 hle),cond_true]
      unfold ZpG at hR1'
      rw[if_pos hle] at hR1'
      exact⟨⟨by omega,by omega⟩,hR1'⟩
     ·rw[decide_eq_false (fun h=>hle (hcst.1 h)),cond_false]
      unfold ZpG at hR1'
      rw[if_neg hle] at hR1'
      exact⟨⟨by omega,by omega⟩,hR1'⟩
    ·have:v=N:=by omega
     subst this
     simp only[Int.lt_irrefl,decide_false,cond_false]
theorem Zcv{c:Zc}(h:Zi c=true)(v:Nat):-1048576≤Zd v c∧Zd v c≤1048576 :=
 Zsi (P:=fun n=>-1048576≤n∧n≤1048576) (Zaj.b (Zi.lin h)).2.1 (by omega)
theorem Zq0{n:Int}:Za6 n=0↔n=0:=by unfold Za6;omega
def ZH.wp(x0:List (List Zc))(Q:(List (List Zc))×Int→Prop):Prop:=let v0:=ZN.fn (x0,());(ZN.pre (x0,())∧(((!(v0.2 != (0:Int)))=true→((!(v0.2 != (0:Int)))=true∧True))∧(((!(v0.2 != (0:Int)))=true→((!(v0.2 != (0:Int)))=true∧True))∧(((v0.2 != (0:Int))=false→(!(v0.2 != (0:Int)))=true)∧cond ((v0.2 != (0:Int))||decide ((400:Int) < ((List.length v0.1:Nat):Int))) (Q (([]:List (List (Zc))),(3:Int))) (Q (v0.1,(0:Int)))))))
def Z2.wp(x0:List Zc)(x1:Int)(x2:Int)(Q:(List Zc)→Prop):Prop:=let v0:=List.getD x0 (Int.toNat x1) Za;let v1:=List.getD v0.2.2.1 (Int.toNat x2) (0:Int);let v6:=Zm.fn (v0.2.2,(x2,()));let v8:=[((2:Int),(Zq.fn (v1,()),v6))];(((0:Int)≤x1∧x1 < ((List.length x0:Nat):Int))∧(((0:Int)≤x2∧x2 < ((List.length v0.2.2.1:Nat):Int))∧(((0:Int)≤x1∧x1 < ((List.length x0:Nat):Int))∧(Zm.pre (v0.2.2,(x2,()))∧cond (decide (v1 < (0:Int))) (Lp (σ:=Int×List (Zc)) (fun y4 R4=>let v2:=List.getD x0 (Int.toNat y4.1) Za;let v5:=[(v2.1,(v2.2.1,(Zm.fn (v2.2.2,(x2,())))))];let v7:=Z6.fn (v2,(x2,(Zq.fn (v1,()),((-(-(1:Int))),(v6,())))));cond (decide (y4.1 < ((List.length x0:Nat):Int))) (((0:Int)≤y4.1∧y4.1 < ((List.length x0:Nat):Int))∧cond (y4.1 == x1) (Zo IntKind.i64 (y4.1+(1:Int))∧R4 ((y4.1+(1:Int)),y4.2)) (((0:Int)≤x2∧x2 < ((List.length v2.2.2.1:Nat):Int))∧cond ((List.getD v2.2.2.1 (Int.toNat x2) (0:Int)) == (0:Int)) (Zm.pre (v2.2.2,(x2,()))∧((((List.length y4.2+List.length v5)*48)≤140737488355328∧(List.length y4.2+List.length v5)≤9223372036854775807)∧(Zo IntKind.i64 (y4.1+(1:Int))∧R4 ((y4.1+(1:Int)),(y4.2++v5))))) (Zq.pre (v1,())∧(Zo IntKind.i64 (-(-(1:Int)))∧(Z6.pre (v2,(x2,(Zq.fn (v1,()),((-(-(1:Int))),(v6,())))))∧((((List.length y4.2+List.length [v7])*48)≤140737488355328∧(List.length y4.2+List.length [v7])≤9223372036854775807)∧(Zo IntKind.i64 (y4.1+(1:Int))∧R4 ((y4.1+(1:Int)),(y4.2++[v7]))))))))) (Zq.pre (v1,())∧cond (decide ((1:Int) < Zq.fn (v1,()))) (Zq.pre (v1,())∧((((List.length y4.2+List.length v8)*48)≤140737488355328∧(List.length y4.2+List.length v8)≤9223372036854775807)∧Q (y4.2++v8))) (Q y4.2))) ((0:Int),([]:List (Zc)))) (Lp (σ:=Int×List (Zc)) (fun y4 R4=>let v2:=List.getD x0 (Int.toNat y4.1) Za;let v5:=[(v2.1,(v2.2.1,(Zm.fn (v2.2.2,(x2,())))))];let v9:=Z6.fn (v2,(x2,(Zq.fn (v1,()),((-(1:Int)),(v6,())))));cond (decide (y4.1 < ((List.length x0:Nat):Int))) (((0:Int)≤y4.1∧y4.1 < ((List.length x0:Nat):Int))∧cond (y4.1 == x1) (Zo IntKind.i64 (y4.1+(1:Int))∧R4 ((y4.1+(1:Int)),y4.2)) (((0:Int)≤x2∧x2 < ((List.length v2.2.2.1:Nat):Int))∧cond ((List.getD v2.2.2.1 (Int.toNat x2) (0:Int)) == (0:Int)) (Zm.pre (v2.2.2,(x2,()))∧((((List.length y4.2+List.length v5)*48)≤140737488355328∧(List.length y4.2+List.length v5)≤9223372036854775807)∧(Zo IntKind.i64 (y4.1+(1:Int))∧R4 ((y4.1+(1:Int)),(y4.2++v5))))) (Zq.pre (v1,())∧(Zo IntKind.i64 (-(1:Int))∧(Z6.pre (v2,(x2,(Zq.fn (v1,()),((-(1:Int)),(v6,())))))∧((((List.length y4.2+List.length [v9])*48)≤140737488355328∧(List.length y4.2+List.length [v9])≤9223372036854775807)∧(Zo IntKind.i64 (y4.1+(1:Int))∧R4 ((y4.1+(1:Int)),(y4.2++[v9]))))))))) (Zq.pre (v1,())∧cond (decide ((1:Int) < Zq.fn (v1,()))) (Zq.pre (v1,())∧((((List.length y4.2+List.length v8)*48)≤140737488355328∧(List.length y4.2+List.length v8)≤9223372036854775807)∧Q (y4.2++v8))) (Q y4.2))) ((0:Int),([]:List (Zc))))))))
theorem Lp.flt {α β : Type} {body : Int × List β → (Int × List β → Prop) → Prop} (l : List α) (d : α) (o : List β) (f : Nat × α → Bool) (g : Nat × α → β) (hl : l.length ≤ 9223372036854775807)
 (h:∀ (i:Nat) (t:List β) (R:Int×List β→Prop),i < l.length→(i:Int) < (l.length:Int)→Zo .i64 ((i:Int)+1)→t.length≤o.length+i→(f (i,l.getD i d)=true→R ((i:Int)+1,t++[g (i,l.getD i d)]))→(f (i,l.getD i d)=false→R ((i:Int)+1,t))→body ((i:Int),t) R)
 (h2:∀ R:Int×List β→Prop,(o++((Zbv d l).filter f).map g).length≤o.length+l.length→body ((l.length:Int),o++((Zbv d l).filter f).map g) R):Lp body (0,o):=by
 refine Lp.iter l.length (fun i y=>y=((i:Int),o++(((Zbv d l).take i).filter f).map g)) (by simp) ?_
 rintro i y hle rfl R hR
 have hlen:(o++(((Zbv d l).take i).filter f).map g).length≤o.length+i:=by
  have:=List.length_filter_le f ((Zbv d l).take i)
  rw[List.length_take] at this
  simp only[List.length_append,List.length_map];omega
 by_cases e:i < l.length
 ·have hR':=hR e _ rfl
  rw[ZjG d l e,List.filter_append] at hR'
  refine h i _ R e (by omega) ⟨by omega,by omega⟩ hlen (fun hf=>?_) (fun hf=>?_)
  ·rw[List.filter_cons_of_pos hf,List.filter_nil,List.map_append,← List.append_assoc] at hR'
   exact hR'
  ·rw[List.filter_cons_of_neg (by rw[hf];simp),List.filter_nil,List.append_nil] at hR'
   exact hR'
 ·have:i=l.length:=by omega
  subst this
  have ht:(Zbv d l).take l.length=Zbv d l:=by rw[← Zgv d,List.take_length]
  rw[ht] at hlen ⊢
  exact h2 R hlen
theorem Zrj{α:Type}(d:α)(l:List α):(Zbv d l).map (·.2)=l:=by
 apply List.ext_getElem (by simp[Zbv])
 intro i h1 h2
 simp only[Zbv,List.getElem_map,List.getElem_range]
 exact ZD h2
theorem ZdM{α β:Type}(d:α)(l:List α)(f:α→Bool)(g:α→β):((Zbv d l).filter fun ix=>f ix.2).map (fun ix=>g ix.2)=(l.filter f).map g:=by
 have h:((Zbv d l).map (·.2)).filter f=l.filter f:=by rw[Zrj]
 rw[← h,List.filter_map,List.map_map]
 rfl
theorem ZqR{α:Type}{d:α}{l:List α}{ix:Nat×α}(h:ix∈Zbv d l):ix.1 < l.length∧ix.2=l.getD ix.1 d∧ix.2∈l:=by
 simp only[Zbv,List.mem_map,List.mem_range] at h
 obtain⟨i,hi,rfl⟩:=h
 exact⟨hi,rfl,Zj hi⟩
theorem Lp.flat {α β : Type} {body : Int × List β → (Int × List β → Prop) → Prop} (l : List α) (d : α) (o : List β) (g : α → List β) (hl : l.length ≤ 9223372036854775807)
 (h:∀ (i:Nat) (R:Int×List β→Prop),i < l.length→(i:Int) < (l.length:Int)→Zo .i64 ((i:Int)+1)→R ((i:Int)+1,(o++(l.take i).flatMap g)++g (l.getD i d))→body ((i:Int),o++(l.take i).flatMap g) R)
 (h2:∀ R:Int×List β→Prop,body ((l.length:Int),o++l.flatMap g) R):Lp body (0,o):=by
 refine Lp.iter l.length (fun i y=>y=((i:Int),o++(l.take i).flatMap g)) (by simp) ?_
 rintro i y hle rfl R hR
 by_cases e:i < l.length
 ·refine h i R e (by omega) ⟨by omega,by omega⟩ (hR e _ ?_)
  rw[ZbU (d:=d) e,List.flatMap_append]
  simp
 ·have:i=l.length:=by omega
  subst this
  rw[List.take_length]
  exact h2 R
theorem ZcA{α β:Type}{g:α→List β}{k:Nat}:∀ {l:List α},(∀ x∈l,(g x).length≤k)→(l.flatMap g).length≤l.length*k
 | [],_=>by simp
 | x::l,h=>by
   rw[List.flatMap_cons,List.length_append,List.length_cons,Nat.succ_mul]
   have h1:=h x (by simp)
   have h2:=ZcA (l:=l) fun y hy=>h y (List.mem_cons_of_mem _ hy)
   omega
theorem Zsw{a b:Int}(ha:-1048576≤a∧a≤1048576)(hb:-1048576≤b∧b≤1048576):-1099511627776≤a*b∧a*b≤1099511627776 :=
 Zdf (n:=1048576) (m:=1048576) (by omega) (by omega) ha.1 ha.2 hb.1 hb.2
theorem Ziw{a:Int}(ha:-1048576≤a∧a≤1048576):-1048576≤Za6 a∧Za6 a≤1048576:=by unfold Za6;omega
theorem Zz.spec(x:Pc)(hp:Zz.pre (x,())):Zz.wp x (fun r=>r=Zz.fn (x,())):=by
 obtain⟨⟨k,h400,⟨hpl,hpb⟩,_,_⟩,h0,h1⟩:=hp
 simp only at h400 hpl hpb h0 h1
 have hfn:Zz.fn (x,())=[Zez x]:=rfl
 simp only[Zz.wp,hfn]
 unfold Zez
 have he:x.2.2.2.1.toNat < x.2.2.1.length:=by omega
 have hmem:=Zj (d:=ZbX) he
 obtain⟨e,hee⟩:∃ e,x.2.2.1.getD x.2.2.2.1.toNat ZbX=e:=⟨_,rfl⟩
 simp only[hee] at hmem ⊢
 obtain⟨heM,hea,heL,hek⟩:=hpb e hmem
 refine⟨⟨h0,h1⟩,Zqi.of (P:=fun y=>y.1=Za6 e.2.1∧-y.2.1=(if e.2.1 < 0 then 1 else -1)) ?_ ?_⟩
 ·rintro⟨size,s,b1,b2⟩ ⟨hy1,hy2⟩
  simp only at hy1 hy2
  simp only[hy1,hy2]
  have key:∀ o:List Zc,o=x.2.1→Lp (σ:=Int×List (Zc)) (fun y4 R4=>let v1:=List.getD x.2.2.1 (Int.toNat y4.1) (Za,((0:Int),(([]:List Int),(0:Int))));let v3:=[(v1.1.1,((Za6 e.2.1*v1.1.2.1),(ZJ.fn (Za6 e.2.1,(v1.2.2,(((if e.2.1 < 0 then 1 else -1)*v1.2.1),(e.2.2,())))))))];cond (decide (y4.1 < ((List.length x.2.2.1:Nat):Int))) (((0:Int)≤y4.1∧y4.1 < ((List.length x.2.2.1:Nat):Int))∧cond (y4.1 != x.2.2.2.1) (Zo IntKind.i64 (Za6 e.2.1*v1.1.2.1)∧(Zo IntKind.i64 (if e.2.1 < 0 then 1 else -1)∧(Zo IntKind.i64 ((if e.2.1 < 0 then 1 else -1)*v1.2.1)∧(ZJ.pre (Za6 e.2.1,(v1.2.2,(((if e.2.1 < 0 then 1 else -1)*v1.2.1),(e.2.2,()))))∧((((List.length y4.2+List.length v3)*48)≤140737488355328∧(List.length y4.2+List.length v3)≤9223372036854775807)∧(Zo IntKind.i64 (y4.1+(1:Int))∧R4 ((y4.1+(1:Int)),(y4.2++v3)))))))) (Zo IntKind.i64 (y4.1+(1:Int))∧R4 ((y4.1+(1:Int)),y4.2))) (cond (decide ((1:Int) < Za6 e.2.1)) ((((List.length y4.2+List.length [((2:Int),(Za6 e.2.1,e.2.2))])*48)≤140737488355328∧(List.length y4.2+List.length [((2:Int),(Za6 e.2.1,e.2.2))])≤9223372036854775807)∧[(y4.2++[((2:Int),(Za6 e.2.1,e.2.2))])]=[x.2.1++((Zbv ZbX x.2.2.1).filter fun jq=>decide ((jq.1:Int)≠x.2.2.2.1)).map (fun jq=>Zug e jq.2)++(if 1 < Za6 e.2.1 then [(2,Za6 e.2.1,e.2.2)] else [])]) ([y4.2]=[x.2.1++((Zbv ZbX x.2.2.1).filter fun jq=>decide ((jq.1:Int)≠x.2.2.2.1)).map (fun jq=>Zug e jq.2)++(if 1 < Za6 e.2.1 then [(2,Za6 e.2.1,e.2.2)] else [])]))) ((0:Int),o):=by
   intro o ho
   refine Lp.flt x.2.2.1 ZbX o (fun jq=>decide ((jq.1:Int)≠x.2.2.2.1)) (fun jq=>Zug e jq.2) (by omega) (fun i t R hi hi' hf htl h1 h2=>?_) (fun R hlen=>?_)
   ·have hm:=Zj (d:=ZbX) hi
    simp only[decide_eq_true hi',Int.toNat_natCast,cond_true]
    obtain⟨q,hq⟩:∃ q,x.2.2.1.getD i ZbX=q:=⟨_,rfl⟩
    simp only[hq] at hm h1 h2 ⊢
    obtain⟨hqM,hqa,hqL,hqk⟩:=hpb q hm
    refine⟨⟨by omega,hi'⟩,?_⟩
    by_cases hne:(i:Int)≠x.2.2.2.1
    ·rw[show ((i:Int) != x.2.2.2.1)=true by simpa using hne,cond_true]
     have hab:=Ziw hea
     have hpr:=Zsw hab hqM
     have hs:-1048576≤(if e.2.1 < 0 then (1:Int) else -1)*q.2.1∧(if e.2.1 < 0 then (1:Int) else -1)*q.2.1≤1048576:=by split<;>omega
     have hsf:Zo IntKind.i64 (if e.2.1 < 0 then (1:Int) else -1):=by split<;>exact⟨by omega,by omega⟩
     refine⟨⟨by omega,by omega⟩,hsf,⟨by omega,by omega⟩,⟨hab,hqL,hs,heL,by show q.2.2.1.length=e.2.2.1.length;omega⟩,⟨by simp only[List.length_singleton];subst ho;omega,by simp only[List.length_singleton];subst ho;omega⟩,hf,h1 (decide_eq_true hne)⟩
    ·rw[show ((i:Int) != x.2.2.2.1)=false by simpa using hne,cond_false]
     exact⟨hf,h2 (decide_eq_false hne)⟩
   ·simp only[Int.lt_irrefl,decide_false,cond_false]
    subst ho
    by_cases ha:1 < Za6 e.2.1
    ·rw[decide_eq_true ha,cond_true,if_pos ha]
     exact⟨⟨by simp only[List.length_singleton];omega,by simp only[List.length_singleton];omega⟩,rfl⟩
    ·rw[decide_eq_false ha,cond_false,if_neg ha,List.append_nil]
  rintro (_ | _) hb
  ·simp only[cond_false,List.nil_append,List.length_nil,Nat.zero_add]
   exact⟨⟨by omega,by omega⟩,key _ rfl⟩
  ·simp only[cond_true]
   exact key _ (hb rfl).symm
 ·intro R hR
  by_cases ha:e.2.1 < 0
  ·rw[decide_eq_true ha,cond_true]
   exact⟨⟨by omega,by omega⟩,hR _ ⟨by simp only;unfold Za6;omega,by simp only[if_pos ha];omega⟩⟩
  ·rw[decide_eq_false ha,cond_false]
   exact hR _ ⟨by simp only;unfold Za6;omega,by simp only[if_neg ha]⟩
theorem Zw.spec(x:Pc)(hp:Zw.pre (x,())):Zw.wp x (fun r=>r=Zw.fn (x,())):=by
 obtain⟨k,h400,_,⟨hll,hlb⟩,⟨hul,hub⟩⟩:=hp
 simp only at h400 hll hlb hul hub
 obtain⟨g,hg⟩:∃ g:Part→List Zc,g=fun l=>x.2.2.2.2.2.1.map fun u=>(0,0,Zck l.2.1 u.2.2 (-u.2.1) l.2.2):=⟨_,rfl⟩
 have hfn:Zw.fn (x,())=[x.2.1++x.2.2.2.2.1.flatMap g]:=by rw[hg]
 simp only[Zw.wp,hfn]
 have hgl:∀ l:List Part,l.length≤400→(l.flatMap g).length≤160000:=fun l hl=>by
  have:=ZcA (g:=g) (k:=400) (l:=l) fun y hy=>by rw[hg];simp only[List.length_map];exact hul
  have:=Nat.mul_le_mul hl (Nat.le_refl 400)
  omega
 have key:∀ o:List Zc,o=x.2.1→Lp (σ:=Int×List (Zc)) (fun y3 R3=>let v3:=List.getD x.2.2.2.2.1 (Int.toNat y3.1) (Za,((0:Int),(([]:List Int),(0:Int))));cond (decide (y3.1 < ((List.length x.2.2.2.2.1:Nat):Int))) (((0:Int)≤y3.1∧y3.1 < ((List.length x.2.2.2.2.1:Nat):Int))∧Lp (σ:=Int×List (Zc)) (fun y5 R5=>let v2:=List.getD x.2.2.2.2.2.1 (Int.toNat y5.1) (Za,((0:Int),(([]:List Int),(0:Int))));let v5:=[((0:Int),((0:Int),(ZJ.fn (v3.2.1,(v2.2.2,((-v2.2.1),(v3.2.2,())))))))];cond (decide (y5.1 < ((List.length x.2.2.2.2.2.1:Nat):Int))) (((0:Int)≤y5.1∧y5.1 < ((List.length x.2.2.2.2.2.1:Nat):Int))∧(Zo IntKind.i64 (-v2.2.1)∧(ZJ.pre (v3.2.1,(v2.2.2,((-v2.2.1),(v3.2.2,()))))∧((((List.length y5.2+List.length v5)*48)≤140737488355328∧(List.length y5.2+List.length v5)≤9223372036854775807)∧(Zo IntKind.i64 (y5.1+(1:Int))∧R5 ((y5.1+(1:Int)),(y5.2++v5))))))) (Zo IntKind.i64 (y3.1+(1:Int))∧R3 ((y3.1+(1:Int)),y5.2))) ((0:Int),y3.2)) ([y3.2]=[x.2.1++x.2.2.2.2.1.flatMap g])) ((0:Int),o):=by
  intro o ho
  refine Lp.flat x.2.2.2.2.1 ZbX o g (by omega) (fun i R hi hi' hf hR=>?_) (fun R=>?_)
  ·have hm:=Zj (d:=ZbX) hi
   simp only[decide_eq_true hi',Int.toNat_natCast,cond_true]
   obtain⟨l,hl⟩:∃ l,x.2.2.2.2.1.getD i ZbX=l:=⟨_,rfl⟩
   simp only[hl] at hm hR ⊢
   obtain⟨hqM,hqa,hqL,hqk⟩:=hlb l hm
   refine⟨⟨by omega,hi'⟩,?_⟩
   have htk:(x.2.2.2.2.1.take i).length≤400:=by rw[List.length_take];omega
   have ho1:=hgl _ htk
   refine Lp.flt x.2.2.2.2.2.1 ZbX _ (fun _=>true) (fun ju=>(0,0,Zck l.2.1 ju.2.2.2 (-ju.2.2.1) l.2.2)) (by omega) (fun j t R1 hj hj' hfj htl h1 h2=>?_) (fun R1 hlen=>?_)
   ·have hmu:=Zj (d:=ZbX) hj
    simp only[decide_eq_true hj',Int.toNat_natCast,cond_true]
    obtain⟨u,hu⟩:∃ u,x.2.2.2.2.2.1.getD j ZbX=u:=⟨_,rfl⟩
    simp only[hu] at hmu h1 ⊢
    obtain⟨huM,hua,huL,huk⟩:=hub u hmu
    have htl':t.length≤170000:=by rw[List.length_append] at htl;subst ho;omega
    exact⟨⟨by omega,hj'⟩,⟨by omega,by omega⟩,⟨hqa,huL,⟨by show -1048576≤-u.2.1;omega,by show -u.2.1≤1048576;omega⟩,hqL,by show u.2.2.1.length=l.2.2.1.length;omega⟩,⟨by simp only[List.length_singleton];omega,by simp only[List.length_singleton];omega⟩,hfj,h1 trivial⟩
   ·simp only[Int.lt_irrefl,decide_false,cond_false]
    refine⟨hf,?_⟩
    have e:=ZdM ZbX x.2.2.2.2.2.1 (fun _=>true) (fun u=>((0:Int),(0:Int),Zck l.2.1 u.2.2 (-u.2.1) l.2.2))
    rw[e,List.filter_eq_self.2 (fun _ _=>rfl)]
    rw[hg] at hR ⊢
    exact hR
  ·simp only[Int.lt_irrefl,decide_false,cond_false]
   rw[ho]
 rintro (_ | _) hb
 ·simp only[cond_false,List.nil_append,List.length_nil,Nat.zero_add]
  exact⟨⟨by omega,by omega⟩,key _ rfl⟩
 ·simp only[cond_true]
  exact key _ (hb rfl).symm
theorem Zr2{n l:Int}(hl:l≠0)(hn:-1048576≤n∧n≤1048576):-1048576≤n.tdiv l∧n.tdiv l≤1048576:=by
 have h:(n.tdiv l).natAbs≤n.natAbs:=by rw[Int.natAbs_tdiv];exact Nat.div_le_self _ _
 omega
theorem Zn.spec(x:Pc)(l:Int)(w:Lin)(all:Bool)(hp:Zn.pre (x,l,w,all,())):Zn.wp x l w all (fun r=>r=Zn.fn (x,l,w,all,())):=by
 obtain⟨⟨k,⟨h400,⟨hpl,hpb⟩,_,_⟩,hwk⟩,hl0,hw⟩:=hp
 simp only at h400 hpl hpb hwk hl0 hw
 have hfn:Zn.fn (x,l,w,all,())=x.2.1++(x.2.2.1.filter fun q=>all||decide (q.1.1=2)).map (fun q=>(q.1.1,q.1.2.1,Zck 1 q.2.2 (q.2.1.tdiv l) w))++[(2,l,w)]:=rfl
 simp only[Zn.wp,hfn]
 have key:∀ o:List Zc,o=x.2.1→Lp (σ:=Int×List (Zc)) (fun y6 R6=>let v0:=List.getD x.2.2.1 (Int.toNat y6.1) (Za,((0:Int),(([]:List Int),(0:Int))));let v2:=[(v0.1.1,(v0.1.2.1,(ZJ.fn ((1:Int),(v0.2.2,(Int.tdiv v0.2.1 l,(w,())))))))];cond (decide (y6.1 < ((List.length x.2.2.1:Nat):Int))) (((0:Int)≤y6.1∧y6.1 < ((List.length x.2.2.1:Nat):Int))∧(((!all)=true→((!all)=true∧True))∧(((!all)=true→((!all)=true∧True))∧(((!all)=true→((!all)=true∧True))∧((all=false→(!all)=true)∧cond (all||(v0.1.1 == (2:Int))) ((l≠(0:Int)∧Zo IntKind.i64 (Int.tdiv v0.2.1 l))∧(ZJ.pre ((1:Int),(v0.2.2,(Int.tdiv v0.2.1 l,(w,()))))∧((((List.length y6.2+List.length v2)*48)≤140737488355328∧(List.length y6.2+List.length v2)≤9223372036854775807)∧(Zo IntKind.i64 (y6.1+(1:Int))∧R6 ((y6.1+(1:Int)),(y6.2++v2)))))) (Zo IntKind.i64 (y6.1+(1:Int))∧R6 ((y6.1+(1:Int)),y6.2))))))) ((((List.length y6.2+List.length ([((2:Int),(l,w))]))*48)≤140737488355328∧(List.length y6.2+List.length ([((2:Int),(l,w))]))≤9223372036854775807)∧(y6.2++[((2:Int),(l,w))])=x.2.1++(x.2.2.1.filter fun q=>all||decide (q.1.1=2)).map (fun q=>(q.1.1,q.1.2.1,Zck 1 q.2.2 (q.2.1.tdiv l) w))++[(2,l,w)])) ((0:Int),o):=by
  intro o ho
  refine Lp.flt x.2.2.1 ZbX o (fun jq=>all||decide (jq.2.1.1=2)) (fun jq=>(jq.2.1.1,jq.2.1.2.1,Zck 1 jq.2.2.2 (jq.2.2.1.tdiv l) w)) (by omega) (fun i t R hi hi' hf htl h1 h2=>?_) (fun R hlen=>?_)
  ·have hm:=Zj (d:=ZbX) hi
   simp only[decide_eq_true hi',Int.toNat_natCast,cond_true]
   obtain⟨q,hq⟩:∃ q,x.2.2.1.getD i ZbX=q:=⟨_,rfl⟩
   simp only[hq] at hm h1 h2 ⊢
   obtain⟨hqM,hqa,hqL,hqk⟩:=hpb q hm
   have htd:=Zr2 hl0 hqa
   refine⟨⟨by omega,hi'⟩,fun h=>⟨h,trivial⟩,fun h=>⟨h,trivial⟩,fun h=>⟨h,trivial⟩,fun h=>by rw[h];rfl,?_⟩
   have hcb:(all||(q.1.1 == 2))=(all||decide (q.1.1=2)):=rfl
   rw[hcb]
   cases hb:(all||decide (q.1.1=2)) with
   | true =>
     rw[cond_true]
     exact⟨⟨hl0,⟨by omega,by omega⟩⟩,⟨⟨by show (-1048576:Int)≤1;omega,by show (1:Int)≤1048576;omega⟩,hqL,htd,hw,by show q.2.2.1.length=w.1.length;omega⟩,⟨by simp only[List.length_singleton];subst ho;omega,by simp only[List.length_singleton];subst ho;omega⟩,hf,h1 hb⟩
   | false =>
     rw[cond_false]
     exact⟨hf,h2 hb⟩
  ·simp only[Int.lt_irrefl,decide_false,cond_false]
   subst ho
   refine⟨⟨by simp only[List.length_singleton];omega,by simp only[List.length_singleton];omega⟩,?_⟩
   rw[ZdM ZbX x.2.2.1 (fun q=>all||decide (q.1.1=2)) (fun q=>(q.1.1,q.1.2.1,Zck 1 q.2.2 (q.2.1.tdiv l) w))]
 rintro (_ | _) hb
 ·simp only[cond_false,List.nil_append,List.length_nil,Nat.zero_add]
  exact⟨⟨by omega,by omega⟩,key _ rfl⟩
 ·simp only[cond_true]
  exact key _ (hb rfl).symm
theorem ZgV{l:Lin}(h:ZcR l)(v:Nat):ZcR (ZcU l.1 v,l.2) :=
 ⟨by have : (ZcU l.1 v).length ≤ l.1.length := by unfold ZcU; simp; omega
     have:=h.1
     show (ZcU l.1 v).length≤_;omega,fun n hn=>h.2.1 n (Zov hn),h.2.2⟩
theorem Z6.spec(c:Zc)(v m k:Int)(w:Lin)(hp:Z6.pre (c,v,m,k,w,())):Z6.wp c v m k w (fun r=>r=Z6.fn (c,v,m,k,w,())):=by
 obtain⟨⟨n,⟨hM,hL,hn⟩,hn4,hwn,hv0,hv1⟩,hcf,hm,hk,hw⟩:=hp
 simp only at hM hL hn hn4 hwn hv0 hv1 hcf hm hk hw
 simp only[Z6.wp,Z6.fn]
 have hlen:(v:Int) < (c.2.2.1.length:Int):=by omega
 have hcoef:c.2.2.1.getD v.toNat 0=Zd v.toNat c:=rfl
 have hpr:=Zsw hM hm
 have hck:-1048576≤Zd v.toNat c*k∧Zd v.toNat c*k≤1048576:=by rcases hk with rfl | rfl<;>omega
 have hcl:(ZcU c.2.2.1 v.toNat).length=c.2.2.1.length - 1:=ZhI (by omega)
 refine⟨⟨by show c.2.2.1.length≤1048576;omega,hv0,hlen⟩,⟨by omega,by omega⟩,⟨hv0,hlen⟩,⟨by rw[hcoef];omega,by rw[hcoef];omega⟩,⟨hm,ZgV hL _,by rw[hcoef];exact hck,hw,by show (ZcU c.2.2.1 v.toNat).length=w.1.length;omega⟩,rfl⟩
theorem ZH.spec(l:List (List Zc))(hp:ZH.pre (l,())):ZH.wp l (fun r=>r=ZH.fn (l,())):=by
 have hfn:ZH.fn (l,())=Zed l:=rfl
 simp only[ZH.wp,hfn]
 have hpf:ZN.fn (l,())=Zfq l:=rfl
 simp only[hpf]
 refine⟨hp,fun h=>⟨h,trivial⟩,fun h=>⟨h,trivial⟩,fun h=>by rw[h];rfl,?_⟩
 have ht:ZfG l=(l.foldlM Zb6 []).bind fun o=>if 400 < o.length then none else some o:=Zll l [] (by simp)
 unfold Zed Zfq
 simp only[ht]
 rcases Z9 (l.foldlM Zb6 []) with e | ⟨out,e⟩
 ·simp only[e]
  rfl
 ·simp only[e,Option.bind_some]
  by_cases h:400 < out.length
  ·simp only[if_pos h,decide_eq_true (show (400:Int) < ((out.length:Nat):Int) by omega),Bool.or_true,cond_true]
  ·simp only[if_neg h,decide_eq_false (show ¬ (400:Int) < ((out.length:Nat):Int) by omega)]
   simp
theorem pieceN.c{p:List Zc}{n:Int}(h:pieceN p n){c:Zc}(hc:c∈p):Zi c=true∧(c.2.2.1.length:Int)=n:=h.2.1 c hc
theorem Zjc{c:Zc}(h:Zi c=true):-1048576≤c.2.1∧c.2.1≤1048576:=by
 unfold Zi at h
 split at h
 ·simp only[Bool.and_eq_true,beq_iff_eq] at h;omega
 ·split at h
  ·simp only[Bool.and_eq_true,decide_eq_true_iff] at h;omega
  ·cases h
theorem Zfp{c:Zc}(h:Zi c=true):ZcR c.2.2:=by
 have hl:=Zaj.b (Zi.lin h)
 exact⟨by show c.2.2.1.length≤1048576;omega,fun n hn=>by have:=hl.2.1 n hn;omega,by show -4294967296≤c.2.2.2;omega,by show c.2.2.2≤4294967296;omega⟩
theorem Z2.spec(p:List Zc)(eq v:Int)(hp:Z2.pre (p,eq,v,())):Z2.wp p eq v (fun r=>r=Z2.fn (p,eq,v,())):=by
 obtain⟨⟨n,hN,hv0,hv1⟩,h0,h1,hne⟩:=hp
 simp only at hN hv0 hv1 h0 h1 hne
 have hfn:Z2.fn (p,eq,v,())=Zcz v.toNat p eq.toNat:=rfl
 have hwo:∀ l:Lin,Zm.fn (l,v,())=(ZcU l.1 v.toNat,l.2):=fun _=>rfl
 have hpu:∀ c m k w,Z6.fn (c,v,m,k,w,())=(c.1,c.2.1*m,Zck m (ZaC v.toNat c) (Zd v.toNat c*k) w):=fun _ _ _ _=>rfl
 simp only[Z2.wp,hfn,Zq.fn,hwo,hpu]
 have he:eq.toNat < p.length:=by omega
 have hmem:=Zj (d:=Za) he
 have hsp:Zcz v.toNat p eq.toNat=((Zbv Za p).filter fun jc=>decide (jc.1≠eq.toNat)).map (fun jc=>if Zd v.toNat jc.2=0 then Zc1 v.toNat jc.2 else ZlV v.toNat (p.getD eq.toNat Za) jc.2) ++
  (if 1 < Za6 (Zd v.toNat (p.getD eq.toNat Za)) then [(2,Za6 (Zd v.toNat (p.getD eq.toNat Za)),ZaC v.toNat (p.getD eq.toNat Za))] else []):=rfl
 rw[hsp]
 obtain⟨e,hee⟩:∃ e,p.getD eq.toNat Za=e:=⟨_,rfl⟩
 simp only[hee] at hmem hne ⊢
 obtain⟨hev,hel⟩:=hN.c hmem
 have hcoefe:e.2.2.1.getD v.toNat 0=Zd v.toNat e:=rfl
 simp only[hcoefe]
 obtain⟨a,ha⟩:∃ a,Zd v.toNat e=a:=⟨_,rfl⟩
 have hab:=Zcv hev v.toNat
 simp only[ha] at hne hab ⊢
 have hel12:e.2.2.1.length≤12:=by have:=hN.2.2.2;omega
 refine⟨⟨h0,h1⟩,⟨hv0,by omega⟩,⟨h0,h1⟩,⟨by show e.2.2.1.length≤1048576;omega,hv0,by show v < (e.2.2.1.length:Int);omega⟩,?_⟩
 have hsz:Zfb a:=⟨by omega,by omega⟩
 have key:∀ k:Int,k=(if a < 0 then 1 else -1)→Lp (σ:=Int×List (Zc)) (fun y4 R4=>let v2:=List.getD p (Int.toNat y4.1) Za;let v5:=[(v2.1,(v2.2.1,(ZcU v2.2.2.1 v.toNat,v2.2.2.2)))];let v7:=((v2.1,v2.2.1*Za6 a,Zck (Za6 a) (ZaC v.toNat v2) (Zd v.toNat v2*k) (ZcU e.2.2.1 v.toNat,e.2.2.2)):Zc);cond (decide (y4.1 < ((List.length p:Nat):Int))) (((0:Int)≤y4.1∧y4.1 < ((List.length p:Nat):Int))∧cond (y4.1 == eq) (Zo IntKind.i64 (y4.1+(1:Int))∧R4 ((y4.1+(1:Int)),y4.2)) (((0:Int)≤v∧v < ((List.length v2.2.2.1:Nat):Int))∧cond ((List.getD v2.2.2.1 (Int.toNat v) (0:Int)) == (0:Int)) (Zm.pre (v2.2.2,(v,()))∧((((List.length y4.2+List.length v5)*48)≤140737488355328∧(List.length y4.2+List.length v5)≤9223372036854775807)∧(Zo IntKind.i64 (y4.1+(1:Int))∧R4 ((y4.1+(1:Int)),(y4.2++v5))))) (Zq.pre (a,())∧(Zo IntKind.i64 k∧(Z6.pre (v2,(v,(Za6 a,(k,((ZcU e.2.2.1 v.toNat,e.2.2.2),())))))∧((((List.length y4.2+List.length [v7])*48)≤140737488355328∧(List.length y4.2+List.length [v7])≤9223372036854775807)∧(Zo IntKind.i64 (y4.1+(1:Int))∧R4 ((y4.1+(1:Int)),(y4.2++[v7]))))))))) (Zq.pre (a,())∧cond (decide ((1:Int) < Za6 a)) (Zq.pre (a,())∧((((List.length y4.2+List.length [((2:Int),(Za6 a,(ZcU e.2.2.1 v.toNat,e.2.2.2)))])*48)≤140737488355328∧(List.length y4.2+List.length [((2:Int),(Za6 a,(ZcU e.2.2.1 v.toNat,e.2.2.2)))])≤9223372036854775807)∧(y4.2++[((2:Int),(Za6 a,(ZcU e.2.2.1 v.toNat,e.2.2.2)))])=((Zbv Za p).filter fun jc=>decide (jc.1≠eq.toNat)).map (fun jc=>if Zd v.toNat jc.2=0 then Zc1 v.toNat jc.2 else ZlV v.toNat e jc.2)++(if 1 < Za6 a then [(2,Za6 a,ZaC v.toNat e)] else []))) (y4.2=((Zbv Za p).filter fun jc=>decide (jc.1≠eq.toNat)).map (fun jc=>if Zd v.toNat jc.2=0 then Zc1 v.toNat jc.2 else ZlV v.toNat e jc.2)++(if 1 < Za6 a then [(2,Za6 a,ZaC v.toNat e)] else [])))) ((0:Int),([]:List (Zc))):=by
  intro k hk
  have h400:=hN.1
  refine Lp.flt p Za [] (fun jc=>decide (jc.1≠eq.toNat)) (fun jc=>if Zd v.toNat jc.2=0 then Zc1 v.toNat jc.2 else ZlV v.toNat e jc.2) (by omega) (fun i t R hi hi' hf htl h1 h2=>?_) (fun R hlen=>?_)
  ·have hm:=Zj (d:=Za) hi
   simp only[decide_eq_true hi',Int.toNat_natCast,cond_true]
   obtain⟨c,hq⟩:∃ c,p.getD i Za=c:=⟨_,rfl⟩
   simp only[hq] at hm h1 h2 ⊢
   obtain⟨hcv,hcl⟩:=hN.c hm
   refine⟨⟨by omega,hi'⟩,?_⟩
   by_cases hie:(i:Int)=eq
   ·rw[show ((i:Int) == eq)=true by simpa using hie,cond_true]
    exact⟨hf,h2 (by simp;omega)⟩
   ·rw[show ((i:Int) == eq)=false by simpa using hie,cond_false]
    have h1':=h1 (by simp;omega)
    have hcoefc:c.2.2.1.getD v.toNat 0=Zd v.toNat c:=rfl
    simp only[hcoefc]
    refine⟨⟨hv0,by omega⟩,?_⟩
    simp only[List.length_nil,Nat.zero_add] at htl
    by_cases hc0:Zd v.toNat c=0
    ·rw[show (Zd v.toNat c == 0)=true by simpa using hc0,cond_true]
     rw[if_pos hc0] at h1'
     exact⟨⟨by show c.2.2.1.length≤1048576;omega,hv0,by show v < (c.2.2.1.length:Int);omega⟩,⟨by simp only[List.length_singleton];omega,by simp only[List.length_singleton];omega⟩,hf,h1'⟩
    ·rw[show (Zd v.toNat c == 0)=false by simpa using hc0,cond_false]
     rw[if_neg hc0] at h1'
     have hput:ZlV v.toNat e c=(c.1,c.2.1*Za6 a,Zck (Za6 a) (ZaC v.toNat c) (Zd v.toNat c*k) (ZcU e.2.2.1 v.toNat,e.2.2.2)):=by
      rw[hk];unfold ZlV;rw[ha];rfl
     rw[hput] at h1'
     have hcle:(ZcU e.2.2.1 v.toNat).length=e.2.2.1.length - 1:=ZhI (by omega)
     refine⟨hsz,by rw[hk];split<;>exact⟨by omega,by omega⟩,⟨⟨c.2.2.1.length,⟨Zjc hcv,Zfp hcv,rfl⟩,by have:=hN.2.2.2;omega,by show (ZcU e.2.2.1 v.toNat).length+1=c.2.2.1.length;omega,hv0,by show v < (c.2.2.1.length:Int);omega⟩,Zcv hcv _,Ziw hab,by show k=1∨k=-1;rw[hk];split<;>simp,ZgV (Zfp hev) _⟩,⟨by simp only[List.length_singleton];omega,by simp only[List.length_singleton];omega⟩,hf,h1'⟩
  ·simp only[Int.lt_irrefl,decide_false,cond_false,List.nil_append] at hlen ⊢
   simp only[List.length_nil,Nat.zero_add] at hlen
   refine⟨hsz,?_⟩
   by_cases h1a:1 < Za6 a
   ·rw[decide_eq_true h1a,cond_true,if_pos h1a]
    exact⟨hsz,⟨by simp only[List.length_singleton];omega,by simp only[List.length_singleton];omega⟩,rfl⟩
   ·rw[decide_eq_false h1a,cond_false,if_neg h1a,List.append_nil]
 by_cases hneg:a < 0
 ·rw[decide_eq_true hneg,cond_true]
  exact key (-(-(1:Int))) (by rw[if_pos hneg];omega)
 ·rw[decide_eq_false hneg,cond_false]
  exact key (-(1:Int)) (by rw[if_neg hneg])
section
theorem ZaI{v:Nat}{p:List Zc}{c:Zc}:c∈Zr v p↔c∈p∧Zd v c≠0:=by simp[Zr]
theorem Zfs{v:Nat}{p:List Zc}(h:(Zbs v p).2=0):(Zbs v p).1=(ZfR ((Zr v p).map fun c=>Za6 (Zd v c)):Int)∧1≤(Zbs v p).1∧(Zbs v p).1≤512:=by
 unfold Zbs at h ⊢
 rcases Zjz ((Zr v p).map fun c=>Za6 (Zd v c)) with h1 | h1 | ⟨h1,h2,h3,h4⟩
 ·rw[h] at h1;cases h1
 ·rw[h] at h1;cases h1
 ·rw[h3]
  have:=ZkV h2
  exact⟨rfl,by omega,by omega⟩
theorem ZeB{v:Nat}{p:List Zc}(h:(Zbs v p).2=0){c:Zc}(hc:c∈Zr v p):ZbS v (Zbs v p).1 c*Za6 (Zd v c)=(Zbs v p).1∧1≤ZbS v (Zbs v p).1 c∧ZbS v (Zbs v p).1 c≤512∧1≤Za6 (Zd v c):=by
 obtain⟨h1,h2,h3⟩:=Zfs h
 have ha:1≤Za6 (Zd v c):=by have:=(ZaI.1 hc).2;unfold Za6;omega
 have hd:Za6 (Zd v c) ∣ (Zbs v p).1:=by
  rw[h1]
  exact ZhF (List.mem_map_of_mem (f:=fun c=>Za6 (Zd v c)) hc)
 obtain⟨l,hl⟩:∃ l,(Zbs v p).1=l:=⟨_,rfl⟩
 rw[hl] at h2 h3 hd ⊢
 unfold ZbS
 have hm:l.tdiv (Za6 (Zd v c))*Za6 (Zd v c)=l:=Int.tdiv_mul_cancel hd
 have hq:l.tdiv (Za6 (Zd v c))=l / Za6 (Zd v c):=Int.tdiv_eq_ediv_of_nonneg (by omega)
 refine⟨hm,?_,?_,ha⟩
 ·rw[hq] at hm ⊢
  have h0:0≤l / Za6 (Zd v c):=Int.ediv_nonneg (by omega) (by omega)
  rcases Int.lt_or_le 0 (l / Za6 (Zd v c)) with h | h
  ·omega
  ·have:l / Za6 (Zd v c)=0:=by omega
   rw[this] at hm;omega
 ·rw[hq]
  exact Int.le_trans (Int.ediv_le_self _ (by omega)) h3
theorem Znj{v:Nat}{p:List Zc}{l:Int}(h:(ZeS v p l).2=0):1≤(ZeS v p l).1∧(ZeS v p l).1≤512∧l ∣ (ZeS v p l).1∧∀ c∈Zr v p,c.1=2→c.2.1*ZbS v l c ∣ (ZeS v p l).1:=by
 unfold ZeS at h ⊢
 rcases Zjz (l::((Zr v p).filter fun c=>decide (c.1=2)).map fun c=>c.2.1*ZbS v l c) with h1 | h1 | ⟨h1,h2,h3,h4⟩
 ·rw[h] at h1;cases h1
 ·rw[h] at h1;cases h1
 ·rw[h3]
  have:=ZkV h2
  refine⟨by omega,by omega,ZhF (by simp),fun c hc h2'=>ZhF (List.mem_cons_of_mem _ ?_)⟩
  exact List.mem_map_of_mem (f:=fun c=>c.2.1*ZbS v l c) (List.mem_filter.2 ⟨hc,by simpa using h2'⟩)
def ZdZ(B:Int)(n:Nat)(l:Lin):Prop:=l.1.length=n∧(∀ x∈l.1,-B≤x∧x≤B)∧-B≤l.2∧l.2≤B
theorem ZdZ.small{B:Int}{n:Nat}{l:Lin}(h:ZdZ B n l)(hB:B≤4294967296)(hn:n≤1048576):ZcR l :=
 ⟨by have:=h.1;omega,fun x hx=>by have:=h.2.1 x hx;omega,by have:=h.2.2;omega,by have:=h.2.2;omega⟩
theorem ZdZ.linB{B:Int}{n:Nat}{l:Lin}(h:ZdZ B n l)(hB:B≤2305843009213693952)(hn:n≤1048576):linB l :=
 ⟨by have:=h.1;omega,fun x hx=>by have:=h.2.1 x hx;unfold Zfb;omega,by have:=h.2.2;unfold Zfb;omega⟩
theorem ZdZ.getD{B:Int}{n:Nat}{l:Lin}(h:ZdZ B n l)(hB:0≤B)(i:Nat):-B≤l.1.getD i 0∧l.1.getD i 0≤B:=Zsi (P:=fun x=>-B≤x∧x≤B) h.2.1 (by omega)
theorem ZkA{a b A B C D:Int}{l m:Lin}{n:Nat}(hA:0≤A)(hB:0≤B)(hC:0≤C)(hD:0≤D)(ha:-A≤a∧a≤A)(hl:ZdZ C n l)(hb:-B≤b∧b≤B)(hm:ZdZ D n m):ZdZ (A*C+B*D) n (Zck a l b m):=by
 have key:∀ x y:Int,(-C≤x∧x≤C)→(-D≤y∧y≤D)→-(A*C+B*D)≤a*x+b*y∧a*x+b*y≤A*C+B*D:=fun x y hx hy=>by
  have h1:=Zdf hA hC ha.1 ha.2 hx.1 hx.2
  have h2:=Zdf hB hD hb.1 hb.2 hy.1 hy.2
  omega
 refine⟨by simp[Zck,hl.1],fun x hx=>?_,key _ _ hl.2.2 hm.2.2⟩
 simp only[Zck,List.mem_map,List.mem_range] at hx
 obtain⟨i,hi,rfl⟩:=hx
 exact key _ _ (hl.getD hC i) (hm.getD hD i)
theorem Zcn{c:Zc}{n:Int}{v:Nat}(h:Zi c=true∧(c.2.2.1.length:Int)=n)(hv:(v:Int) < n):ZdZ 1048576 (n.toNat - 1) (ZaC v c):=by
 have hl:=Zaj.b (Zi.lin h.1)
 refine⟨?_,fun x hx=>hl.2.1 x (Zov hx),hl.2.2⟩
 show (ZcU c.2.2.1 v).length=_
 rw[ZhI (by omega)];omega
theorem ZeT{c:Zc}(h:Zi c=true):ZpM c:=by
 unfold Zi at h
 split at h
 ·rename_i h1;exact h1.elim .inl fun h=>.inr (.inl h)
 ·split at h
  ·rename_i h2
   simp only[Bool.and_eq_true,decide_eq_true_iff] at h
   exact .inr (.inr ⟨h2,by omega,by omega⟩)
  ·cases h
theorem ZnX{c:Zc}{n:Int}{v:Nat}(h:Zi c=true∧(c.2.2.1.length:Int)=n)(hv:(v:Int) < n)(hn:n≤12):condB (Zc1 v c)∧(Zc1 v c).2.2.1.length=n.toNat - 1:=by
 have hr:=Zcn h hv
 have hk:=ZeT h.1
 exact⟨⟨hk,hr.linB (by omega) (by omega)⟩,hr.1⟩
theorem Zme{k m f:Int}{l l':Lin}(h:ZpM (k,m,l))(hm:-1048576≤m∧m≤1048576)(h1:1≤f)(h2:f≤1048576):ZpM (k,m*f,l'):=by
 rcases h with h | h | ⟨h,h3,h4⟩
 ·exact .inl h
 ·exact .inr (.inl h)
 ·simp only at h h3 h4
  have h5:=Int.mul_le_mul h3 h1 (by omega) (by omega)
  have h6:=Zsw hm (b:=f) (by omega)
  exact .inr (.inr ⟨h,by show 1≤m*f;omega,by show m*f≤2305843009213693952;omega⟩)
theorem ZvX {c e : Zc} {n : Int} {v : Nat} (h : Zi c = true ∧ (c.2.2.1.length : Int) = n) (he : Zi e = true ∧ (e.2.2.1.length : Int) = n) (hv : (v : Int) < n) (hn : n ≤ 12) (h0 : Zd v e ≠ 0) :
 condB (ZlV v e c)∧(ZlV v e c).2.2.1.length=n.toNat - 1:=by
 have hr:=Zcn h hv
 have hre:=Zcn he hv
 have hab:=Ziw (Zcv he.1 v)
 have hcb:=Zcv h.1 v
 have ha1:1≤Za6 (Zd v e):=by unfold Za6;omega
 have hs:-1048576≤Zd v c*(if Zd v e < 0 then 1 else -1)∧Zd v c*(if Zd v e < 0 then 1 else -1)≤1048576:=by split<;>omega
 have hm:=ZkA (A:=1048576) (B:=1048576) (by omega) (by omega) (by omega) (by omega) hab hr hs hre
 exact⟨⟨Zme (ZeT h.1) (Zjc h.1) ha1 hab.2,hm.linB (by omega) (by omega)⟩,hm.1⟩
theorem Zh1{c:Zc}{n:Int}{v:Nat}{l:Int}(h:Zi c=true∧(c.2.2.1.length:Int)=n)(hv:(v:Int) < n)(hf:1≤ZbS v l c∧ZbS v l c≤512):ZdZ 536870912 (n.toNat - 1) (Zjj v l c):=by
 have hr:=Zcn h hv
 have key:∀ x:Int,(-1048576≤x∧x≤1048576)→-536870912≤ZbS v l c*x∧ZbS v l c*x≤536870912:=fun x hx =>
  Zdf (n:=512) (m:=1048576) (by omega) (by omega) (by omega) hf.2 hx.1 hx.2
 refine⟨by simp[Zjj,hr.1],fun x hx=>?_,key _ hr.2.2⟩
 simp only[Zjj,List.mem_map] at hx
 obtain⟨y,hy,rfl⟩:=hx
 exact key y (hr.2.1 y hy)
theorem Zwo {c : Zc} {n : Int} {v : Nat} {l : Int} {w : Lin} (h : Zi c = true ∧ (c.2.2.1.length : Int) = n) (hv : (v : Int) < n) (hn : n ≤ 12) (hf : 1 ≤ ZbS v l c ∧ ZbS v l c ≤ 512) (hw : ZdZ 536871424 (n.toNat - 1) w) :
 condB (Zvm v l w c)∧(Zvm v l w c).2.2.1.length=n.toNat - 1:=by
 have hs:=Zh1 h hv hf
 have hm:=ZkA (A:=1) (B:=1) (by omega) (by omega) (by omega) (by omega) (show (-1:Int)≤1∧(1:Int)≤1 by omega) hs (show -1≤ZmR (Zd v c)∧ZmR (Zd v c)≤1 by unfold ZmR;split<;>omega) hw
 exact⟨⟨Zme (ZeT h.1) (Zjc h.1) hf.1 (by omega),hm.linB (by omega) (by omega)⟩,hm.1⟩
theorem ZkL{c:Zc}{n:Int}{v:Nat}{l:Int}{low:Bool}{j:Nat}(h:Zi c=true∧(c.2.2.1.length:Int)=n)(hv:(v:Int) < n)(hf:1≤ZbS v l c∧ZbS v l c≤512)(hj:j≤512):ZdZ 536871424 (n.toNat - 1) (ZdB v l c low j):=by
 have hs:=Zh1 h hv hf
 cases low with
 | true =>
   refine⟨by simp[ZdB,hs.1],fun x hx=>?_,by have:=hs.2.2;simp only[ZdB,if_true];omega⟩
   simp only[ZdB,if_true,List.mem_map] at hx
   obtain⟨y,hy,rfl⟩:=hx
   have:=hs.2.1 y hy
   omega
 | false =>
   refine⟨by simp[ZdB,hs.1],fun x hx=>?_,by have:=hs.2.2;simp only[ZdB,Bool.false_eq_true,if_false];omega⟩
   simp only[ZdB,Bool.false_eq_true,if_false] at hx
   have:=hs.2.1 x hx
   omega
theorem ZkS{n:Nat}{j:Nat}(hj:j≤512):ZdZ 536871424 n (List.replicate n 0,(j:Int)) :=
 ⟨by simp,fun x hx=>by rw[(List.mem_replicate.1 hx).2];omega,by simp only;omega⟩
def Zjl(n:Nat)(q:List Zc):Prop:=q.length≤200000∧∀ c∈q,condB c∧c.2.2.1.length=n
theorem Zjl.D{n:Nat}{q:List Zc}(h:Zjl n q):ZaD q∧Zek q n:=⟨⟨by have:=h.1;omega,fun c hc=>(h.2 c hc).1⟩,fun c hc=>(h.2 c hc).2⟩
section
variable {p:List Zc} {n:Int} {v:Nat}
theorem Zcl:(ZbJ v p).length≤p.length:=by unfold ZbJ;rw[List.length_map];exact List.length_filter_le _ _
theorem ZeW(h:pieceN p n)(hv:(v:Int) < n):∀ c∈ZbJ v p,condB c∧c.2.2.1.length=n.toNat - 1:=fun c hc=>by
 simp only[ZbJ,List.mem_map,List.mem_filter] at hc
 obtain⟨d,⟨hd,_⟩,rfl⟩:=hc
 exact ZnX (h.c hd) hv h.2.2.2
theorem ZeD(h:pieceN p n)(hv:(v:Int) < n){i:Nat}(hi:i < p.length)(h0:Zd v (p.getD i Za)≠0):Zjl (n.toNat - 1) (Zcz v p i):=by
 have hm:=Zj (d:=Za) hi
 have he:=h.c hm
 have hr:=Zcn he hv
 have hab:=Ziw (Zcv he.1 v)
 refine⟨?_,fun c hc=>?_⟩
 ·unfold Zcz
  have:=List.length_filter_le (fun jc:Nat×Zc=>decide (jc.1≠i)) (Zbv Za p)
  rw[Zgv] at this
  have:=h.1
  simp only[List.length_append,List.length_map]
  split<;>simp only[List.length_cons,List.length_nil]<;>omega
 ·unfold Zcz at hc
  rcases List.mem_append.1 hc with hc | hc
  ·simp only[List.mem_map,List.mem_filter] at hc
   obtain⟨jc,⟨hj,_⟩,rfl⟩:=hc
   have hd:=h.c (ZqR hj).2.2
   split
   ·exact ZnX hd hv h.2.2.2
   ·exact ZvX hd he hv h.2.2.2 h0
  ·split at hc
   ·rename_i h1
    simp only[List.mem_singleton] at hc
    subst hc
    exact⟨⟨.inr (.inr ⟨rfl,by show 1≤Za6 _;omega,by show Za6 _≤_;omega⟩),hr.linB (by omega) (by have:=h.2.2.2;omega)⟩,hr.1⟩
   ·cases hc
theorem ZgT(h:pieceN p n)(hv:(v:Int) < n):Zjl (n.toNat - 1) (Zjm v p):=by
 have hle:∀ f:Zc→Bool,(p.filter f).length≤400:=fun f=>Nat.le_trans (List.length_filter_le _ _) h.1
 refine⟨?_,fun c hc=>?_⟩
 ·unfold Zjm
  have h1:=Zcl (v:=v) (p:=p)
  have h2:=ZcA (g:=fun x=>(upP v p).map (ZlZ v x)) (k:=400) (l:=ZbQ v p) fun x hx=>by rw[List.length_map];exact hle _
  have h3:=Nat.mul_le_mul (hle fun c=>decide (Zd v c≠0∧c.1≠1∧c.1≠2∧0 < Zd v c)) (Nat.le_refl 400)
  have h4:(ZbQ v p).length*400≤400*400:=h3
  have:=h.1
  rw[List.length_append];omega
 ·unfold Zjm at hc
  rcases List.mem_append.1 hc with hc | hc
  ·exact ZeW h hv c hc
  ·simp only[List.mem_flatMap,List.mem_map] at hc
   obtain⟨x,hx,y,hy,rfl⟩:=hc
   have hx':=h.c (List.mem_filter.1 hx).1
   have hy':=h.c (List.mem_filter.1 hy).1
   have hcx:=Zcv hx'.1 v
   have hcy:=Zcv hy'.1 v
   have hm:=ZkA (A:=1048576) (B:=1048576) (by omega) (by omega) (by omega) (by omega) hcx (Zcn hy' hv) (show -1048576≤-Zd v y∧-Zd v y≤1048576 by omega) (Zcn hx' hv)
   exact⟨⟨.inl rfl,hm.linB (by omega) (by have:=h.2.2.2;omega)⟩,hm.1⟩
theorem ZhV(h:pieceN p n)(hv:(v:Int) < n)(hl:(Zbs v p).2=0){w:Lin}(hw:ZdZ 536871424 (n.toNat - 1) w)(all:Bool):Zjl (n.toNat - 1) (Ze5 v p (Zbs v p).1 w all):=by
 obtain⟨hl1,hl2,hl3⟩:=Zfs hl
 refine⟨?_,fun c hc=>?_⟩
 ·unfold Ze5
  have h1:=Zcl (v:=v) (p:=p)
  have h2:=List.length_filter_le (fun c:Zc=>all||decide (c.1=2)) (Zr v p)
  have h3:(Zr v p).length≤p.length:=List.length_filter_le _ _
  have:=h.1
  simp only[List.length_append,List.length_map,List.length_cons,List.length_nil]
  omega
 ·unfold Ze5 at hc
  rcases List.mem_append.1 hc with hc | hc
  ·rcases List.mem_append.1 hc with hc | hc
   ·exact ZeW h hv c hc
   ·simp only[List.mem_map,List.mem_filter] at hc
    obtain⟨d,⟨hd,_⟩,rfl⟩:=hc
    obtain⟨_,f1,f2,_⟩:=ZeB hl hd
    exact Zwo (h.c (ZaI.1 hd).1) hv h.2.2.2 ⟨f1,f2⟩ hw
  ·simp only[List.mem_singleton] at hc
   subst hc
   exact⟨⟨.inr (.inr ⟨rfl,hl2,by show (Zbs v p).1≤_;omega⟩),hw.linB (by omega) (by have:=h.2.2.2;omega)⟩,hw.1⟩
theorem ZfF(h:pieceN p n)(hv:(v:Int) < n)(hl:(Zbs v p).2=0){d:Nat}(hd:d≤512):(Zb1 v p (n.toNat - 1) (Zbs v p).1 d).length≤204800∧∀ q∈Zb1 v p (n.toNat - 1) (Zbs v p).1 d,Zjl (n.toNat - 1) q:=by
 unfold Zb1
 split
 ·refine⟨by simp;omega,fun q hq=>?_⟩
  simp only[List.mem_map,List.mem_range] at hq
  obtain⟨j,hj,rfl⟩:=hq
  exact ZhV h hv hl (ZkS (by omega)) false
 ·refine⟨?_,fun q hq=>?_⟩
  ·have h2:=ZcA (g:=fun c=>(List.range d).map fun j=>Ze5 v p (Zbs v p).1 (ZdB v (Zbs v p).1 c (Zgw v p) j) true) (k:=512) (l:=ZlP v p) fun x hx=>by simp;omega
   have h3:(ZlP v p).length≤(Zr v p).length:=List.length_filter_le _ _
   have h4:(Zr v p).length≤p.length:=List.length_filter_le _ _
   have:=h.1
   have:=Nat.mul_le_mul (show (ZlP v p).length≤400 by omega) (Nat.le_refl 512)
   omega
  ·simp only[List.mem_flatMap,List.mem_map,List.mem_range] at hq
   obtain⟨c,hc,j,hj,rfl⟩:=hq
   have hcp:=(List.mem_filter.1 hc).1
   obtain⟨_,f1,f2,_⟩:=ZeB hl hcp
   exact ZhV h hv hl (ZkL (h.c (ZaI.1 hcp).1) hv ⟨f1,f2⟩ (by omega)) true
end
theorem Zwi(v:Nat)(p:List Zc):eqI v p=-1∨(0≤eqI v p∧(eqI v p).toNat < p.length∧Zd v (p.getD (eqI v p).toNat Za)≠0∧(p.getD (eqI v p).toNat Za).1=1):=by
 unfold eqI
 have key : ∀ (l : List Nat) (e : Int), (∀ i ∈ l, i < p.length) → (e = -1 ∨ (0 ≤ e ∧ e.toNat < p.length ∧ Zd v (p.getD e.toNat Za) ≠ 0 ∧ (p.getD e.toNat Za).1 = 1)) →
  (l.foldl (Zeb v p) e=-1∨(0≤l.foldl (Zeb v p) e∧(l.foldl (Zeb v p) e).toNat < p.length∧Zd v (p.getD (l.foldl (Zeb v p) e).toNat Za)≠0∧(p.getD (l.foldl (Zeb v p) e).toNat Za).1=1)):=by
  intro l
  induction l with
  | nil=>exact fun e _ h=>h
  | cons i l ih =>
    refine fun e hl h=>ih _ (fun j hj=>hl j (List.mem_cons_of_mem _ hj)) ?_
    unfold Zeb
    split
    ·rename_i hc
     exact .inr ⟨by omega,by simpa using hl i (by simp),by simpa using hc.1,by simpa using hc.2.1⟩
    ·exact h
 exact key _ _ (fun i hi=>List.mem_range.1 hi) (.inl rfl)
theorem ZpE{p:List Zc}{n:Int}{v:Nat}(h:pieceN p n)(hv:(v:Int) < n){l:List (List Zc)}(hs:ZcQ p n.toNat v=some l):l.length≤204800∧∀ q∈l,Zjl (n.toNat - 1) q:=by
 unfold ZcQ at hs
 split at hs
 ·rename_i he
  cases hs
  rcases Zwi v p with h1 | ⟨_,h2,h3,_⟩
  ·omega
  ·exact⟨by simp,fun q hq=>by rw[List.mem_singleton.1 hq];exact ZeD h hv h2 h3⟩
 ·split at hs
  ·cases hs
   exact⟨by simp,fun q hq=>by rw[List.mem_singleton.1 hq];exact⟨by have:=Zcl (v:=v) (p:=p);have:=h.1;omega,ZeW h hv⟩⟩
  ·split at hs
   ·cases hs
    exact⟨by simp,fun q hq=>by rw[List.mem_singleton.1 hq];exact ZgT h hv⟩
   ·split at hs
    ·cases hs
    ·rename_i hl
     split at hs
     ·cases hs
     ·rename_i hd
      cases hs
      have hl:(Zbs v p).2=0:=by simpa using hl
      have hd:(ZeS v p (Zbs v p).1).2=0:=by simpa using hd
      have:=Znj hd
      exact ZfF h hv hl (by omega)
theorem Ze3{p:List Zc}{n v:Int}(h:pieceN p n)(hv0:0≤v)(hv:v < n)(h0:(ZS p n v).2=0):PD (n.toNat - 1) (ZS p n v).1∧Nm (ZS p n v).1∧∃ l,ZcQ p n.toNat v.toNat=some l∧ZfG l=some (ZS p n v).1:=by
 unfold ZS at h0 ⊢
 rcases Z9 (ZcQ p n.toNat v.toNat) with e | ⟨l,e⟩
 ·rw[e] at h0;cases h0
 ·simp only[e] at h0 ⊢
  unfold Zed at h0 ⊢
  rcases Z9 (ZfG l) with e2 | ⟨out,e2⟩
  ·rw[e2] at h0;cases h0
  ·simp only[e2]
   have hg:=ZpE h (v:=v.toNat) (by omega) e
   obtain⟨k1,k2⟩:=PD.of_tid (fun q hq=>(hg.2 q hq).D) e2
   exact⟨k1,k2,l,rfl,e2⟩
theorem PD.pieceN{n:Nat}{l:List (List Zc)}(h:PD n l)(hn:n≤12){q:List Zc}(hq:q∈l):pieceN q (n:Int) :=
 ⟨by have:=(h.1.2 q hq).1;omega,fun c hc=>⟨(h.1.2 q hq).2 c hc,by rw[h.2 q hq c hc]⟩,by omega,by omega⟩
end
def Zu.wp(x0:List Zc)(x1:List Zc)(x2:Int)(Q:(List (List Zc))×Int→Prop):Prop:=let v18:=List.length ([]:List (Zc));Lp (σ:=Int×List Int) (fun y4 R4=>let v0:=List.getD x0 (Int.toNat y4.1) Za;let v1:=List.getD v0.2.2.1 (Int.toNat x2) (0:Int);let v2:=[Zq.fn (v1,())];cond (decide (y4.1 < ((List.length x0:Nat):Int))) (((0:Int)≤y4.1∧y4.1 < ((List.length x0:Nat):Int))∧(((0:Int)≤x2∧x2 < ((List.length v0.2.2.1:Nat):Int))∧cond (v1 != (0:Int)) (((0:Int)≤x2∧x2 < ((List.length v0.2.2.1:Nat):Int))∧(Zq.pre (v1,())∧((((List.length y4.2+List.length v2)*8)≤140737488355328∧(List.length y4.2+List.length v2)≤9223372036854775807)∧(Zo IntKind.i64 (y4.1+(1:Int))∧R4 ((y4.1+(1:Int)),(y4.2++v2)))))) (Zo IntKind.i64 (y4.1+(1:Int))∧R4 ((y4.1+(1:Int)),y4.2)))) (Zat.pre (y4.2,())∧cond ((Zat.fn (y4.2,())).2 != (0:Int)) (Q (([]:List (List (Zc))),(3:Int))) (Lp (σ:=Int×Int×Int×Int×(List Int)×List (Zc)) (fun y6 R6=>let v4:=List.getD x0 (Int.toNat y6.1) Za;let v5:=List.getD v4.2.2.1 (Int.toNat x2) (0:Int);let v6:=Int.tdiv ((Zat.fn (y4.2,())).1) (Zq.fn (v5,()));let v7:=Int.tdiv v5 (Zq.fn (v5,()));let v8:=ZB.fn (v6,(v4.2.2,((0:Int),(v4.2.2,()))));let v9:=List.length y6.2.2.2.2.2;let v10:=List.set v8.1 (Int.toNat x2) v7;let v11:=[(v4.1,((v4.2.1*v6),(v10,v8.2)))];let v12:=List.length y6.2.2.2.2.1;let v13:=List.length ([(v4.2.1*v6)]);let v14:=List.replicate (Int.toNat y6.2.1) (0:Int);let v16:=[((2:Int),((Zat.fn (y4.2,())).1,((List.set v14 (Int.toNat x2) (1:Int)),(0:Int))))];let v17:=Zat.fn (y6.2.2.2.2.1,());let v19:=List.length (y6.2.2.2.2.2++v16);cond (decide (y6.1 < ((List.length x0:Nat):Int))) (((0:Int)≤y6.1∧y6.1 < ((List.length x0:Nat):Int))∧(((0:Int)≤x2∧x2 < ((List.length v4.2.2.1:Nat):Int))∧cond (v5 == (0:Int)) (Zo IntKind.i64 (y6.1+(1:Int))∧R6 ((y6.1+(1:Int)),y6.2)) (Zq.pre (v5,())∧((Zq.fn (v5,())≠(0:Int)∧Zo IntKind.i64 v6)∧(Zo IntKind.i64 (v4.2.1*v6)∧(ZB.pre (v6,(v4.2.2,((0:Int),(v4.2.2,()))))∧(Zq.pre (v5,())∧((Zq.fn (v5,())≠(0:Int)∧Zo IntKind.i64 v7)∧(((0:Int)≤x2∧x2 < ((List.length v8.1:Nat):Int))∧(Int.toNat x2 < List.length v8.1∧((((v9+List.length v11)*48)≤140737488355328∧(v9+List.length v11)≤9223372036854775807)∧cond (v4.1 == (2:Int)) ((((v12+v13)*8)≤140737488355328∧(v12+v13)≤9223372036854775807)∧(Zo IntKind.i64 (y6.1+(1:Int))∧R6 ((y6.1+(1:Int)),(((List.length v10:Nat):Int),(y6.2.2.1,(y6.2.2.2.1,((y6.2.2.2.2.1++[(v4.2.1*v6)]),(y6.2.2.2.2.2++v11)))))))) (cond (decide ((0:Int) < v5)) (Zo IntKind.i64 (y6.2.2.1+(1:Int))∧(Zo IntKind.i64 (y6.1+(1:Int))∧R6 ((y6.1+(1:Int)),(((List.length v10:Nat):Int),((y6.2.2.1+(1:Int)),(y6.2.2.2.1,(y6.2.2.2.2.1,(y6.2.2.2.2.2++v11)))))))) (Zo IntKind.i64 (y6.2.2.2.1+(1:Int))∧(Zo IntKind.i64 (y6.1+(1:Int))∧R6 ((y6.1+(1:Int)),(((List.length v10:Nat):Int),(y6.2.2.1,((y6.2.2.2.1+(1:Int)),(y6.2.2.2.2.1,(y6.2.2.2.2.2++v11)))))))))))))))))))) (((0:Int)≤y6.2.1∧(y6.2.1≤y6.2.1∧((y6.2.1*((8:Nat):Int))≤(140737488355328:Int)∧y6.2.1≤(9223372036854775807:Int))))∧(((0:Int)≤x2∧x2 < ((List.length v14:Nat):Int))∧(Int.toNat x2 < List.length v14∧((((v9+List.length v16)*48)≤140737488355328∧(v9+List.length v16)≤9223372036854775807)∧(Zat.pre (y6.2.2.2.2.1,())∧cond (v17.2 != (0:Int)) (Q (([]:List (List (Zc))),(3:Int))) (((!(y6.2.2.1 == (0:Int)))=true→((!(y6.2.2.1 == (0:Int)))=true∧True))∧(((y6.2.2.1 == (0:Int))=false→(!(y6.2.2.1 == (0:Int)))=true)∧cond ((y6.2.2.1 == (0:Int))||(y6.2.2.2.1 == (0:Int))) (Lp (σ:=Int×List (List (Zc))) (fun y8 R8=>let v21:=ZR.fn ((y6.2.1 - (1:Int)),(y8.1,()));cond (decide (y8.1 < v17.1)) ((((v18+List.length x1)*48)≤140737488355328∧(v18+List.length x1)≤9223372036854775807)∧Lp (σ:=Int×List (Zc)) (fun y10 R10=>let v20:=List.getD (y6.2.2.2.2.2++v16) (Int.toNat y10.1) Za;let v22:=Z6.fn (v20,(x2,((1:Int),((1:Int),(v21,())))));cond (decide (y10.1 < ((v19:Nat):Int))) (((0:Int)≤y10.1∧y10.1 < ((v19:Nat):Int))∧(Int.toNat y10.1 < v19∧cond (v20.1 == (2:Int)) (Zo IntKind.i64 (y6.2.1 - (1:Int))∧(ZR.pre ((y6.2.1 - (1:Int)),(y8.1,()))∧(Z6.pre (v20,(x2,((1:Int),((1:Int),(v21,())))))∧((((List.length y10.2+List.length [v22])*48)≤140737488355328∧(List.length y10.2+List.length [v22])≤9223372036854775807)∧(Zo IntKind.i64 (y10.1+(1:Int))∧R10 ((y10.1+(1:Int)),(y10.2++[v22]))))))) (Zo IntKind.i64 (y10.1+(1:Int))∧R10 ((y10.1+(1:Int)),y10.2)))) ((((List.length y8.2+List.length [y10.2])*24)≤140737488355328∧(List.length y8.2+List.length [y10.2])≤9223372036854775807)∧(Zo IntKind.i64 (y8.1+(1:Int))∧R8 ((y8.1+(1:Int)),(y8.2++[y10.2]))))) ((0:Int),(([]:List (Zc))++x1))) (ZH.pre (y8.2,())∧Q (ZH.fn (y8.2,())))) ((0:Int),([]:List (List (Zc))))) (cond (decide (y6.2.2.2.1 < y6.2.2.1)) (Lp (σ:=Int×List (List (Zc))) (fun y8 R8=>let v24:=List.getD (y6.2.2.2.2.2++v16) (Int.toNat y8.1) Za;let v26:=Zm.fn (v24.2.2,(x2,()));cond (decide (y8.1 < ((v19:Nat):Int))) (((0:Int)≤y8.1∧y8.1 < ((v19:Nat):Int))∧(Int.toNat y8.1 < v19∧(((!(v24.1 == (2:Int)))=true→((!(v24.1 == (2:Int)))=true∧True))∧(((!(v24.1 == (2:Int)))=true→((!(v24.1 == (2:Int)))=true∧True))∧(((!(v24.1 == (2:Int)))=true→((!(v24.1 == (2:Int)))=true∧((!(v24.1 == (2:Int)))=true∧((0:Int)≤x2∧x2 < ((List.length v24.2.2.1:Nat):Int)))))∧(((!(v24.1 == (2:Int)))=true→((!(v24.1 == (2:Int)))=true∧True))∧(((!(v24.1 == (2:Int)))=true→((!(v24.1 == (2:Int)))=true∧((!(v24.1 == (2:Int)))=true∧True)))∧(((v24.1 == (2:Int))=false→(!(v24.1 == (2:Int)))=true)∧cond ((v24.1 == (2:Int))||((List.getD v24.2.2.1 (Int.toNat x2) (0:Int)) != (-(1:Int)))) (Zo IntKind.i64 (y8.1+(1:Int))∧R8 ((y8.1+(1:Int)),y8.2)) (Zm.pre (v24.2.2,(x2,()))∧Lp (σ:=Int×List (List (Zc))) (fun y10 R10=>let v27:=ZR.fn ((y6.2.1 - (1:Int)),(y10.1,()));let v28:=ZB.fn ((-(-(1:Int))),(v26,((-(1:Int)),(v27,()))));cond (decide (y10.1 < v17.1)) (Zo IntKind.i64 (-(-(1:Int)))∧(Zo IntKind.i64 (y6.2.1 - (1:Int))∧(ZR.pre ((y6.2.1 - (1:Int)),(y10.1,()))∧(ZB.pre ((-(-(1:Int))),(v26,((-(1:Int)),(v27,()))))∧((((v18+List.length x1)*48)≤140737488355328∧(v18+List.length x1)≤9223372036854775807)∧Lp (σ:=Int×((List Int)×Int)×(List (Zc))×(List Int)×Int) (fun y12 R12=>let v29:=List.getD (y6.2.2.2.2.2++v16) (Int.toNat y12.1) Za;let v30:=Z6.fn (v29,(x2,((1:Int),((1:Int),(y12.2.2.2,())))));cond (decide (y12.1 < ((v19:Nat):Int))) (((0:Int)≤y12.1∧y12.1 < ((v19:Nat):Int))∧(Int.toNat y12.1 < v19∧(Z6.pre (v29,(x2,((1:Int),((1:Int),(y12.2.2.2,())))))∧((((List.length y12.2.2.1+List.length [v30])*48)≤140737488355328∧(List.length y12.2.2.1+List.length [v30])≤9223372036854775807)∧(Zo IntKind.i64 (y12.1+(1:Int))∧R12 ((y12.1+(1:Int)),(y12.2.1,((y12.2.2.1++[v30]),y12.2.2.2)))))))) ((((List.length y10.2+List.length [y12.2.2.1])*24)≤140737488355328∧(List.length y10.2+List.length [y12.2.2.1])≤9223372036854775807)∧(Zo IntKind.i64 (y10.1+(1:Int))∧R10 ((y10.1+(1:Int)),(y10.2++[y12.2.2.1]))))) ((0:Int),(v28,((([]:List (Zc))++x1),v28)))))))) (Zo IntKind.i64 (y8.1+(1:Int))∧R8 ((y8.1+(1:Int)),y10.2))) ((0:Int),y8.2)))))))))) (ZH.pre (y8.2,())∧Q (ZH.fn (y8.2,())))) ((0:Int),([]:List (List (Zc))))) (Lp (σ:=Int×List (List (Zc))) (fun y8 R8=>let v24:=List.getD (y6.2.2.2.2.2++v16) (Int.toNat y8.1) Za;let v26:=Zm.fn (v24.2.2,(x2,()));cond (decide (y8.1 < ((v19:Nat):Int))) (((0:Int)≤y8.1∧y8.1 < ((v19:Nat):Int))∧(Int.toNat y8.1 < v19∧(((!(v24.1 == (2:Int)))=true→((!(v24.1 == (2:Int)))=true∧True))∧(((!(v24.1 == (2:Int)))=true→((!(v24.1 == (2:Int)))=true∧True))∧(((!(v24.1 == (2:Int)))=true→((!(v24.1 == (2:Int)))=true∧((!(v24.1 == (2:Int)))=true∧((0:Int)≤x2∧x2 < ((List.length v24.2.2.1:Nat):Int)))))∧(((!(v24.1 == (2:Int)))=true→((!(v24.1 == (2:Int)))=true∧True))∧(((!(v24.1 == (2:Int)))=true→((!(v24.1 == (2:Int)))=true∧((!(v24.1 == (2:Int)))=true∧True)))∧(((v24.1 == (2:Int))=false→(!(v24.1 == (2:Int)))=true)∧cond ((v24.1 == (2:Int))||((List.getD v24.2.2.1 (Int.toNat x2) (0:Int)) != (1:Int))) (Zo IntKind.i64 (y8.1+(1:Int))∧R8 ((y8.1+(1:Int)),y8.2)) (Zm.pre (v24.2.2,(x2,()))∧Lp (σ:=Int×List (List (Zc))) (fun y10 R10=>let v27:=ZR.fn ((y6.2.1 - (1:Int)),(y10.1,()));let v31:=ZB.fn ((-(1:Int)),(v26,((1:Int),(v27,()))));cond (decide (y10.1 < v17.1)) (Zo IntKind.i64 (-(1:Int))∧(Zo IntKind.i64 (y6.2.1 - (1:Int))∧(ZR.pre ((y6.2.1 - (1:Int)),(y10.1,()))∧(ZB.pre ((-(1:Int)),(v26,((1:Int),(v27,()))))∧((((v18+List.length x1)*48)≤140737488355328∧(v18+List.length x1)≤9223372036854775807)∧Lp (σ:=Int×((List Int)×Int)×(List (Zc))×(List Int)×Int) (fun y12 R12=>let v29:=List.getD (y6.2.2.2.2.2++v16) (Int.toNat y12.1) Za;let v30:=Z6.fn (v29,(x2,((1:Int),((1:Int),(y12.2.2.2,())))));cond (decide (y12.1 < ((v19:Nat):Int))) (((0:Int)≤y12.1∧y12.1 < ((v19:Nat):Int))∧(Int.toNat y12.1 < v19∧(Z6.pre (v29,(x2,((1:Int),((1:Int),(y12.2.2.2,())))))∧((((List.length y12.2.2.1+List.length [v30])*48)≤140737488355328∧(List.length y12.2.2.1+List.length [v30])≤9223372036854775807)∧(Zo IntKind.i64 (y12.1+(1:Int))∧R12 ((y12.1+(1:Int)),(y12.2.1,((y12.2.2.1++[v30]),y12.2.2.2)))))))) ((((List.length y10.2+List.length [y12.2.2.1])*24)≤140737488355328∧(List.length y10.2+List.length [y12.2.2.1])≤9223372036854775807)∧(Zo IntKind.i64 (y10.1+(1:Int))∧R10 ((y10.1+(1:Int)),(y10.2++[y12.2.2.1]))))) ((0:Int),(v31,((([]:List (Zc))++x1),v31)))))))) (Zo IntKind.i64 (y8.1+(1:Int))∧R8 ((y8.1+(1:Int)),y10.2))) ((0:Int),y8.2)))))))))) (ZH.pre (y8.2,())∧Q (ZH.fn (y8.2,())))) ((0:Int),([]:List (List (Zc)))))))))))))) ((0:Int),((0:Int),((0:Int),((0:Int),(([(Zat.fn (y4.2,())).1]),([]:List (Zc)))))))))) ((0:Int),([]:List Int))
def Z1.wp(x0:List Zc)(x1:Int)(x2:Int)(Q:(List (List Zc))×Int→Prop):Prop:=Lp (σ:=Int×Int×(List (Zc))×(List (Zc))×(List (Zc))×List (Zc)) (fun y4 R4=>let v0:=List.getD x0 (Int.toNat y4.1) Za;let v1:=List.getD v0.2.2.1 (Int.toNat x2) (0:Int);let v3:=[(v0.1,(v0.2.1,(Zm.fn (v0.2.2,(x2,())))))];let v4:=List.getD x0 (Int.toNat y4.2.1) Za;let v5:=List.getD v4.2.2.1 (Int.toNat x2) (0:Int);let v6:=List.length y4.2.2.2.2.1;let v7:=List.length y4.2.2.2.2.2;let v8:=Z2.fn (x0,(y4.2.1,(x2,())));cond (decide (y4.1 < ((List.length x0:Nat):Int))) (((0:Int)≤y4.1∧y4.1 < ((List.length x0:Nat):Int))∧(((0:Int)≤x2∧x2 < ((List.length v0.2.2.1:Nat):Int))∧cond (v1 == (0:Int)) (Zm.pre (v0.2.2,(x2,()))∧((((List.length y4.2.2.1+List.length v3)*48)≤140737488355328∧(List.length y4.2.2.1+List.length v3)≤9223372036854775807)∧(Zo IntKind.i64 (y4.1+(1:Int))∧R4 ((y4.1+(1:Int)),(y4.2.1,((y4.2.2.1++v3),y4.2.2.2)))))) (cond (v0.1 == (1:Int)) (((!(decide (y4.2.1 < (0:Int))))=true→((!(decide (y4.2.1 < (0:Int))))=true∧Zq.pre (v1,())))∧(((!(decide (y4.2.1 < (0:Int))))=true→((!(decide (y4.2.1 < (0:Int))))=true∧((!(decide (y4.2.1 < (0:Int))))=true∧((0:Int)≤y4.2.1∧y4.2.1 < ((List.length x0:Nat):Int)))))∧(((!(decide (y4.2.1 < (0:Int))))=true→((!(decide (y4.2.1 < (0:Int))))=true∧True))∧(((!(decide (y4.2.1 < (0:Int))))=true→((!(decide (y4.2.1 < (0:Int))))=true∧True))∧(((!(decide (y4.2.1 < (0:Int))))=true→((!(decide (y4.2.1 < (0:Int))))=true∧True))∧(((!(decide (y4.2.1 < (0:Int))))=true→((!(decide (y4.2.1 < (0:Int))))=true∧((!(decide (y4.2.1 < (0:Int))))=true∧((0:Int)≤x2∧x2 < ((List.length v4.2.2.1:Nat):Int)))))∧(((!(decide (y4.2.1 < (0:Int))))=true→((!(decide (y4.2.1 < (0:Int))))=true∧True))∧(((!(decide (y4.2.1 < (0:Int))))=true→((!(decide (y4.2.1 < (0:Int))))=true∧Zq.pre (v5,())))∧(((!(decide (y4.2.1 < (0:Int))))=true→((!(decide (y4.2.1 < (0:Int))))=true∧((!(decide (y4.2.1 < (0:Int))))=true∧True)))∧((decide (y4.2.1 < (0:Int))=false→(!(decide (y4.2.1 < (0:Int))))=true)∧cond (decide (y4.2.1 < (0:Int))||decide (Zq.fn (v1,()) < Zq.fn (v5,()))) (Zo IntKind.i64 (y4.1+(1:Int))∧R4 ((y4.1+(1:Int)),(y4.1,y4.2.2))) (Zo IntKind.i64 (y4.1+(1:Int))∧R4 ((y4.1+(1:Int)),y4.2)))))))))))) (cond (v0.1 == (2:Int)) ((((List.length y4.2.2.2.1+List.length [v0])*48)≤140737488355328∧(List.length y4.2.2.2.1+List.length [v0])≤9223372036854775807)∧(Zo IntKind.i64 (y4.1+(1:Int))∧R4 ((y4.1+(1:Int)),(y4.2.1,(y4.2.2.1,((y4.2.2.2.1++[v0]),y4.2.2.2.2)))))) (cond (decide ((0:Int) < v1)) ((((v6+List.length [v0])*48)≤140737488355328∧(v6+List.length [v0])≤9223372036854775807)∧(Zo IntKind.i64 (y4.1+(1:Int))∧R4 ((y4.1+(1:Int)),(y4.2.1,(y4.2.2.1,(y4.2.2.2.1,((y4.2.2.2.2.1++[v0]),y4.2.2.2.2.2))))))) ((((v7+List.length [v0])*48)≤140737488355328∧(v7+List.length [v0])≤9223372036854775807)∧(Zo IntKind.i64 (y4.1+(1:Int))∧R4 ((y4.1+(1:Int)),(y4.2.1,(y4.2.2.1,(y4.2.2.2.1,(y4.2.2.2.2.1,(y4.2.2.2.2.2++[v0]))))))))))))) (cond (decide ((0:Int)≤y4.2.1)) (Z2.pre (x0,(y4.2.1,(x2,())))∧(ZH.pre ([v8],())∧Q (ZH.fn ([v8],())))) (((((List.length y4.2.2.2.1:Nat):Int) == (0:Int))=true→((((List.length y4.2.2.2.1:Nat):Int) == (0:Int))=true∧True))∧(((((List.length y4.2.2.2.1:Nat):Int) == (0:Int))=true→((((List.length y4.2.2.2.1:Nat):Int) == (0:Int))=true∧True))∧(((((List.length y4.2.2.2.1:Nat):Int) == (0:Int))=true→((((List.length y4.2.2.2.1:Nat):Int) == (0:Int))=true∧True))∧((((((List.length y4.2.2.2.1:Nat):Int) == (0:Int))&&(!(((v6:Nat):Int) == (0:Int))))=true→(((((List.length y4.2.2.2.1:Nat):Int) == (0:Int))&&(!(((v6:Nat):Int) == (0:Int))))=true∧True))∧((((((List.length y4.2.2.2.1:Nat):Int) == (0:Int))&&(!(((v6:Nat):Int) == (0:Int))))=true→(((((List.length y4.2.2.2.1:Nat):Int) == (0:Int))&&(!(((v6:Nat):Int) == (0:Int))))=true∧True))∧(((((List.length y4.2.2.2.1:Nat):Int) == (0:Int))=true→((((List.length y4.2.2.2.1:Nat):Int) == (0:Int))=true∧((((v6:Nat):Int) == (0:Int))=false→((((List.length y4.2.2.2.1:Nat):Int) == (0:Int))&&(!(((v6:Nat):Int) == (0:Int))))=true)))∧(((((List.length y4.2.2.2.1:Nat):Int) == (0:Int))=true→(((List.length y4.2.2.2.1:Nat):Int) == (0:Int))=true)∧cond ((((List.length y4.2.2.2.1:Nat):Int) == (0:Int))&&((((v6:Nat):Int) == (0:Int))||(((v7:Nat):Int) == (0:Int)))) (ZH.pre ([y4.2.2.1],())∧Q (ZH.fn ([y4.2.2.1],()))) (Lp (σ:=Int×Bool) (fun y6 R6=>let v11:=List.getD y4.2.2.2.2.1 (Int.toNat y6.1) Za;let v12:=List.getD v11.2.2.1 (Int.toNat x2) (0:Int);cond (decide (y6.1 < ((v6:Nat):Int))) (((0:Int)≤y6.1∧y6.1 < ((v6:Nat):Int))∧(Int.toNat y6.1 < v6∧Lp (σ:=Int×Bool) (fun y8 R8=>let v13:=List.getD y4.2.2.2.2.2 (Int.toNat y8.1) Za;cond (decide (y8.1 < ((v7:Nat):Int))) (((0:Int)≤y8.1∧y8.1 < ((v7:Nat):Int))∧(Int.toNat y8.1 < v7∧((y8.2=true→(y8.2=true∧True))∧((y8.2=true→(y8.2=true∧True))∧((y8.2=true→(y8.2=true∧(y8.2=true∧((0:Int)≤x2∧x2 < ((List.length v11.2.2.1:Nat):Int)))))∧((y8.2=true→(y8.2=true∧True))∧((y8.2=true→(y8.2=true∧True))∧((y8.2=true→(y8.2=true∧True))∧(((y8.2&&(!(v12 == (1:Int))))=true→((y8.2&&(!(v12 == (1:Int))))=true∧True))∧(((y8.2&&(!(v12 == (1:Int))))=true→((y8.2&&(!(v12 == (1:Int))))=true∧True))∧(((y8.2&&(!(v12 == (1:Int))))=true→((y8.2&&(!(v12 == (1:Int))))=true∧((y8.2&&(!(v12 == (1:Int))))=true∧((0:Int)≤x2∧x2 < ((List.length v13.2.2.1:Nat):Int)))))∧(((y8.2&&(!(v12 == (1:Int))))=true→((y8.2&&(!(v12 == (1:Int))))=true∧True))∧(((y8.2&&(!(v12 == (1:Int))))=true→((y8.2&&(!(v12 == (1:Int))))=true∧True))∧((y8.2=true→(y8.2=true∧((v12 == (1:Int))=false→(y8.2&&(!(v12 == (1:Int))))=true)))∧((y8.2=true→y8.2=true)∧(Zo IntKind.i64 (y8.1+(1:Int))∧R8 ((y8.1+(1:Int)),(y8.2&&((v12 == (1:Int))||((List.getD v13.2.2.1 (Int.toNat x2) (0:Int)) == (-(1:Int)))))))))))))))))))))) (Zo IntKind.i64 (y6.1+(1:Int))∧R6 ((y6.1+(1:Int)),y8.2))) ((0:Int),y6.2))) (cond y6.2 (Lp (σ:=Int×List (Zc)) (fun y8 R8=>let v15:=List.getD y4.2.2.2.2.1 (Int.toNat y8.1) Za;let v18:=List.getD v15.2.2.1 (Int.toNat x2) (0:Int);let v20:=Zm.fn (v15.2.2,(x2,()));cond (decide (y8.1 < ((v6:Nat):Int))) (((0:Int)≤y8.1∧y8.1 < ((v6:Nat):Int))∧(Int.toNat y8.1 < v6∧Lp (σ:=Int×List (Zc)) (fun y10 R10=>let v16:=List.getD y4.2.2.2.2.2 (Int.toNat y10.1) Za;let v17:=List.getD v16.2.2.1 (Int.toNat x2) (0:Int);let v19:=Zm.fn (v16.2.2,(x2,()));let v22:=[((0:Int),((0:Int),(ZB.fn (v18,(v19,((-v17),(v20,())))))))];cond (decide (y10.1 < ((v7:Nat):Int))) (((0:Int)≤y10.1∧y10.1 < ((v7:Nat):Int))∧(Int.toNat y10.1 < v7∧(((0:Int)≤x2∧x2 < ((List.length v15.2.2.1:Nat):Int))∧(Zm.pre (v16.2.2,(x2,()))∧(((0:Int)≤x2∧x2 < ((List.length v16.2.2.1:Nat):Int))∧(Zo IntKind.i64 (-v17)∧(Zm.pre (v15.2.2,(x2,()))∧(ZB.pre (v18,(v19,((-v17),(v20,()))))∧((((List.length y10.2+List.length v22)*48)≤140737488355328∧(List.length y10.2+List.length v22)≤9223372036854775807)∧(Zo IntKind.i64 (y10.1+(1:Int))∧R10 ((y10.1+(1:Int)),(y10.2++v22)))))))))))) (Zo IntKind.i64 (y8.1+(1:Int))∧R8 ((y8.1+(1:Int)),y10.2))) ((0:Int),y8.2))) (ZH.pre ([y8.2],())∧Q (ZH.fn ([y8.2],())))) ((0:Int),y4.2.2.1)) (Zu.pre (x0,(y4.2.2.1,(x2,())))∧Q (Zu.fn (x0,(y4.2.2.1,(x2,()))))))) ((0:Int),(((List.length y4.2.2.2.1:Nat):Int) == (0:Int))))))))))))) ((0:Int),((-(1:Int)),(([]:List (Zc)),(([]:List (Zc)),(([]:List (Zc)),([]:List (Zc)))))))
def Znh(v:Nat)(l:Int)(c:Zc):Zc:=(c.1,c.2.1*ZbS v l c,((Zck (ZbS v l c) c.2.2 0 c.2.2).1.set v ((Zd v c).tdiv (Za6 (Zd v c))),(Zck (ZbS v l c) c.2.2 0 c.2.2).2))
theorem Zc4(f:Int)(l:Lin):Zck f l 0 l=(l.1.map fun n=>f*n,f*l.2):=by
 unfold Zck
 congr 1
 ·apply List.ext_getElem (by simp)
  intro i h1 h2
  simp only[List.length_map,List.length_range] at h1
  simp only[List.getElem_map,List.getElem_range]
  rw[ZD h1];omega
 ·omega
theorem ZnW{l:List Int}{i:Nat}{x:Int}:ZcU (l.set i x) i=ZcU l i:=by
 unfold ZcU
 rw[List.take_set_of_le (Nat.le_refl i),List.drop_set_of_lt (Nat.lt_succ_self i)]
theorem Zsr{l:List Int}{i:Nat}{g:Int→Int}:ZcU (l.map g) i=(ZcU l i).map g:=by
 unfold ZcU
 rw[List.map_append,List.map_take,List.map_drop]
theorem Ztq{n i:Nat}{x:Int}(h:i < n):ZcU (List.replicate n x) i=List.replicate (n - 1) x:=by
 unfold ZcU
 rw[List.take_replicate,List.drop_replicate,List.replicate_append_replicate]
 congr 1;omega
theorem ZkI{a:Int}(h:a≠0):a.tdiv (Za6 a)=ZmR a:=by
 unfold ZmR Za6
 split
 ·rw[show max a (-a)=-a by omega,Int.tdiv_neg,Int.tdiv_self h]
 ·rw[show max a (-a)=a by omega,Int.tdiv_self h]
theorem ZhZ(v:Nat)(l:Int)(c:Zc):ZaC v (Znh v l c)=Zjj v l c:=by
 unfold ZaC Znh Zjj
 simp only[Zc4,ZnW,Zsr]
 rfl
theorem ZiA{v:Nat}{l:Int}{c:Zc}(h:v < c.2.2.1.length)(h0:Zd v c≠0):Zd v (Znh v l c)=ZmR (Zd v c):=by
 show List.getD (List.set (Zck (ZbS v l c) c.2.2 0 c.2.2).1 v ((Zd v c).tdiv (Za6 (Zd v c)))) v 0=_
 rw[Zc4,List.getD_eq_getElem?_getD,List.getElem?_set]
 simp[h,ZkI h0]
def Zea(N v:Nat)(l:Int):Zc:=(2,l,(List.replicate N (0:Int)).set v 1,0)
theorem Zin{N v:Nat}{l:Int}(h:v < N):ZaC v (Zea N v l)=(List.replicate (N - 1) 0,0):=by
 unfold ZaC Zea
 simp only[ZnW,Ztq h]
theorem Zi1{N v:Nat}{l:Int}(h:v < N):Zd v (Zea N v l)=1:=by
 show List.getD (List.set (List.replicate N (0:Int)) v 1) v 0=1
 rw[List.getD_eq_getElem?_getD,List.getElem?_set]
 simp[h]
theorem Ztn{k:Nat}{w:Lin}(h:w.1.length=k):Zck 1 (List.replicate k 0,0) 1 w=w:=by
 obtain⟨C,K⟩:=w
 unfold Zck
 congr 1
 ·apply List.ext_getElem (by simpa using h.symm)
  intro i h1 h2
  simp only[List.length_map,List.length_range,List.length_replicate] at h1
  simp only[List.getElem_map,List.getElem_range]
  rw[ZD (by simpa using h1),ZD h2];simp
 ·simp
def Zrm(v:Nat)(w:Lin)(c:Zc):Zc:=(c.1,c.2.1*1,Zck 1 (ZaC v c) (Zd v c*1) w)
theorem ZtE{v:Nat}{l:Int}{w:Lin}{c:Zc}(h:v < c.2.2.1.length)(h0:Zd v c≠0):Zrm v w (Znh v l c)=Zvm v l w c:=by
 unfold Zrm Zvm
 rw[ZhZ,ZiA h h0,Int.mul_one,Int.mul_one]
 rfl
theorem ZpY{N v:Nat}{l:Int}{w:Lin}(h:v < N)(hw:w.1.length=N - 1):Zrm v w (Zea N v l)=(2,l,w):=by
 unfold Zrm
 rw[Zin h,Zi1 h,Int.mul_one,Int.mul_one,Ztn hw]
 rfl
theorem Zu7 {p : List Zc} {n : Int} {v : Nat} (h : pieceN p n) (hv : (v : Int) < n) {l : Int} {w : Lin} (hw : w.1.length = n.toNat - 1) (all : Bool) :
 ZbJ v p++((((Zr v p).map (Znh v l))++[Zea n.toNat v l]).filter fun c=>all||decide (c.1=2)).map (Zrm v w)=Ze5 v p l w all:=by
 unfold Ze5
 rw[List.filter_append,List.map_append,← List.append_assoc]
 congr 1
 ·congr 1
  rw[List.filter_map,List.map_map]
  have e:((fun c:Zc=>all||decide (c.1=2))∘Znh v l)=fun c:Zc=>all||decide (c.1=2):=rfl
  rw[e]
  apply List.map_congr_left
  intro c hc
  have hcp:=ZaI.1 (List.mem_filter.1 hc).1
  have:=(h.c hcp.1).2
  exact ZtE (by omega) hcp.2
 ·rw[List.filter_cons_of_pos (by simp[Zea]),List.filter_nil]
  simp only[List.map_cons,List.map_nil]
  rw[ZpY (by omega) hw]
theorem ZiJ{α β:Type}(f:α→Bool)(g:α→List β):∀ l:List α,(l.flatMap fun x=>if f x=true then g x else [])=(l.filter f).flatMap g
 | []=>rfl
 | x::l=>by
   rw[List.flatMap_cons,ZiJ f g l]
   by_cases hf:f x=true
   ·rw[if_pos hf,List.filter_cons_of_pos hf,List.flatMap_cons]
   ·rw[if_neg hf,List.filter_cons_of_neg hf,List.nil_append]
theorem Zjv(v:Nat)(q:List Zc)(c:Zc):Zr v (q++[c])=Zr v q++if Zd v c≠0 then [c] else []:=by
 unfold Zr
 rw[List.filter_append]
 congr 1
 by_cases h:Zd v c≠0<;>simp[h]
theorem Zse(v:Nat)(q:List Zc)(c:Zc):(ZbQ v (q++[c])).length=(ZbQ v q).length+if Zd v c≠0∧c.1≠1∧c.1≠2∧0 < Zd v c then 1 else 0:=by
 unfold ZbQ
 rw[List.filter_append,List.length_append]
 congr 1
 by_cases h:Zd v c≠0∧c.1≠1∧c.1≠2∧0 < Zd v c
 ·rw[if_pos h,List.filter_cons_of_pos (by simpa using h)];rfl
 ·rw[if_neg h,List.filter_cons_of_neg (by simpa using h)];rfl
theorem ZsK(v:Nat)(q:List Zc)(c:Zc):(upP v (q++[c])).length=(upP v q).length+if Zd v c≠0∧c.1≠1∧c.1≠2∧¬ 0 < Zd v c then 1 else 0:=by
 unfold upP
 rw[List.filter_append,List.length_append]
 congr 1
 by_cases h:Zd v c≠0∧c.1≠1∧c.1≠2∧¬ 0 < Zd v c
 ·rw[if_pos h,List.filter_cons_of_pos (by simpa using h)];rfl
 ·rw[if_neg h,List.filter_cons_of_neg (by simpa using h)];rfl
theorem Zqo{c:Zc}(h:Zi c=true)(h2:c.1=2):1≤c.2.1∧c.2.1≤512:=by
 unfold Zi at h
 rw[if_neg (by omega),if_pos h2] at h
 simp only[Bool.and_eq_true,decide_eq_true_iff] at h
 omega
theorem Zk8{c:Zc}{n:Int}{v:Nat}{l:Int}(h:Zi c=true∧(c.2.2.1.length:Int)=n)(hv:(v:Int) < n)(hn:n≤12)(hf:1≤ZbS v l c∧ZbS v l c≤512)(h0:Zd v c≠0):Zwz n.toNat (Znh v l c):=by
 have hM:-512≤c.2.1∧c.2.1≤512:=by
  rcases ZeT h.1 with h1 | h1 | ⟨h1,_,_⟩
  ·have:=h.1;unfold Zi at this;rw[if_pos (.inl h1)] at this;simp only[Bool.and_eq_true,beq_iff_eq] at this;omega
  ·have:=h.1;unfold Zi at this;rw[if_pos (.inr h1)] at this;simp only[Bool.and_eq_true,beq_iff_eq] at this;omega
  ·have:=Zqo h.1 h1;omega
 have hm:=Zdf (n:=512) (m:=512) (by omega) (by omega) hM.1 hM.2 (show -512≤ZbS v l c by omega) hf.2
 have hl:=Zaj.b (Zi.lin h.1)
 have key:∀ x:Int,(-1048576≤x∧x≤1048576)→-536870912≤ZbS v l c*x∧ZbS v l c*x≤536870912:=fun x hx =>
  Zdf (n:=512) (m:=1048576) (by omega) (by omega) (by omega) hf.2 hx.1 hx.2
 have hlen:(Znh v l c).2.2.1.length=n.toNat:=by
  show ((Zck (ZbS v l c) c.2.2 0 c.2.2).1.set v _).length=_
  rw[Zc4,List.length_set,List.length_map];omega
 refine⟨by show -1048576≤c.2.1*ZbS v l c∧c.2.1*ZbS v l c≤1048576;omega,⟨by show (Znh v l c).2.2.1.length≤_;omega,fun x hx=>?_,?_⟩,hlen⟩
 ·have hx':x∈(Zck (ZbS v l c) c.2.2 0 c.2.2).1.set v ((Zd v c).tdiv (Za6 (Zd v c))):=hx
  rw[ZkI h0,Zc4] at hx'
  rcases List.mem_or_eq_of_mem_set hx' with hx' | rfl
  ·simp only[List.mem_map] at hx'
   obtain⟨y,hy,rfl⟩:=hx'
   have:=key y (hl.2.1 y hy)
   omega
  ·unfold ZmR;split<;>omega
 ·show -4294967296≤(Zck (ZbS v l c) c.2.2 0 c.2.2).2∧(Zck (ZbS v l c) c.2.2 0 c.2.2).2≤4294967296
  rw[Zc4]
  have:=key _ hl.2.2
  simp only;omega
theorem Zr0{N v:Nat}{l:Int}(hN:N≤12)(hl:1≤l∧l≤512):Zwz N (Zea N v l):=by
 refine⟨by show -1048576≤l∧l≤1048576;omega,⟨by show ((List.replicate N (0:Int)).set v 1).length≤_;rw[List.length_set,List.length_replicate];omega,fun x hx=>?_,by show (-4294967296:Int)≤0∧(0:Int)≤4294967296;omega⟩,by show ((List.replicate N (0:Int)).set v 1).length=N;rw[List.length_set,List.length_replicate]⟩
 have hx':x∈(List.replicate N (0:Int)).set v 1:=hx
 rcases List.mem_or_eq_of_mem_set hx' with hx' | rfl
 ·rw[(List.mem_replicate.1 hx').2];omega
 ·omega
theorem ZfM{β:Type}(g:Nat→β)(j:Nat):(List.range (j+1)).map g=(List.range j).map g++[g j]:=by
 rw[List.range_succ,List.map_append];rfl
theorem Zu.spec(p free:List Zc)(v:Int)(hp:Zu.pre (p,free,v,())):Zu.wp p free v (fun r=>r=Zu.fn (p,free,v,())):=by
 obtain⟨⟨n,hN,hv0,hv1⟩,hfree,hne,hno1⟩:=hp
 simp only at hN hv0 hv1 hfree hne hno1
 obtain⟨V,rfl⟩:∃ V:Nat,v=(V:Int):=⟨v.toNat,by omega⟩
 simp only[Int.toNat_natCast] at hfree hne hno1
 have hn12:=hN.2.2.2
 have h400:=hN.1
 have hVn:V < n.toNat:=by omega
 have hfn:Zu.fn (p,free,(V:Int),())=ZvB p free V:=rfl
 have hwo:∀ l:Lin,Zm.fn (l,(V:Int),())=(ZcU l.1 V,l.2):=fun _=>rfl
 have hpu:∀ c w,Z6.fn (c,(V:Int),1,1,w,())=Zrm V w c:=fun _ _=>rfl
 have hmx:∀ a l b m,ZB.fn (a,l,b,m,())=Zck a l b m:=fun _ _ _ _=>rfl
 have hma:∀ l,ZH.fn (l,())=Zed l:=fun _=>rfl
 have hnu:∀ a b,ZR.fn (a,b,())=(List.replicate a.toNat 0,b):=fun _ _=>rfl
 have hlc:∀ l,Zat.fn (l,())=ZiH l:=fun _=>rfl
 simp only[Zu.wp,hfn,Zq.fn,hwo,hpu,hmx,hma,hnu,hlc,Int.toNat_natCast]
 have hszc:∀ c∈p,Zq.pre (Zd V c,()):=fun c hc=>by
  have:=Zcv (hN.c hc).1 V
  exact⟨by show -2305843009213693952≤Zd V c;omega,by show Zd V c≤2305843009213693952;omega⟩
 have hpartlen:(Zr V p).length≤400:=Nat.le_trans (List.length_filter_le _ _) h400
 refine Lp.flt p Za [] (fun jc=>decide (Zd V jc.2≠0)) (fun jc=>Za6 (Zd V jc.2)) (by omega) (fun i t R hi hi' hf htl h1 h2=>?_) (fun R _=>?_)
 ·have hm:=Zj (d:=Za) hi
  simp only[decide_eq_true hi',Int.toNat_natCast,cond_true]
  obtain⟨c,hq⟩:∃ c,p.getD i Za=c:=⟨_,rfl⟩
  simp only[hq] at hm h1 h2 ⊢
  have hlen:(V:Int) < (c.2.2.1.length:Int):=by have:=(hN.c hm).2;omega
  have hcoef:c.2.2.1.getD V 0=Zd V c:=rfl
  simp only[hcoef,List.length_nil,Nat.zero_add] at htl ⊢
  refine⟨⟨by omega,hi'⟩,⟨by omega,hlen⟩,?_⟩
  by_cases h0:Zd V c=0
  ·rw[show (Zd V c != 0)=false by simpa using h0,cond_false]
   exact⟨hf,h2 (by simpa using h0)⟩
  ·rw[show (Zd V c != 0)=true by simpa using h0,cond_true]
   exact⟨⟨by omega,hlen⟩,hszc c hm,⟨by simp only[List.length_singleton];omega,by simp only[List.length_singleton];omega⟩,hf,h1 (by simpa using h0)⟩
 simp only[Int.lt_irrefl,decide_false,cond_false,List.nil_append]
 have hall:((Zbv Za p).filter fun jc=>decide (Zd V jc.2≠0)).map (fun jc=>Za6 (Zd V jc.2))=(Zr V p).map fun c=>Za6 (Zd V c):=ZdM Za p (fun c=>decide (Zd V c≠0)) (fun c=>Za6 (Zd V c))
 simp only[hall]
 have hL:ZiH ((Zr V p).map fun c=>Za6 (Zd V c))=Zbs V p:=rfl
 simp only[hL]
 have hres:ZvB p free V=if (Zbs V p).2≠0 then ([],3) else if (ZeS V p (Zbs V p).1).2≠0 then ([],3)
  else Zed (Zb1 V p ((p.getD 0 Za).2.2.1.length - 1) (Zbs V p).1 (ZeS V p (Zbs V p).1).1.toNat):=rfl
 rw[hres]
 refine⟨fun x hx=>?_,?_⟩
 ·obtain⟨c,hc,rfl⟩:=List.mem_map.1 hx
  have:=Ziw (Zcv (hN.c (ZaI.1 hc).1).1 V)
  omega
 by_cases hl0:(Zbs V p).2=0
 rotate_left
 ·rw[show ((Zbs V p).2 != 0)=true by simpa using hl0,cond_true,if_pos hl0]
 rw[show ((Zbs V p).2 != 0)=false by simpa using hl0,cond_false,if_neg (by simpa using hl0)]
 obtain⟨_,hl1,hl512⟩:=Zfs hl0
 have hfac:∀ c∈Zr V p,1≤ZbS V (Zbs V p).1 c∧ZbS V (Zbs V p).1 c≤512:=fun c hc=>⟨(ZeB hl0 hc).2.1,(ZeB hl0 hc).2.2.1⟩
 obtain⟨l,hl⟩:∃ l,(Zbs V p).1=l:=⟨_,rfl⟩
 simp only[hl] at hl1 hl512 hfac ⊢
 refine Lp.iter p.length (fun i z=>z=((i:Int),(if Zr V (p.take i)=[] then (0:Int) else n),((ZbQ V (p.take i)).length:Int),((upP V (p.take i)).length:Int),l::((Zr V (p.take i)).filter fun c=>decide (c.1=2)).map (fun c=>c.2.1*ZbS V l c),(Zr V (p.take i)).map (Znh V l))) (by simp[Zr,ZbQ,upP]) ?_
 rintro i z hle rfl R1 hR1
 by_cases e:i < p.length
 ·have e':(i:Int) < (p.length:Int):=by omega
  have hm:=Zj (d:=Za) e
  have hR1':=hR1 e _ rfl
  rw[ZbU (d:=Za) e,Zjv,Zse,ZsK] at hR1'
  simp only[decide_eq_true e',Int.toNat_natCast,cond_true]
  obtain⟨c,hq⟩:∃ c,p.getD i Za=c:=⟨_,rfl⟩
  simp only[hq] at hm hR1' ⊢
  have hcn:=hN.c hm
  have hlen:(V:Int) < (c.2.2.1.length:Int):=by have:=hcn.2;omega
  have hcoef:c.2.2.1.getD V 0=Zd V c:=rfl
  simp only[hcoef]
  have hfi:Zo IntKind.i64 ((i:Int)+1):=⟨by omega,by omega⟩
  refine⟨⟨by omega,e'⟩,⟨by omega,hlen⟩,?_⟩
  by_cases h0:Zd V c=0
  ·rw[show (Zd V c == 0)=true by simpa using h0,cond_true]
   have hif:(if Zd V c≠0 then [c] else [])=([]:List Zc):=if_neg (by simpa using h0)
   have hif1:(if Zd V c≠0∧c.1≠1∧c.1≠2∧0 < Zd V c then 1 else 0)=0:=if_neg (fun h=>h.1 h0)
   have hif2:(if Zd V c≠0∧c.1≠1∧c.1≠2∧¬ 0 < Zd V c then 1 else 0)=0:=if_neg (fun h=>h.1 h0)
   rw[hif,hif1,hif2,List.append_nil] at hR1'
   exact⟨hfi,hR1'⟩
  ·rw[show (Zd V c == 0)=false by simpa using h0,cond_false]
   have hcp:c∈Zr V p:=ZaI.2 ⟨hm,h0⟩
   obtain⟨f1,f2⟩:=hfac c hcp
   have hab:=Ziw (Zcv hcn.1 V)
   have ha1:Za6 (Zd V c)≠0:=fun h=>h0 (Zq0.1 h)
   have hmed:=Zk8 hcn (by omega) hn12 ⟨f1,f2⟩ h0
   have hc1:=hno1 c hcp
   have hlq:(Zr V (p.take i)).length≤i:=Nat.le_trans (List.length_filter_le _ _) (by rw[List.length_take];omega)
   have hlow:(ZbQ V (p.take i)).length≤i:=Nat.le_trans (List.length_filter_le _ _) (by rw[List.length_take];omega)
   have hup:(upP V (p.take i)).length≤i:=Nat.le_trans (List.length_filter_le _ _) (by rw[List.length_take];omega)
   have hdq:=List.length_filter_le (fun c:Zc=>decide (c.1=2)) (Zr V (p.take i))
   have hif:(if Zd V c≠0 then [c] else [])=[c]:=if_pos h0
   rw[hif,if_neg (show ¬ Zr V (p.take i)++[c]=[] by simp)] at hR1'
   have hfacq:l.tdiv (Za6 (Zd V c))=ZbS V l c:=rfl
   have hscl:((c.1,c.2.1*ZbS V l c,(Zck (ZbS V l c) c.2.2 0 c.2.2).1.set V ((Zd V c).tdiv (Za6 (Zd V c))),(Zck (ZbS V l c) c.2.2 0 c.2.2).2):Zc)=Znh V l c:=rfl
   have hslen:((Zck (ZbS V l c) c.2.2 0 c.2.2).1.set V ((Zd V c).tdiv (Za6 (Zd V c)))).length=n.toNat:=hmed.2.2
   have hmlen:(Zck (ZbS V l c) c.2.2 0 c.2.2).1.length=n.toNat:=by rw[List.length_set] at hslen;exact hslen
   have hMf:Zo IntKind.i64 (c.2.1*ZbS V l c):=by have:=hmed.1;have h:-1048576≤c.2.1*ZbS V l c∧c.2.1*ZbS V l c≤1048576:=this;exact⟨by omega,by omega⟩
   have hsg:Zo IntKind.i64 ((Zd V c).tdiv (Za6 (Zd V c))):=by rw[ZkI h0];unfold ZmR;split<;>exact⟨by omega,by omega⟩
   have hvs:=Zfp hcn.1
   simp only[hfacq,hscl,hslen,hmlen]
   refine⟨hszc c hm,⟨ha1,⟨by omega,by omega⟩⟩,hMf,⟨⟨by show -1048576≤ZbS V l c;omega,by show ZbS V l c≤1048576;omega⟩,hvs,⟨by show (-1048576:Int)≤0;omega,by show (0:Int)≤1048576;omega⟩,hvs,rfl⟩,hszc c hm,⟨ha1,hsg⟩,⟨by omega,by omega⟩,by omega,⟨by simp only[List.length_singleton,List.length_map];omega,by simp only[List.length_singleton,List.length_map];omega⟩,?_⟩
   rw[List.map_append,List.map_cons,List.map_nil,List.filter_append] at hR1'
   have hnn:((n.toNat:Nat):Int)=n:=by omega
   by_cases h2:c.1=2
   ·rw[show (c.1 == 2)=true by simpa using h2,cond_true]
    rw[if_neg (fun h=>h.2.2.1 h2),if_neg (fun h=>h.2.2.1 h2),List.filter_cons_of_pos (by simpa using h2),List.filter_nil,List.map_append] at hR1'
    refine⟨⟨by simp only[List.length_cons,List.length_nil,List.length_map];omega,by simp only[List.length_cons,List.length_nil,List.length_map];omega⟩,hfi,?_⟩
    rw[hnn]
    exact hR1'
   ·rw[show (c.1 == 2)=false by simpa using h2,cond_false]
    rw[List.filter_cons_of_neg (by simpa using h2),List.filter_nil,List.append_nil] at hR1'
    by_cases hpos:0 < Zd V c
    ·rw[decide_eq_true hpos,cond_true]
     rw[if_pos ⟨h0,hc1,h2,hpos⟩,if_neg (fun h=>h.2.2.2 hpos)] at hR1'
     refine⟨⟨by omega,by omega⟩,hfi,?_⟩
     rw[hnn]
     exact hR1'
    ·rw[decide_eq_false hpos,cond_false]
     rw[if_neg (fun h=>hpos h.2.2.2),if_pos ⟨h0,hc1,h2,hpos⟩] at hR1'
     refine⟨⟨by omega,by omega⟩,hfi,?_⟩
     rw[hnn]
     exact hR1'
 have hip:i=p.length:=by omega
 subst hip
 simp only[Int.lt_irrefl,decide_false,cond_false,List.take_length,if_neg hne]
 obtain⟨N,rfl⟩:∃ N:Nat,n=(N:Int):=⟨n.toNat,by omega⟩
 simp only[Int.toNat_natCast] at hVn ⊢
 have hwh:(((2:Int),(l,((List.set (List.replicate N (0:Int)) V (1:Int)),(0:Int)))):Zc)=Zea N V l:=rfl
 have hdd:ZiH (l::((Zr V p).filter fun c=>decide (c.1=2)).map (fun c=>c.2.1*ZbS V l c))=ZeS V p l:=rfl
 simp only[hwh,hdd,List.length_replicate]
 have hdq:=List.length_filter_le (fun c:Zc=>decide (c.1=2)) (Zr V p)
 refine⟨⟨by omega,by omega,by omega,by omega⟩,⟨by omega,by omega⟩,hVn,⟨by simp only[List.length_singleton,List.length_map];omega,by simp only[List.length_singleton,List.length_map];omega⟩,fun x hx=>?_,?_⟩
 ·rcases List.mem_cons.1 hx with rfl | hx
  ·omega
  ·obtain⟨c,hc,rfl⟩:=List.mem_map.1 hx
   obtain⟨hc,_⟩:=List.mem_filter.1 hc
   obtain⟨f1,f2⟩:=hfac c hc
   have:=Zsw (Zjc (hN.c (ZaI.1 hc).1).1) (b:=ZbS V l c) (by omega)
   omega
 by_cases hd0:(ZeS V p l).2=0
 rotate_left
 ·rw[show ((ZeS V p l).2 != 0)=true by simpa using hd0,cond_true,if_pos hd0]
 rw[show ((ZeS V p l).2 != 0)=false by simpa using hd0,cond_false,if_neg (by simpa using hd0)]
 obtain⟨hd1,hd512,_,_⟩:=Znj hd0
 obtain⟨d,hd⟩:∃ d:Nat,(ZeS V p l).1=(d:Int):=⟨(ZeS V p l).1.toNat,by omega⟩
 simp only[hd,Int.toNat_natCast] at hd1 hd512 ⊢
 have hlen0:(p.getD 0 Za).2.2.1.length=N:=by
  have hp0:0 < p.length:=by
   rcases hp0:p with _ | ⟨c,q⟩
   ·rw[hp0] at hne;exact absurd rfl hne
   ·simp
  have:=(hN.c (Zj (d:=Za) hp0)).2
  omega
 rw[hlen0]
 have hN12:N≤12:=by omega
 have hputs:∀ (w:Lin) (all:Bool),w.1.length=N - 1→free++((((Zr V p).map (Znh V l))++[Zea N V l]).filter fun c=>all||decide (c.1=2)).map (Zrm V w)=Ze5 V p l w all:=fun w all hw=>by
  rw[hfree]
  exact Zu7 hN (by omega) hw all
 have hfl:free.length≤400:=by rw[hfree];exact Nat.le_trans Zcl h400
 obtain⟨W,hW⟩:∃ W,(Zr V p).map (Znh V l)++[Zea N V l]=W:=⟨_,rfl⟩
 have hWlen:W.length≤401:=by rw[← hW];simp;omega
 have hWmed:∀ c∈W,Zwz N c∧(-1048576≤Zd V c∧Zd V c≤1048576):=fun c hc=>by
  rw[← hW] at hc
  rcases List.mem_append.1 hc with hc | hc
  ·obtain⟨c',hc',rfl⟩:=List.mem_map.1 hc
   have hcp:=ZaI.1 hc'
   have hcn:=hN.c hcp.1
   refine⟨Zk8 hcn (by omega) hn12 (hfac c' hc') hcp.2,?_⟩
   rw[ZiA (by have:=hcn.2;omega) hcp.2]
   unfold ZmR;split<;>omega
  ·rw[List.mem_singleton.1 hc]
   refine⟨Zr0 hN12 ⟨hl1,hl512⟩,?_⟩
   rw[Zi1 hVn];omega
 simp only[hW] at hputs ⊢
 have hgood:=ZfF hN (v:=V) (by omega) hl0 (d:=d) (by omega)
 simp only[hl,Int.toNat_natCast] at hgood
 have hpre:∀ L,L=Zb1 V p (N - 1) l d→ZH.pre (L,()):=fun L hL=>by
  rw[hL]
  exact⟨Nat.le_trans hgood.1 (by omega),fun q hq=>⟨(hgood.2 q hq).D.1,_,(hgood.2 q hq).D.2⟩⟩
 have hnum:∀ j:Nat,j≤512→ZR.pre ((N:Int) - 1,(j:Int),()):=fun j _=>⟨by show (0:Int)≤(N:Int) - 1;omega,by show (N:Int) - 1≤1048576;omega⟩
 have hNt:((N:Int) - 1).toNat=N - 1:=by omega
 simp only[hNt]
 refine⟨fun h=>⟨h,trivial⟩,fun h=>by rw[h];rfl,?_⟩
 by_cases hAB:ZbQ V p=[]∨upP V p=[]
 ·have hc:(((ZbQ V p).length:Int) == 0||((upP V p).length:Int) == 0)=true:=by
   rcases hAB with h | h<;>simp[h]
  rw[hc,cond_true]
  have hT:Zb1 V p (N - 1) l d=(List.range d).map fun (j:Nat)=>Ze5 V p l (List.replicate (N - 1) 0,(j:Int)) false:=by
   unfold Zb1;rw[if_pos hAB]
  refine Lp.iter d (fun j z=>z=((j:Int),(List.range j).map fun (j:Nat)=>Ze5 V p l (List.replicate (N - 1) 0,(j:Int)) false)) rfl ?_
  rintro j z hj rfl R2 hR2
  by_cases ej:j < d
  ·simp only[decide_eq_true (show (j:Int) < (d:Int) by omega),cond_true,List.length_nil,Nat.zero_add]
   refine⟨⟨by omega,by omega⟩,?_⟩
   have hR2':=hR2 ej _ rfl
   rw[ZfM] at hR2'
   refine Lp.flt W Za free (fun jc=>decide (jc.2.1=2)) (fun jc=>Zrm V (List.replicate (N - 1) 0,(j:Int)) jc.2) (by omega) (fun i t R3 hi hi' hf htl h1 h2=>?_) (fun R3 _=>?_)
   ·have hm:=Zj (d:=Za) hi
    simp only[decide_eq_true hi',Int.toNat_natCast,cond_true]
    obtain⟨c,hq⟩:∃ c,W.getD i Za=c:=⟨_,rfl⟩
    simp only[hq] at hm h1 h2 ⊢
    refine⟨⟨by omega,hi'⟩,hi,?_⟩
    by_cases h2':c.1=2
    ·rw[show (c.1 == 2)=true by simpa using h2',cond_true]
     obtain⟨hmed,hcf⟩:=hWmed c hm
     exact⟨⟨by omega,by omega⟩,hnum j (by omega),⟨⟨N,hmed,by omega,by show (List.replicate (N - 1) (0:Int)).length+1=N;rw[List.length_replicate];omega,by show (0:Int)≤V;omega,by show (V:Int) < N;omega⟩,hcf,by show (-1048576:Int)≤1∧(1:Int)≤1048576;omega,.inl rfl,(ZkS (n:=N - 1) (j:=j) (by omega)).small (by omega) (by omega)⟩,⟨by simp only[List.length_singleton];omega,by simp only[List.length_singleton];omega⟩,hf,h1 (by simpa using h2')⟩
    ·rw[show (c.1 == 2)=false by simpa using h2',cond_false]
     exact⟨hf,h2 (by simpa using h2')⟩
   ·simp only[Int.lt_irrefl,decide_false,cond_false]
    have hq:=hputs (List.replicate (N - 1) 0,(j:Int)) false (by simp)
    rw[ZdM Za W (fun c=>decide (c.1=2)) (Zrm V (List.replicate (N - 1) 0,(j:Int)))]
    simp only[Bool.false_or] at hq
    rw[hq]
    exact⟨⟨by simp only[List.length_singleton,List.length_map,List.length_range];omega,by simp only[List.length_singleton,List.length_map,List.length_range];omega⟩,⟨by omega,by omega⟩,hR2'⟩
  ·have:j=d:=by omega
   subst this
   simp only[Int.lt_irrefl,decide_false,cond_false]
   exact⟨hpre _ hT.symm,by rw[hT]⟩
 ·have hc:(((ZbQ V p).length:Int) == 0||((upP V p).length:Int) == 0)=false:=by
   simp only[not_or] at hAB
   have h1:(ZbQ V p).length≠0:=fun h=>hAB.1 (List.eq_nil_of_length_eq_zero h)
   have h2:(upP V p).length≠0:=fun h=>hAB.2 (List.eq_nil_of_length_eq_zero h)
   simp;omega
  rw[hc,cond_false]
  have hT:Zb1 V p (N - 1) l d=(ZlP V p).flatMap fun c=>(List.range d).map fun (j:Nat)=>Ze5 V p l (ZdB V l c (Zgw V p) j) true:=by
   unfold Zb1;rw[if_neg hAB]
  have side:∀ (s:Int) (low:Bool),Zgw V p=low→s=(if low then 1 else -1)→W.flatMap (fun b=>if (decide (b.1≠2)&&decide (Zd V b=s))=true then (List.range d).map (fun (j:Nat)=>Ze5 V p l (if low then ((ZaC V b).1.map fun n=>-1*n,-1*(ZaC V b).2+j) else ((ZaC V b).1,(ZaC V b).2+-j)) true) else [])=Zb1 V p (N - 1) l d:=by
   intro s low hlow hs
   rw[hT,ZiJ,← hW,List.filter_append,List.flatMap_append]
   have hw2:([Zea N V l].filter fun b=>decide (b.1≠2)&&decide (Zd V b=s))=[]:=by
    rw[List.filter_cons_of_neg (by simp[Zea])];rfl
   rw[hw2,List.flatMap_nil,List.append_nil,List.filter_map]
   unfold ZlP
   rw[List.flatMap_map]
   have hfilt:((Zr V p).filter ((fun b=>decide (b.1≠2)&&decide (Zd V b=s))∘Znh V l))=(Zr V p).filter fun c=>decide (c.1≠2∧decide (0 < Zd V c)=Zgw V p):=by
    apply List.filter_congr
    intro c hc
    have hcp:=ZaI.1 hc
    have hcs:=ZiA (l:=l) (show V < c.2.2.1.length by have:=(hN.c hcp.1).2;omega) hcp.2
    show (decide (c.1≠2)&&decide (Zd V (Znh V l c)=s))=_
    rw[hcs,hlow,hs]
    have h0:=hcp.2
    unfold ZmR
    by_cases h2:c.1=2
    ·simp[h2]
    ·cases low with
     | true=>simp[h2];omega
     | false=>simp[h2];omega
   rw[hfilt]
   congr 1
   funext c
   rw[ZhZ,hlow]
   rfl
  have hby:∀ (b:Zc) (low:Bool) (s:Int) (j:Nat),s=(if low then 1 else -1)→(ZaC V b).1.length=N - 1→Zck (-s) (ZaC V b) s (List.replicate (N - 1) 0,(j:Int))=if low then ((ZaC V b).1.map fun n=>-1*n,-1*(ZaC V b).2+j) else ((ZaC V b).1,(ZaC V b).2+-j):=by
   intro b low s j hs hb
   have hz:(List.replicate (N - 1) (0:Int),(j:Int))=(List.replicate (ZaC V b).1.length 0,(j:Int)):=by rw[hb]
   rw[hz,ZrI]
   cases low with
   | true=>rw[hs];simp
   | false=>rw[hs];simp
  have restlen:∀ b∈W,(ZaC V b).1.length=N - 1:=fun b hb=>by
   have:=(hWmed b hb).1.2.2
   show (ZcU b.2.2.1 V).length=_
   rw[ZhI (by omega),this]
  have loop : ∀ (s : Int) (low : Bool), Zgw V p = low → s = (if low then 1 else -1) → ∀ body : Int × List (List Zc) → (Int × List (List Zc) → Prop) → Prop,
   (∀ (i:Nat) (t:List (List Zc)) (R:Int×List (List Zc)→Prop),i < W.length→t.length≤401*512→W.getD i Za∈W→(decide ((W.getD i Za).1≠2)&&decide (Zd V (W.getD i Za)=s))=false→R ((i:Int)+1,t)→body ((i:Int),t) R) →
   (∀ (i:Nat) (t:List (List Zc)) (R:Int×List (List Zc)→Prop),i < W.length→t.length≤401*512→W.getD i Za∈W→(decide ((W.getD i Za).1≠2)&&decide (Zd V (W.getD i Za)=s))=true→R ((i:Int)+1,t++(List.range d).map (fun (j:Nat)=>Ze5 V p l (Zck (-s) (ZaC V (W.getD i Za)) s (List.replicate (N - 1) 0,(j:Int))) true))→body ((i:Int),t) R) →
   (∀ R:Int×List (List Zc)→Prop,body ((W.length:Int),Zb1 V p (N - 1) l d) R)→Lp body (0,[]):=by
   intro s low hlow hs body hb1 hb2 hb3
   have hside:=side s low hlow hs
   refine Lp.flat W Za [] (fun b=>if (decide (b.1≠2)&&decide (Zd V b=s))=true then (List.range d).map (fun (j:Nat)=>Ze5 V p l (if low then ((ZaC V b).1.map fun n=>-1*n,-1*(ZaC V b).2+j) else ((ZaC V b).1,(ZaC V b).2+-j)) true) else []) (by omega) (fun i R hi hi' hf hR=>?_) (fun R=>?_)
   ·have hm:=Zj (d:=Za) hi
    rw[List.nil_append] at hR ⊢
    have htl:((W.take i).flatMap fun b=>if (decide (b.1≠2)&&decide (Zd V b=s))=true then (List.range d).map (fun (j:Nat)=>Ze5 V p l (if low then ((ZaC V b).1.map fun n=>-1*n,-1*(ZaC V b).2+j) else ((ZaC V b).1,(ZaC V b).2+-j)) true) else []).length≤401*512:=by
     have h1:=ZcA (g:=fun b=>if (decide (b.1≠2)&&decide (Zd V b=s))=true then (List.range d).map (fun (j:Nat)=>Ze5 V p l (if low then ((ZaC V b).1.map fun n=>-1*n,-1*(ZaC V b).2+j) else ((ZaC V b).1,(ZaC V b).2+-j)) true) else []) (k:=512) (l:=W.take i) fun x _=>by
      split
      ·simp;omega
      ·simp
     have h2:(W.take i).length≤401:=by rw[List.length_take];omega
     exact Nat.le_trans h1 (Nat.mul_le_mul h2 (Nat.le_refl 512))
    cases hcnd:(decide ((W.getD i Za).1≠2)&&decide (Zd V (W.getD i Za)=s)) with
    | false =>
      rw[hcnd,if_neg (by simp),List.append_nil] at hR
      exact hb1 i _ R hi htl hm hcnd hR
    | true =>
      rw[hcnd,if_pos rfl] at hR
      refine hb2 i _ R hi htl hm hcnd ?_
      have e:(fun (j:Nat)=>Ze5 V p l (Zck (-s) (ZaC V (W.getD i Za)) s (List.replicate (N - 1) 0,(j:Int))) true)=fun (j:Nat)=>Ze5 V p l (if low then ((ZaC V (W.getD i Za)).1.map fun n=>-1*n,-1*(ZaC V (W.getD i Za)).2+j) else ((ZaC V (W.getD i Za)).1,(ZaC V (W.getD i Za)).2+-j)) true:=by
       funext j
       rw[hby _ low s j hs (restlen _ hm)]
      rw[e]
      exact hR
   ·rw[List.nil_append,hside]
    exact hb3 R
  have hmixpre:∀ (b:Zc) (s:Int) (j:Nat),b∈W→s=1∨s=-1→j≤512→ZB.pre (-s,ZaC V b,s,(List.replicate (N - 1) 0,(j:Int)),())∧ZcR (Zck (-s) (ZaC V b) s (List.replicate (N - 1) 0,(j:Int)))∧(Zck (-s) (ZaC V b) s (List.replicate (N - 1) 0,(j:Int))).1.length=N - 1:=by
   intro b s j hb hs hj
   obtain⟨hmed,_⟩:=hWmed b hb
   have hrl:=restlen b hb
   have hsm:ZcR (ZaC V b):=ZgV hmed.2.1 V
   have hbd:ZdZ 536870912 (N - 1) (ZaC V b):=by
    rw[← hW] at hb
    rcases List.mem_append.1 hb with hb | hb
    ·obtain⟨c,hc,rfl⟩:=List.mem_map.1 hb
     rw[ZhZ]
     exact Zh1 (hN.c (ZaI.1 hc).1) (by omega) (hfac c hc)
    ·rw[List.mem_singleton.1 hb,Zin hVn]
     exact⟨by simp,fun x hx=>by rw[(List.mem_replicate.1 hx).2];omega,by simp only;omega⟩
   have hnb:=ZkS (n:=N - 1) hj
   have hs':-1≤-s∧-s≤1:=by omega
   have hs'':-1≤s∧s≤1:=by omega
   have hm:=ZkA (A:=1) (B:=1) (by omega) (by omega) (by omega) (by omega) hs' hbd hs'' hnb
   exact⟨⟨by show -1048576≤-s∧-s≤1048576;omega,hsm,by show -1048576≤s∧s≤1048576;omega,hnb.small (by omega) (by omega),by show (ZaC V b).1.length=(List.replicate (N - 1) (0:Int)).length;rw[List.length_replicate];exact hrl⟩,hm.small (by omega) (by omega),hm.1⟩
  have hlowS:decide (((upP V p).length:Int) < ((ZbQ V p).length:Int))=!Zgw V p:=by
   unfold Zgw
   by_cases h:(ZbQ V p).length≤(upP V p).length
   ·rw[decide_eq_true h,decide_eq_false (by omega)];rfl
   ·rw[decide_eq_false h,decide_eq_true (by omega)];rfl
  rw[hlowS]
  cases hlow:Zgw V p with
  | false =>
    simp only[Bool.not_false,cond_true]
    refine loop (-1) false hlow rfl _ ?_ ?_ ?_
    ·intro i t R hi ht hm hcnd hR
     have hi':(i:Int) < (W.length:Int):=by omega
     simp only[decide_eq_true hi',Int.toNat_natCast,cond_true]
     obtain⟨b,hq⟩:∃ b,W.getD i Za=b:=⟨_,rfl⟩
     simp only[hq] at hm hcnd ⊢
     have hbl:=(hWmed b hm).1.2.2
     have hcoef:b.2.2.1.getD V 0=Zd V b:=rfl
     simp only[hcoef]
     refine⟨⟨by omega,hi'⟩,hi,fun h=>⟨h,trivial⟩,fun h=>⟨h,trivial⟩,fun h=>⟨h,h,by omega,by omega⟩,fun h=>⟨h,trivial⟩,fun h=>⟨h,h,trivial⟩,fun h=>by rw[h];rfl,?_⟩
     have:(b.1 == 2||Zd V b != -1)=true:=by
      revert hcnd
      by_cases h2:b.1=2<;>by_cases h3:Zd V b=-1<;>simp[h2,h3]
     rw[this,cond_true]
     exact⟨⟨by omega,by omega⟩,hR⟩
    ·intro i t R hi ht hm hcnd hR
     have hi':(i:Int) < (W.length:Int):=by omega
     simp only[decide_eq_true hi',Int.toNat_natCast,cond_true]
     obtain⟨b,hq⟩:∃ b,W.getD i Za=b:=⟨_,rfl⟩
     simp only[hq] at hm hcnd hR ⊢
     have hbl:=(hWmed b hm).1.2.2
     have hcoef:b.2.2.1.getD V 0=Zd V b:=rfl
     have hrest:(ZcU b.2.2.1 V,b.2.2.2)=ZaC V b:=rfl
     simp only[hcoef,hrest]
     refine⟨⟨by omega,hi'⟩,hi,fun h=>⟨h,trivial⟩,fun h=>⟨h,trivial⟩,fun h=>⟨h,h,by omega,by omega⟩,fun h=>⟨h,trivial⟩,fun h=>⟨h,h,trivial⟩,fun h=>by rw[h];rfl,?_⟩
     have:(b.1 == 2||Zd V b != -1)=false:=by
      revert hcnd
      by_cases h2:b.1=2<;>by_cases h3:Zd V b=-1<;>simp[h2,h3]
     rw[this,cond_false]
     refine⟨⟨by show b.2.2.1.length≤1048576;omega,by show (0:Int)≤V;omega,by show (V:Int) < (b.2.2.1.length:Int);omega⟩,?_⟩
     refine Lp.iter d (fun j z=>z=((j:Int),t++(List.range j).map (fun (j:Nat)=>Ze5 V p l (Zck (-(-1)) (ZaC V b) (-1) (List.replicate (N - 1) 0,(j:Int))) true))) (by simp) ?_
     rintro j z hj rfl R2 hR2
     by_cases ej:j < d
     ·simp only[decide_eq_true (show (j:Int) < (d:Int) by omega),cond_true,List.length_nil,Nat.zero_add]
      have hR2':=hR2 ej _ rfl
      rw[ZfM,← List.append_assoc] at hR2'
      obtain⟨hmp,hms,hml⟩:=hmixpre b (-1) j hm (.inr rfl) (by omega)
      refine⟨⟨by omega,by omega⟩,⟨by omega,by omega⟩,hnum j (by omega),hmp,⟨by omega,by omega⟩,?_⟩
      obtain⟨by_,hbye⟩:∃ w:Lin,Zck (-(-1)) (ZaC V b) (-1) (List.replicate (N - 1) 0,(j:Int))=w:=⟨_,rfl⟩
      simp only[hbye] at hmp hms hml hR2' ⊢
      refine Lp.iter W.length (fun k z=>z=((k:Int),by_,free++(W.take k).map (Zrm V by_),by_)) (by simp) ?_
      rintro k z hk rfl R3 hR3
      by_cases ek:k < W.length
      ·have ek':(k:Int) < (W.length:Int):=by omega
       have hmk:=Zj (d:=Za) ek
       have hR3':=hR3 ek _ rfl
       rw[ZbU (d:=Za) ek,List.map_append,List.map_cons,List.map_nil,← List.append_assoc] at hR3'
       simp only[decide_eq_true ek',Int.toNat_natCast,cond_true]
       obtain⟨hmed,hcf⟩:=hWmed _ hmk
       exact⟨⟨by omega,ek'⟩,ek,⟨⟨N,hmed,by omega,by show by_.1.length+1=N;omega,by show (0:Int)≤V;omega,by show (V:Int) < N;omega⟩,hcf,by show (-1048576:Int)≤1∧(1:Int)≤1048576;omega,.inl rfl,hms⟩,⟨by simp only[List.length_singleton,List.length_append,List.length_map,List.length_take];omega,by simp only[List.length_singleton,List.length_append,List.length_map,List.length_take];omega⟩,⟨by omega,by omega⟩,hR3'⟩
      ·have:k=W.length:=by omega
       subst this
       simp only[Int.lt_irrefl,decide_false,cond_false,List.take_length]
       have hq2:=hputs by_ true hml
       simp only[Bool.true_or] at hq2
       rw[List.filter_eq_self.2 (fun _ _=>rfl)] at hq2
       rw[hq2]
       exact⟨⟨by simp only[List.length_singleton,List.length_append,List.length_map,List.length_range];omega,by simp only[List.length_singleton,List.length_append,List.length_map,List.length_range];omega⟩,⟨by omega,by omega⟩,hR2'⟩
     ·have:j=d:=by omega
      subst this
      simp only[Int.lt_irrefl,decide_false,cond_false]
      exact⟨⟨by omega,by omega⟩,hR⟩
    ·intro R
     simp only[Int.lt_irrefl,decide_false,cond_false]
     exact⟨hpre _ rfl,trivial⟩
  | true =>
    simp only[Bool.not_true,cond_false]
    refine loop 1 true hlow rfl _ ?_ ?_ ?_
    ·intro i t R hi ht hm hcnd hR
     have hi':(i:Int) < (W.length:Int):=by omega
     simp only[decide_eq_true hi',Int.toNat_natCast,cond_true]
     obtain⟨b,hq⟩:∃ b,W.getD i Za=b:=⟨_,rfl⟩
     simp only[hq] at hm hcnd ⊢
     have hbl:=(hWmed b hm).1.2.2
     have hcoef:b.2.2.1.getD V 0=Zd V b:=rfl
     simp only[hcoef]
     refine⟨⟨by omega,hi'⟩,hi,fun h=>⟨h,trivial⟩,fun h=>⟨h,trivial⟩,fun h=>⟨h,h,by omega,by omega⟩,fun h=>⟨h,trivial⟩,fun h=>⟨h,h,trivial⟩,fun h=>by rw[h];rfl,?_⟩
     have:(b.1 == 2||Zd V b != 1)=true:=by
      revert hcnd
      by_cases h2:b.1=2<;>by_cases h3:Zd V b=1<;>simp[h2,h3]
     rw[this,cond_true]
     exact⟨⟨by omega,by omega⟩,hR⟩
    ·intro i t R hi ht hm hcnd hR
     have hi':(i:Int) < (W.length:Int):=by omega
     simp only[decide_eq_true hi',Int.toNat_natCast,cond_true]
     obtain⟨b,hq⟩:∃ b,W.getD i Za=b:=⟨_,rfl⟩
     simp only[hq] at hm hcnd hR ⊢
     have hbl:=(hWmed b hm).1.2.2
     have hcoef:b.2.2.1.getD V 0=Zd V b:=rfl
     have hrest:(ZcU b.2.2.1 V,b.2.2.2)=ZaC V b:=rfl
     simp only[hcoef,hrest]
     refine⟨⟨by omega,hi'⟩,hi,fun h=>⟨h,trivial⟩,fun h=>⟨h,trivial⟩,fun h=>⟨h,h,by omega,by omega⟩,fun h=>⟨h,trivial⟩,fun h=>⟨h,h,trivial⟩,fun h=>by rw[h];rfl,?_⟩
     have:(b.1 == 2||Zd V b != 1)=false:=by
      revert hcnd
      by_cases h2:b.1=2<;>by_cases h3:Zd V b=1<;>simp[h2,h3]
     rw[this,cond_false]
     refine⟨⟨by show b.2.2.1.length≤1048576;omega,by show (0:Int)≤V;omega,by show (V:Int) < (b.2.2.1.length:Int);omega⟩,?_⟩
     refine Lp.iter d (fun j z=>z=((j:Int),t++(List.range j).map (fun (j:Nat)=>Ze5 V p l (Zck (-1) (ZaC V b) 1 (List.replicate (N - 1) 0,(j:Int))) true))) (by simp) ?_
     rintro j z hj rfl R2 hR2
     by_cases ej:j < d
     ·simp only[decide_eq_true (show (j:Int) < (d:Int) by omega),cond_true,List.length_nil,Nat.zero_add]
      have hR2':=hR2 ej _ rfl
      rw[ZfM,← List.append_assoc] at hR2'
      obtain⟨hmp,hms,hml⟩:=hmixpre b 1 j hm (.inl rfl) (by omega)
      refine⟨⟨by omega,by omega⟩,⟨by omega,by omega⟩,hnum j (by omega),hmp,⟨by omega,by omega⟩,?_⟩
      obtain⟨by_,hbye⟩:∃ w:Lin,Zck (-1) (ZaC V b) 1 (List.replicate (N - 1) 0,(j:Int))=w:=⟨_,rfl⟩
      simp only[hbye] at hmp hms hml hR2' ⊢
      refine Lp.iter W.length (fun k z=>z=((k:Int),by_,free++(W.take k).map (Zrm V by_),by_)) (by simp) ?_
      rintro k z hk rfl R3 hR3
      by_cases ek:k < W.length
      ·have ek':(k:Int) < (W.length:Int):=by omega
       have hmk:=Zj (d:=Za) ek
       have hR3':=hR3 ek _ rfl
       rw[ZbU (d:=Za) ek,List.map_append,List.map_cons,List.map_nil,← List.append_assoc] at hR3'
       simp only[decide_eq_true ek',Int.toNat_natCast,cond_true]
       obtain⟨hmed,hcf⟩:=hWmed _ hmk
       exact⟨⟨by omega,ek'⟩,ek,⟨⟨N,hmed,by omega,by show by_.1.length+1=N;omega,by show (0:Int)≤V;omega,by show (V:Int) < N;omega⟩,hcf,by show (-1048576:Int)≤1∧(1:Int)≤1048576;omega,.inl rfl,hms⟩,⟨by simp only[List.length_singleton,List.length_append,List.length_map,List.length_take];omega,by simp only[List.length_singleton,List.length_append,List.length_map,List.length_take];omega⟩,⟨by omega,by omega⟩,hR3'⟩
      ·have:k=W.length:=by omega
       subst this
       simp only[Int.lt_irrefl,decide_false,cond_false,List.take_length]
       have hq2:=hputs by_ true hml
       simp only[Bool.true_or] at hq2
       rw[List.filter_eq_self.2 (fun _ _=>rfl)] at hq2
       rw[hq2]
       exact⟨⟨by simp only[List.length_singleton,List.length_append,List.length_map,List.length_range];omega,by simp only[List.length_singleton,List.length_append,List.length_map,List.length_range];omega⟩,⟨by omega,by omega⟩,hR2'⟩
     ·have:j=d:=by omega
      subst this
      simp only[Int.lt_irrefl,decide_false,cond_false]
      exact⟨⟨by omega,by omega⟩,hR⟩
    ·intro R
     simp only[Int.lt_irrefl,decide_false,cond_false]
     exact⟨hpre _ rfl,trivial⟩
def eqJ(v:Nat)(p:List Zc)(i:Nat):Int:=(List.range i).foldl (Zeb v p) (-1)
theorem Zlc(v:Nat)(p:List Zc)(i:Nat):eqJ v p (i+1)=Zeb v p (eqJ v p i) i:=by
 unfold eqJ
 rw[List.range_succ,List.foldl_append];rfl
theorem Zmw(v:Nat)(p:List Zc):∀ i,i≤p.length→eqJ v p i=-1∧(∀ j,j < i→Zd v (p.getD j Za)≠0→(p.getD j Za).1≠1)∨(0≤eqJ v p i∧eqJ v p i < (i:Int)∧Zd v (p.getD (eqJ v p i).toNat Za)≠0∧(p.getD (eqJ v p i).toNat Za).1=1)
 | 0,_=>.inl ⟨rfl,fun j hj=>absurd hj (by omega)⟩
 | i+1,hi=>by
   rw[Zlc]
   have ih:=Zmw v p i (by omega)
   unfold Zeb
   split
   ·rename_i h
    exact .inr ⟨by omega,by omega,by simpa using h.1,by simpa using h.2.1⟩
   ·rename_i h
    rcases ih with ⟨h1,h2⟩ | ⟨h1,h2,h3⟩
    ·refine .inl ⟨h1,fun j hj hc=>?_⟩
     by_cases e:j=i
     ·subst e
      exact fun hk=>h ⟨hc,hk,.inl (by omega)⟩
     ·exact h2 j (by omega) hc
    ·exact .inr ⟨h1,by omega,h3⟩
theorem Zkn(v:Nat)(q:List Zc)(c:Zc):ZbJ v (q++[c])=ZbJ v q++if Zd v c=0 then [Zc1 v c] else []:=by
 unfold ZbJ
 rw[List.filter_append,List.map_append]
 congr 1
 by_cases h:Zd v c=0<;>simp[h]
theorem Zmk(v:Nat)(q:List Zc)(c:Zc):Zf5 v (q++[c])=Zf5 v q++if Zd v c≠0∧c.1=2 then [c] else []:=by
 unfold Zf5
 rw[List.filter_append]
 congr 1
 by_cases h:Zd v c≠0∧c.1=2
 ·rw[if_pos h,List.filter_cons_of_pos (by simpa using h)];rfl
 ·rw[if_neg h,List.filter_cons_of_neg (by simpa using h)];rfl
theorem Zjx(v:Nat)(q:List Zc)(c:Zc):ZbQ v (q++[c])=ZbQ v q++if Zd v c≠0∧c.1≠1∧c.1≠2∧0 < Zd v c then [c] else []:=by
 unfold ZbQ
 rw[List.filter_append]
 congr 1
 by_cases h:Zd v c≠0∧c.1≠1∧c.1≠2∧0 < Zd v c
 ·rw[if_pos h,List.filter_cons_of_pos (by simpa using h)];rfl
 ·rw[if_neg h,List.filter_cons_of_neg (by simpa using h)];rfl
theorem ZlO(v:Nat)(q:List Zc)(c:Zc):upP v (q++[c])=upP v q++if Zd v c≠0∧c.1≠1∧c.1≠2∧¬ 0 < Zd v c then [c] else []:=by
 unfold upP
 rw[List.filter_append]
 congr 1
 by_cases h:Zd v c≠0∧c.1≠1∧c.1≠2∧¬ 0 < Zd v c
 ·rw[if_pos h,List.filter_cons_of_pos (by simpa using h)];rfl
 ·rw[if_neg h,List.filter_cons_of_neg (by simpa using h)];rfl
theorem ZcV{f:Zc→Bool}{p:List Zc}(i:Nat):((p.take i).filter f).length≤i:=Nat.le_trans (List.length_filter_le _ _) (by rw[List.length_take];omega)
theorem Zk0{q:List Zc}{n:Nat}(h:Zjl n q):ZH.pre ([q],()) :=
 ⟨by show ([q]:List (List Zc)).length≤_;simp,fun r hr=>by
  have hr':r∈[q]:=hr
  rw[List.mem_singleton.1 hr']
  exact⟨h.D.1,n,h.D.2⟩⟩
theorem Z1.spec(p:List Zc)(n v:Int)(hp:Z1.pre (p,n,v,())):Z1.wp p n v (fun r=>r=Z1.fn (p,n,v,())):=by
 obtain⟨hN,hv0,hv1⟩:=hp
 simp only at hN hv0 hv1
 obtain⟨V,rfl⟩:∃ V:Nat,v=(V:Int):=⟨v.toNat,by omega⟩
 obtain⟨N,rfl⟩:∃ N:Nat,n=(N:Int):=⟨n.toNat,by omega⟩
 have h400:=hN.1
 have hn12:=hN.2.2.2
 have hfn:Z1.fn (p,(N:Int),(V:Int),())=ZS p N V:=rfl
 have hwo:∀ l:Lin,Zm.fn (l,(V:Int),())=(ZcU l.1 V,l.2):=fun _=>rfl
 have hmx:∀ a l b m,ZB.fn (a,l,b,m,())=Zck a l b m:=fun _ _ _ _=>rfl
 have hma:∀ l,ZH.fn (l,())=Zed l:=fun _=>rfl
 have hso:∀ p (i:Int),Z2.fn (p,i,(V:Int),())=Zcz V p i.toNat:=fun _ _=>rfl
 have hre:∀ p free,Zu.fn (p,free,(V:Int),())=ZvB p free V:=fun _ _=>rfl
 simp only[Z1.wp,hfn,Zq.fn,hwo,hmx,hma,hso,hre,Int.toNat_natCast]
 have hszc:∀ c∈p,Zq.pre (Zd V c,()):=fun c hc=>by
  have:=Zcv (hN.c hc).1 V
  exact⟨by show -2305843009213693952≤Zd V c;omega,by show Zd V c≤2305843009213693952;omega⟩
 refine Lp.iter p.length (fun i z=>z=((i:Int),eqJ V p i,ZbJ V (p.take i),Zf5 V (p.take i),ZbQ V (p.take i),upP V (p.take i))) (by simp[eqJ,ZbJ,Zf5,ZbQ,upP]) ?_
 rintro i z hle rfl R hR
 by_cases e:i < p.length
 ·have e':(i:Int) < (p.length:Int):=by omega
  have hm:=Zj (d:=Za) e
  have hR':=hR e _ rfl
  rw[ZbU (d:=Za) e,Zkn,Zmk,Zjx,ZlO,Zlc] at hR'
  simp only[decide_eq_true e',Int.toNat_natCast,cond_true]
  have hpick:Zeb V p (eqJ V p i) i=if Zd V (p.getD i Za)≠0∧(p.getD i Za).1=1∧(eqJ V p i < 0∨Za6 (Zd V (p.getD i Za)) < Za6 (Zd V (p.getD (eqJ V p i).toNat Za))) then (i:Int) else eqJ V p i:=rfl
  rw[hpick] at hR'
  obtain⟨c,hq⟩:∃ c,p.getD i Za=c:=⟨_,rfl⟩
  simp only[hq] at hm hR' ⊢
  have hcn:=hN.c hm
  have hlen:(V:Int) < (c.2.2.1.length:Int):=by have:=hcn.2;omega
  have hcoef:c.2.2.1.getD V 0=Zd V c:=rfl
  simp only[hcoef]
  have hfi:Zo IntKind.i64 ((i:Int)+1):=⟨by omega,by omega⟩
  have l1:=ZcV (f:=fun c=>decide (Zd V c=0)) (p:=p) i
  have l2:(Zf5 V (p.take i)).length≤i:=ZcV i
  have l3:(ZbQ V (p.take i)).length≤i:=ZcV i
  have l4:(upP V (p.take i)).length≤i:=ZcV i
  have l1':(ZbJ V (p.take i)).length≤i:=by unfold ZbJ;rw[List.length_map];exact l1
  refine⟨⟨by omega,e'⟩,⟨by omega,hlen⟩,?_⟩
  by_cases h0:Zd V c=0
  ·rw[show (Zd V c == 0)=true by simpa using h0,cond_true]
   rw[if_neg (fun h=>h.1 h0),if_pos h0,if_neg (fun h=>h.1 h0),if_neg (fun h=>h.1 h0),if_neg (fun h=>h.1 h0),List.append_nil,List.append_nil,List.append_nil] at hR'
   exact⟨⟨by show c.2.2.1.length≤1048576;omega,by show (0:Int)≤V;omega,by show (V:Int) < (c.2.2.1.length:Int);omega⟩,⟨by simp only[List.length_singleton];omega,by simp only[List.length_singleton];omega⟩,hfi,hR'⟩
  ·rw[show (Zd V c == 0)=false by simpa using h0,cond_false]
   rw[if_neg (show ¬ Zd V c=0 from h0),List.append_nil] at hR'
   by_cases h1:c.1=1
   ·rw[show (c.1 == 1)=true by simpa using h1,cond_true]
    rw[if_neg (show ¬ (Zd V c≠0∧c.1=2) from fun h=>by omega),if_neg (show ¬ (Zd V c≠0∧c.1≠1∧c.1≠2∧0 < Zd V c) from fun h=>h.2.1 h1),if_neg (show ¬ (Zd V c≠0∧c.1≠1∧c.1≠2∧¬ 0 < Zd V c) from fun h=>h.2.1 h1),List.append_nil,List.append_nil,List.append_nil] at hR'
    have hJ:=Zmw V p i (by omega)
    obtain⟨E,hE⟩:∃ E,eqJ V p i=E:=⟨_,rfl⟩
    simp only[hE] at hJ hR' ⊢
    by_cases hE0:E < 0
    ·simp only[decide_eq_true hE0,Bool.not_true,Bool.true_or,cond_true]
     rw[if_pos ⟨h0,h1,.inl hE0⟩] at hR'
     simp only[Bool.false_eq_true,false_implies,true_and,Bool.true_eq_false]
     exact⟨hfi,hR'⟩
    ·have hEp:0≤E∧E < (i:Int):=by rcases hJ with h | h<;>omega
     have hmE:=Zj (d:=Za) (show E.toNat < p.length by omega)
     obtain⟨ce,hce⟩:∃ ce,p.getD E.toNat Za=ce:=⟨_,rfl⟩
     simp only[hce] at hmE hR' ⊢
     have hce2:=(hN.c hmE).2
     have hcoefe:ce.2.2.1.getD V 0=Zd V ce:=rfl
     simp only[hcoefe,decide_eq_false hE0,Bool.not_false,Bool.false_or]
     refine⟨fun h=>⟨h,hszc c hm⟩,fun h=>⟨h,h,by omega,by omega⟩,fun h=>⟨h,trivial⟩,fun h=>⟨h,trivial⟩,fun h=>⟨h,trivial⟩,fun h=>⟨h,h,by omega,by omega⟩,fun h=>⟨h,trivial⟩,fun h=>⟨h,hszc ce hmE⟩,fun h=>⟨h,h,trivial⟩,fun _=>trivial,?_⟩
     by_cases hlt:Za6 (Zd V c) < Za6 (Zd V ce)
     ·rw[decide_eq_true hlt,cond_true]
      rw[if_pos ⟨h0,h1,.inr hlt⟩] at hR'
      exact⟨hfi,hR'⟩
     ·rw[decide_eq_false hlt,cond_false]
      rw[if_neg (fun h=>h.2.2.elim hE0 hlt)] at hR'
      exact⟨hfi,hR'⟩
   ·rw[show (c.1 == 1)=false by simpa using h1,cond_false]
    rw[if_neg (fun h=>h1 h.2.1)] at hR'
    by_cases h2:c.1=2
    ·rw[show (c.1 == 2)=true by simpa using h2,cond_true]
     rw[if_pos ⟨h0,h2⟩,if_neg (fun h=>h.2.2.1 h2),if_neg (fun h=>h.2.2.1 h2),List.append_nil,List.append_nil] at hR'
     exact⟨⟨by simp only[List.length_singleton];omega,by simp only[List.length_singleton];omega⟩,hfi,hR'⟩
    ·rw[show (c.1 == 2)=false by simpa using h2,cond_false]
     rw[if_neg (show ¬ (Zd V c≠0∧c.1=2) from fun h=>h2 h.2),List.append_nil] at hR'
     by_cases hpos:0 < Zd V c
     ·rw[decide_eq_true hpos,cond_true]
      rw[if_pos ⟨h0,h1,h2,hpos⟩,if_neg (fun h=>h.2.2.2 hpos),List.append_nil] at hR'
      exact⟨⟨by simp only[List.length_singleton];omega,by simp only[List.length_singleton];omega⟩,hfi,hR'⟩
     ·rw[decide_eq_false hpos,cond_false]
      rw[if_neg (fun h=>hpos h.2.2.2),if_pos ⟨h0,h1,h2,hpos⟩,List.append_nil] at hR'
      exact⟨⟨by simp only[List.length_singleton];omega,by simp only[List.length_singleton];omega⟩,hfi,hR'⟩
 have:i=p.length:=by omega
 subst this
 simp only[Int.lt_irrefl,decide_false,cond_false,List.take_length]
 have hJ:=Zmw V p p.length (Nat.le_refl _)
 have hJe:eqJ V p p.length=eqI V p:=rfl
 rw[hJe] at hJ ⊢
 have hsh:ZS p N V=match ZcQ p N V with
  | none=>([],3)
  | some l=>Zed l:=rfl
 have hN':pieceN p (N:Int):=hN
 by_cases hE:0≤eqI V p
 ·rw[decide_eq_true hE,cond_true]
  rcases hJ with h | ⟨h1,h2,h3,h4⟩
  ·omega
  ·have hS:ZcQ p N V=some [Zcz V p (eqI V p).toNat]:=by unfold ZcQ;rw[if_pos hE]
   rw[hsh,hS]
   exact⟨⟨⟨(N:Int),hN,by show (0:Int)≤V;omega,hv1⟩,h1,h2,h3⟩,Zk0 (ZeD hN (v:=V) (by omega) (by omega) h3),rfl⟩
 ·rw[decide_eq_false hE,cond_false]
  have hno1:∀ c∈Zr V p,c.1≠1:=fun c hc=>by
   have hcp:=ZaI.1 hc
   obtain⟨j,hj,hjc⟩:=ZbR (d:=Za) hcp.1
   rcases hJ with ⟨_,h⟩ | h
   ·have:=h j hj
    rw[hjc] at this
    exact this hcp.2
   ·omega
  refine⟨fun h=>⟨h,trivial⟩,fun h=>⟨h,trivial⟩,fun h=>⟨h,trivial⟩,fun h=>⟨h,trivial⟩,fun h=>⟨h,trivial⟩,fun h=>⟨h,fun h2=>by rw[h,h2];rfl⟩,fun h=>h,?_⟩
  have hnil:∀ l:List Zc,(((l.length:Nat):Int) == 0)=l.isEmpty:=fun l=>by cases l<;>simp;omega
  simp only[hnil]
  have hlowlen:(ZbQ V p).length≤400:=Nat.le_trans (List.length_filter_le _ _) h400
  have huplen:(upP V p).length≤400:=Nat.le_trans (List.length_filter_le _ _) h400
  by_cases hA:Zf5 V p=[]∧(ZbQ V p=[]∨upP V p=[])
  ·have hc:((Zf5 V p).isEmpty&&((ZbQ V p).isEmpty||(upP V p).isEmpty))=true:=by
    rcases hA with ⟨h1,h2 | h2⟩<;>simp[h1,h2]
   rw[hc,cond_true]
   have hS:ZcQ p N V=some [ZbJ V p]:=by unfold ZcQ;rw[if_neg hE,if_pos hA]
   rw[hsh,hS]
   exact⟨Zk0 (n:=N - 1) ⟨by have:=Zcl (v:=V) (p:=p);omega,ZeW hN (v:=V) (by omega)⟩,rfl⟩
  ·have hc:((Zf5 V p).isEmpty&&((ZbQ V p).isEmpty||(upP V p).isEmpty))=false:=by
    cases hh:((Zf5 V p).isEmpty&&((ZbQ V p).isEmpty||(upP V p).isEmpty)) with
    | false=>rfl
    | true =>
      simp only[Bool.and_eq_true,Bool.or_eq_true,List.isEmpty_iff] at hh
      exact absurd hh hA
   rw[hc,cond_false]
   refine Lp.iter (ZbQ V p).length (fun i z=>z=((i:Int),(Zf5 V p).isEmpty&&((ZbQ V p).take i).all fun x=>(upP V p).all fun y=>decide (Zd V x=1∨Zd V y=-1))) (by simp) ?_
   rintro i z hi rfl R1 hR1
   by_cases e:i < (ZbQ V p).length
   ·have e':(i:Int) < ((ZbQ V p).length:Int):=by omega
    have hm:=Zj (d:=Za) e
    have hR1':=hR1 e _ rfl
    rw[ZbU (d:=Za) e,List.all_append] at hR1'
    simp only[decide_eq_true e',Int.toNat_natCast,cond_true]
    obtain⟨x,hx⟩:∃ x,(ZbQ V p).getD i Za=x:=⟨_,rfl⟩
    simp only[hx] at hm hR1' ⊢
    have hxn:=hN.c (List.mem_filter.1 hm).1
    have hxl:(V:Int) < (x.2.2.1.length:Int):=by have:=hxn.2;omega
    refine⟨⟨by omega,e'⟩,e,?_⟩
    have hcoefx:x.2.2.1.getD V 0=Zd V x:=rfl
    simp only[hcoefx]
    obtain⟨b0,hb0⟩:∃ b0,((Zf5 V p).isEmpty&&((ZbQ V p).take i).all fun x=>(upP V p).all fun y=>decide (Zd V x=1∨Zd V y=-1))=b0:=⟨_,rfl⟩
    rw[← Bool.and_assoc,hb0] at hR1'
    simp only[hb0]
    refine Lp.iter (upP V p).length (fun j z=>z=((j:Int),b0&&((upP V p).take j).all fun y=>decide (Zd V x=1∨Zd V y=-1))) (by simp) ?_
    rintro j z hj rfl R2 hR2
    by_cases ej:j < (upP V p).length
    ·have ej':(j:Int) < ((upP V p).length:Int):=by omega
     have hmy:=Zj (d:=Za) ej
     have hR2':=hR2 ej _ rfl
     rw[ZbU (d:=Za) ej,List.all_append] at hR2'
     simp only[decide_eq_true ej',Int.toNat_natCast,cond_true]
     obtain⟨y,hy⟩:∃ y,(upP V p).getD j Za=y:=⟨_,rfl⟩
     simp only[hy] at hmy hR2' ⊢
     have hyn:=hN.c (List.mem_filter.1 hmy).1
     have hyl:(V:Int) < (y.2.2.1.length:Int):=by have:=hyn.2;omega
     have hcoefy:y.2.2.1.getD V 0=Zd V y:=rfl
     simp only[hcoefy]
     obtain⟨b1,hb1⟩:∃ b1,(b0&&((upP V p).take j).all fun y=>decide (Zd V x=1∨Zd V y=-1))=b1:=⟨_,rfl⟩
     rw[← Bool.and_assoc,hb1] at hR2'
     simp only[hb1]
     refine⟨⟨by omega,ej'⟩,ej,fun h=>⟨h,trivial⟩,fun h=>⟨h,trivial⟩,fun h=>⟨h,h,by omega,hxl⟩,fun h=>⟨h,trivial⟩,fun h=>⟨h,trivial⟩,fun h=>⟨h,trivial⟩,fun h=>⟨h,trivial⟩,fun h=>⟨h,trivial⟩,fun h=>⟨h,h,by omega,hyl⟩,fun h=>⟨h,trivial⟩,fun h=>⟨h,trivial⟩,fun h=>⟨h,fun h2=>by rw[h,h2];rfl⟩,fun h=>h,⟨by omega,by omega⟩,?_⟩
     have hbb:(Zd V x == 1||Zd V y == -(1:Int))=([y].all fun y=>decide (Zd V x=1∨Zd V y=-1)):=by
      rw[List.all_cons,List.all_nil,Bool.and_true]
      by_cases k1:Zd V x=1<;>by_cases k2:Zd V y=-1<;>simp[k1,k2]
     rw[hbb]
     exact hR2'
    ·have:j=(upP V p).length:=by omega
     subst this
     simp only[Int.lt_irrefl,decide_false,cond_false,List.take_length]
     refine⟨⟨by omega,by omega⟩,?_⟩
     rw[List.all_cons,List.all_nil,Bool.and_true] at hR1'
     exact hR1'
   ·have:i=(ZbQ V p).length:=by omega
    subst this
    simp only[Int.lt_irrefl,decide_false,cond_false,List.take_length]
    have hex:((Zf5 V p).isEmpty&&(ZbQ V p).all fun x=>(upP V p).all fun y=>decide (Zd V x=1∨Zd V y=-1))=Zg3 V p:=rfl
    rw[hex]
    cases hX:Zg3 V p with
    | true =>
      rw[cond_true]
      have hS:ZcQ p N V=some [Zjm V p]:=by unfold ZcQ;rw[if_neg hE,if_neg hA,if_pos hX]
      rw[hsh,hS]
      refine Lp.flat (ZbQ V p) Za (ZbJ V p) (fun x=>(upP V p).map (ZlZ V x)) (by omega) (fun i R hi hi' hf hR=>?_) (fun R=>?_)
      ·have hm:=Zj (d:=Za) hi
       simp only[decide_eq_true hi',Int.toNat_natCast,cond_true]
       obtain⟨x,hx⟩:∃ x,(ZbQ V p).getD i Za=x:=⟨_,rfl⟩
       simp only[hx] at hm hR ⊢
       have hxn:=hN.c (List.mem_filter.1 hm).1
       have hxl:(V:Int) < (x.2.2.1.length:Int):=by have:=hxn.2;omega
       have hcoefx:x.2.2.1.getD V 0=Zd V x:=rfl
       have hrx:(ZcU x.2.2.1 V,x.2.2.2)=ZaC V x:=rfl
       simp only[hcoefx,hrx]
       refine⟨⟨by omega,hi'⟩,hi,?_⟩
       have hol:(ZbJ V p++((ZbQ V p).take i).flatMap fun x=>(upP V p).map (ZlZ V x)).length≤160400:=by
        have h1:=ZcA (g:=fun x=>(upP V p).map (ZlZ V x)) (k:=400) (l:=(ZbQ V p).take i) fun x _=>by rw[List.length_map];exact huplen
        have h2:((ZbQ V p).take i).length≤400:=by rw[List.length_take];omega
        have h3:=Nat.mul_le_mul h2 (Nat.le_refl 400)
        have h4:=Zcl (v:=V) (p:=p)
        rw[List.length_append];omega
       obtain⟨o,ho⟩:∃ o,ZbJ V p++((ZbQ V p).take i).flatMap (fun x=>(upP V p).map (ZlZ V x))=o:=⟨_,rfl⟩
       simp only[ho] at hol hR ⊢
       refine Lp.flt (upP V p) Za o (fun _=>true) (fun jy=>ZlZ V x jy.2) (by omega) (fun j t R2 hj hj' hfj htl h1 h2=>?_) (fun R2 hlen=>?_)
       ·have hmy:=Zj (d:=Za) hj
        simp only[decide_eq_true hj',Int.toNat_natCast,cond_true]
        obtain⟨y,hy⟩:∃ y,(upP V p).getD j Za=y:=⟨_,rfl⟩
        simp only[hy] at hmy h1 ⊢
        have hyn:=hN.c (List.mem_filter.1 hmy).1
        have hyl:(V:Int) < (y.2.2.1.length:Int):=by have:=hyn.2;omega
        have hcoefy:y.2.2.1.getD V 0=Zd V y:=rfl
        have hry:(ZcU y.2.2.1 V,y.2.2.2)=ZaC V y:=rfl
        simp only[hcoefy,hry]
        have hbx:=Zcv hxn.1 V
        have hby:=Zcv hyn.1 V
        have hxr:=Zcn hxn (v:=V) (by omega)
        have hyr:=Zcn hyn (v:=V) (by omega)
        refine⟨⟨by omega,hj'⟩,hj,⟨by omega,hxl⟩,⟨by show y.2.2.1.length≤1048576;omega,by show (0:Int)≤V;omega,hyl⟩,⟨by omega,hyl⟩,⟨by omega,by omega⟩,⟨by show x.2.2.1.length≤1048576;omega,by show (0:Int)≤V;omega,hxl⟩,⟨hbx,hyr.small (by omega) (by omega),by show -1048576≤-Zd V y∧-Zd V y≤1048576;omega,hxr.small (by omega) (by omega),by show (ZaC V y).1.length=(ZaC V x).1.length;rw[hxr.1,hyr.1]⟩,⟨by simp only[List.length_singleton];omega,by simp only[List.length_singleton];omega⟩,hfj,h1 trivial⟩
       ·simp only[Int.lt_irrefl,decide_false,cond_false]
        refine⟨hf,?_⟩
        have e:=ZdM Za (upP V p) (fun _=>true) (ZlZ V x)
        rw[e,List.filter_eq_self.2 (fun _ _=>rfl)]
        exact hR
      ·simp only[Int.lt_irrefl,decide_false,cond_false]
       exact⟨Zk0 (ZgT hN (v:=V) (by omega)),rfl⟩
    | false =>
      rw[cond_false]
      have hpn:Zr V p≠[]:=fun h=>by
       have hdiv:Zf5 V p=[]:=by
        apply List.eq_nil_iff_forall_not_mem.2
        intro c hc
        have hc':=List.mem_filter.1 hc
        have:c∈Zr V p:=ZaI.2 ⟨hc'.1,(by simpa using hc'.2:Zd V c≠0∧c.1=2).1⟩
        rw[h] at this;cases this
       have hlow:ZbQ V p=[]:=by
        apply List.eq_nil_iff_forall_not_mem.2
        intro c hc
        have hc':=List.mem_filter.1 hc
        have hcc:Zd V c≠0∧c.1≠1∧c.1≠2∧0 < Zd V c:=of_decide_eq_true hc'.2
        have:c∈Zr V p:=ZaI.2 ⟨hc'.1,hcc.1⟩
        rw[h] at this;cases this
       exact hA ⟨hdiv,.inl hlow⟩
      refine⟨⟨⟨(N:Int),hN,by show (0:Int)≤V;omega,hv1⟩,rfl,hpn,hno1⟩,?_⟩
      have hlen0:(p.getD 0 Za).2.2.1.length=N:=by
       have hp0:0 < p.length:=by
        rcases hp0:p with _ | ⟨c,q⟩
        ·rw[hp0] at hpn;exact absurd rfl hpn
        ·simp
       have:=(hN.c (Zj (d:=Za) hp0)).2
       omega
      have hres:ZvB p (ZbJ V p) V=if (Zbs V p).2≠0 then ([],3) else if (ZeS V p (Zbs V p).1).2≠0 then ([],3)
       else Zed (Zb1 V p ((p.getD 0 Za).2.2.1.length - 1) (Zbs V p).1 (ZeS V p (Zbs V p).1).1.toNat):=rfl
      have hS:ZcQ p N V=if (Zbs V p).2≠0 then none else if (ZeS V p (Zbs V p).1).2≠0 then none else some (Zb1 V p (N - 1) (Zbs V p).1 (ZeS V p (Zbs V p).1).1.toNat):=by
       unfold ZcQ;rw[if_neg hE,if_neg hA,if_neg (by rw[hX];simp)]
      rw[hres,hsh,hS,hlen0]
      split
      ·rfl
      ·split
       ·rfl
       ·rfl
end Go.Proofs.YtgpdnmfpgkkgcaaGreatDoor
