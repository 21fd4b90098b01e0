/- Part of a proof that a law of the program holds for every input: what the functions answer, in plain Lean. No conditions. -/
import Derived.Test.YtgpdnmfpgkkgcaaGreatDoorP11
namespace Go.Proofs.YtgpdnmfpgkkgcaaGreatDoor
open Go
set_option linter.unusedVariables false
set_option maxRecDepth 4000
def ZaL.wp(x0:Bool)(Q:Zc×Int→Prop):Prop:=cond x0 (Q (Za,(1:Int))) (Q (Za,(-(1:Int))))
def Z4.wp(x0:Lin)(x1:Int)(x2:Int)(Q:Lin→Prop):Prop:=(((0:Int)≤((List.length x0.1:Nat):Int)∧(((List.length x0.1:Nat):Int)≤((List.length x0.1:Nat):Int)∧((((List.length x0.1:Nat):Int)*((8:Nat):Int))≤(140737488355328:Int)∧((List.length x0.1:Nat):Int)≤(9223372036854775807:Int))))∧Lp (σ:=Int×List Int) (fun y4 R4=>let v2:=List.getD x0.1 (Int.toNat y4.1) (0:Int);cond (decide (y4.1 < ((List.length x0.1:Nat):Int))) (((0:Int)≤y4.1∧y4.1 < ((List.length x0.1:Nat):Int))∧((x1≠(0:Int)∧Zo IntKind.i64 (Int.tdiv v2 x1))∧(((0:Int)≤y4.1∧y4.1 < ((List.length y4.2:Nat):Int))∧(Int.toNat y4.1 < List.length y4.2∧(Zo IntKind.i64 (y4.1+(1:Int))∧R4 ((y4.1+(1:Int)),(List.set y4.2 (Int.toNat y4.1) (Int.tdiv v2 x1)))))))) (Q (y4.2,x2))) ((0:Int),(List.replicate (Int.toNat ((List.length x0.1:Nat):Int)) (0:Int))))
def ZO.wp(x0:Zc)(Q:Zc×Int→Prop):Prop:=let v0:=ZaY.fn (x0.2.2.1,());let v2:=Zal.fn (x0.2.2.2,(v0.1,()));let v5:=ZaL.fn (false,());let v7:=Int.tdiv x0.2.2.2 (-v0.1);let v9:=Z4.fn (x0.2.2,(v0.1,(Int.tdiv x0.2.2.2 v0.1,())));let v15:=List.length ([]:List Int);let v18:=ZaM.fn (x0.2.2.2,(x0.2.1,()));(ZaY.pre (x0.2.2.1,())∧cond (x0.1 == (0:Int)) (cond (v0.1 == (0:Int)) (Q (ZaL.fn (decide ((0:Int)≤x0.2.2.2),()))) (Zal.pre (x0.2.2.2,(v0.1,()))∧(Z4.pre (x0.2.2,(v0.1,(v2.1,())))∧Q (((0:Int),((0:Int),(Z4.fn (x0.2.2,(v0.1,(v2.1,())))))),(0:Int))))) (cond (x0.1 == (1:Int)) (cond (v0.1 == (0:Int)) (Q (ZaL.fn ((x0.2.2.2 == (0:Int)),()))) (v0.1≠(0:Int)∧cond (Int.tmod x0.2.2.2 v0.1 != (0:Int)) (Q v5) (Lp (σ:=Int) (fun y2 R2=>let v6:=List.getD x0.2.2.1 (Int.toNat y2) (0:Int);cond (decide (y2 < ((List.length x0.2.2.1:Nat):Int))) (((0:Int)≤y2∧y2 < ((List.length x0.2.2.1:Nat):Int))∧cond (v6 != (0:Int)) (cond (decide (v6 < (0:Int))) (Zo IntKind.i64 (-v0.1)∧(((-v0.1)≠(0:Int)∧Zo IntKind.i64 v7)∧(Z4.pre (x0.2.2,((-v0.1),(v7,())))∧Q (((1:Int),((0:Int),(Z4.fn (x0.2.2,((-v0.1),(v7,())))))),(0:Int))))) ((v0.1≠(0:Int)∧Zo IntKind.i64 (Int.tdiv x0.2.2.2 v0.1))∧(Z4.pre (x0.2.2,(v0.1,(Int.tdiv x0.2.2.2 v0.1,())))∧Q (((1:Int),((0:Int),v9)),(0:Int))))) (Zo IntKind.i64 (y2+(1:Int))∧R2 (y2+(1:Int)))) ((v0.1≠(0:Int)∧Zo IntKind.i64 (Int.tdiv x0.2.2.2 v0.1))∧(Z4.pre (x0.2.2,(v0.1,(Int.tdiv x0.2.2.2 v0.1,())))∧Q (((1:Int),((0:Int),v9)),(0:Int))))) (0:Int)))) (((0:Int)≤((List.length x0.2.2.1:Nat):Int)∧(((List.length x0.2.2.1:Nat):Int)≤((List.length x0.2.2.1:Nat):Int)∧((((List.length x0.2.2.1:Nat):Int)*((8:Nat):Int))≤(140737488355328:Int)∧((List.length x0.2.2.1:Nat):Int)≤(9223372036854775807:Int))))∧Lp (σ:=Int×List Int) (fun y2 R2=>let v12:=List.getD x0.2.2.1 (Int.toNat y2.1) (0:Int);let v16:=List.length (([]:List Int)++y2.2);let v17:=ZaY.fn (((([]:List Int)++y2.2)++[x0.2.1]),());cond (decide (y2.1 < ((List.length x0.2.2.1:Nat):Int))) (((0:Int)≤y2.1∧y2.1 < ((List.length x0.2.2.1:Nat):Int))∧(ZaM.pre (v12,(x0.2.1,()))∧(((0:Int)≤y2.1∧y2.1 < ((List.length y2.2:Nat):Int))∧(Int.toNat y2.1 < List.length y2.2∧(Zo IntKind.i64 (y2.1+(1:Int))∧R2 ((y2.1+(1:Int)),(List.set y2.2 (Int.toNat y2.1) (ZaM.fn (v12,(x0.2.1,()))).1))))))) (ZaM.pre (x0.2.2.2,(x0.2.1,()))∧((((v15+List.length y2.2)*8)≤140737488355328∧(v15+List.length y2.2)≤9223372036854775807)∧((((v16+List.length [x0.2.1])*8)≤140737488355328∧(v16+List.length [x0.2.1])≤9223372036854775807)∧(ZaY.pre (((([]:List Int)++y2.2)++[x0.2.1]),())∧(v17.1≠(0:Int)∧cond (Int.tmod v18.1 v17.1 != (0:Int)) (Q v5) (cond (x0.2.1 == v17.1) (Q (ZaL.fn (true,()))) ((v17.1≠(0:Int)∧Zo IntKind.i64 (Int.tdiv x0.2.1 v17.1))∧((v17.1≠(0:Int)∧Zo IntKind.i64 (Int.tdiv v18.1 v17.1))∧(Z4.pre ((y2.2,v18.1),(v17.1,(Int.tdiv v18.1 v17.1,())))∧Q (((2:Int),(Int.tdiv x0.2.1 v17.1,(Z4.fn ((y2.2,v18.1),(v17.1,(Int.tdiv v18.1 v17.1,())))))),(0:Int)))))))))))) ((0:Int),(List.replicate (Int.toNat ((List.length x0.2.2.1:Nat):Int)) (0:Int))))))
def ZP.wp(x0:Zc)(x1:Zc)(Q:Int→Prop):Prop:=Lp (σ:=Int×Bool×Bool) (fun y3 R3=>let v0:=List.getD x1.2.2.1 (Int.toNat y3.1) (0:Int);let v1:=List.getD x0.2.2.1 (Int.toNat y3.1) (0:Int);cond (decide (y3.1 < ((List.length x0.2.2.1:Nat):Int))) ((y3.2.2=true→(y3.2.2=true∧True))∧((y3.2.2=true→(y3.2.2=true∧True))∧((y3.2.2=true→(y3.2.2=true∧(y3.2.2=true∧((0:Int)≤y3.1∧y3.1 < ((List.length x0.2.2.1:Nat):Int)))))∧((y3.2.2=true→(y3.2.2=true∧True))∧((y3.2.2=true→(y3.2.2=true∧True))∧((y3.2.2=true→(y3.2.2=true∧True))∧((y3.2.2=true→(y3.2.2=true∧(y3.2.2=true∧((0:Int)≤y3.1∧y3.1 < ((List.length x1.2.2.1:Nat):Int)))))∧((y3.2.2=true→(y3.2.2=true∧True))∧((y3.2.2=true→(y3.2.2=true∧(y3.2.2=true∧True)))∧((y3.2.2=true→y3.2.2=true)∧((y3.2.1=true→(y3.2.1=true∧True))∧((y3.2.1=true→(y3.2.1=true∧True))∧((y3.2.1=true→(y3.2.1=true∧(y3.2.1=true∧((0:Int)≤y3.1∧y3.1 < ((List.length x0.2.2.1:Nat):Int)))))∧((y3.2.1=true→(y3.2.1=true∧True))∧((y3.2.1=true→(y3.2.1=true∧True))∧((y3.2.1=true→(y3.2.1=true∧True))∧((y3.2.1=true→(y3.2.1=true∧(y3.2.1=true∧((0:Int)≤y3.1∧y3.1 < ((List.length x1.2.2.1:Nat):Int)))))∧((y3.2.1=true→(y3.2.1=true∧True))∧((y3.2.1=true→(y3.2.1=true∧Zo IntKind.i64 (-v0)))∧((y3.2.1=true→(y3.2.1=true∧(y3.2.1=true∧True)))∧((y3.2.1=true→y3.2.1=true)∧(Zo IntKind.i64 (y3.1+(1:Int))∧R3 ((y3.1+(1:Int)),((y3.2.1&&(v1 == (-v0))),(y3.2.2&&(v1 == v0)))))))))))))))))))))))))) (cond y3.2.2 (Q (1:Int)) (cond y3.2.1 (Q (-(1:Int))) (Q (0:Int))))) ((0:Int),(true,true))
def Z7.wp(x0:List Int)(x1:List Int)(Q:Int→Prop):Prop:=Lp (σ:=Int) (fun y3 R3=>let v0:=List.getD x0 (Int.toNat y3) (0:Int);let v1:=List.getD x1 (Int.toNat y3) (0:Int);cond (decide (y3 < ((List.length x0:Nat):Int))) (((0:Int)≤y3∧y3 < ((List.length x0:Nat):Int))∧(((0:Int)≤y3∧y3 < ((List.length x1:Nat):Int))∧cond (decide (v0 < v1)) (Q (-(1:Int))) (((0:Int)≤y3∧y3 < ((List.length x0:Nat):Int))∧(((0:Int)≤y3∧y3 < ((List.length x1:Nat):Int))∧cond (decide (v1 < v0)) (Q (1:Int)) (Zo IntKind.i64 (y3+(1:Int))∧R3 (y3+(1:Int))))))) (Q (0:Int))) (0:Int)
def ZaV.wp(x0:Int)(Q:Int→Prop):Prop:=cond (x0 == (1:Int)) (Q (0:Int)) (cond (x0 == (0:Int)) (Q (1:Int)) (Q (2:Int)))
def Za3.wp(x0:Lin)(x1:Lin)(Q:Int→Prop):Prop:=let v0:=List.length ([]:List Int);let v1:=List.length (([]:List Int)++x0.1);let v2:=List.length (([]:List Int)++x1.1);((((v0+List.length x0.1)*8)≤140737488355328∧(v0+List.length x0.1)≤9223372036854775807)∧((((v1+List.length [x0.2])*8)≤140737488355328∧(v1+List.length [x0.2])≤9223372036854775807)∧((((v0+List.length x1.1)*8)≤140737488355328∧(v0+List.length x1.1)≤9223372036854775807)∧((((v2+List.length [x1.2])*8)≤140737488355328∧(v2+List.length [x1.2])≤9223372036854775807)∧(Z7.pre (((([]:List Int)++x0.1)++[x0.2]),(((([]:List Int)++x1.1)++[x1.2]),()))∧Q (Z7.fn (((([]:List Int)++x0.1)++[x0.2]),(((([]:List Int)++x1.1)++[x1.2]),()))))))))
def ZaW.wp(x0:Zc)(x1:Zc)(Q:Int→Prop):Prop:=let v0:=ZaV.fn (x0.1,());let v1:=ZaV.fn (x1.1,());let v2:=Z7.fn ([v0,x0.2.1],([v1,x1.2.1],()));(Z7.pre ([v0,x0.2.1],([v1,x1.2.1],()))∧cond (v2 != (0:Int)) (Q v2) (Za3.pre (x0.2.2,(x1.2.2,()))∧Q (Za3.fn (x0.2.2,(x1.2.2,())))))
def Z3.wp(x0:List Zc)(Q:(List Zc)→Prop):Prop:=let v4:=List.length ([]:List (Zc));Lp (σ:=Int×List (Zc)) (fun y2 R2=>let v1:=List.getD x0 (Int.toNat y2.1) Za;cond (decide (y2.1 < ((List.length x0:Nat):Int))) (((0:Int)≤y2.1∧y2.1 < ((List.length x0:Nat):Int))∧Lp (σ:=Int) (fun y4 R4=>let v0:=List.getD y2.2 (Int.toNat y4) Za;let v5:=List.take (Int.toNat y4) y2.2;let v6:=List.length (([]:List (Zc))++v5);let v7:=List.length ((([]:List (Zc))++v5)++[v1]);let v8:=List.drop (Int.toNat y4) y2.2;((decide (y4 < ((List.length y2.2:Nat):Int))=true→(decide (y4 < ((List.length y2.2:Nat):Int))=true∧(decide (y4 < ((List.length y2.2:Nat):Int))=true∧((0:Int)≤y4∧y4 < ((List.length y2.2:Nat):Int)))))∧((decide (y4 < ((List.length y2.2:Nat):Int))=true→(decide (y4 < ((List.length y2.2:Nat):Int))=true∧True))∧((decide (y4 < ((List.length y2.2:Nat):Int))=true→(decide (y4 < ((List.length y2.2:Nat):Int))=true∧(decide (y4 < ((List.length y2.2:Nat):Int))=true∧ZaW.pre (v0,(v1,())))))∧((decide (y4 < ((List.length y2.2:Nat):Int))=true→(decide (y4 < ((List.length y2.2:Nat):Int))=true∧True))∧((decide (y4 < ((List.length y2.2:Nat):Int))=true→decide (y4 < ((List.length y2.2:Nat):Int))=true)∧cond (decide (y4 < ((List.length y2.2:Nat):Int))&&decide ((ZaW.fn (v0,(v1,()))) < (0:Int))) (Zo IntKind.i64 (y4+(1:Int))∧R4 (y4+(1:Int))) ((decide (y4 < ((List.length y2.2:Nat):Int))=true→(decide (y4 < ((List.length y2.2:Nat):Int))=true∧(decide (y4 < ((List.length y2.2:Nat):Int))=true∧((0:Int)≤y4∧y4 < ((List.length y2.2:Nat):Int)))))∧((decide (y4 < ((List.length y2.2:Nat):Int))=true→(decide (y4 < ((List.length y2.2:Nat):Int))=true∧True))∧((decide (y4 < ((List.length y2.2:Nat):Int))=true→(decide (y4 < ((List.length y2.2:Nat):Int))=true∧(decide (y4 < ((List.length y2.2:Nat):Int))=true∧True)))∧((decide (y4 < ((List.length y2.2:Nat):Int))=true→decide (y4 < ((List.length y2.2:Nat):Int))=true)∧cond (decide (y4 < ((List.length y2.2:Nat):Int))&&(ZaQ.fn (v0,(v1,())))) (Zo IntKind.i64 (y2.1+(1:Int))∧R2 ((y2.1+(1:Int)),y2.2)) (((0:Int)≤y4∧y4≤((List.length y2.2:Nat):Int))∧((((v4+List.length v5)*48)≤140737488355328∧(v4+List.length v5)≤9223372036854775807)∧((((v6+List.length [v1])*48)≤140737488355328∧(v6+List.length [v1])≤9223372036854775807)∧(((0:Int)≤y4∧y4≤((List.length y2.2:Nat):Int))∧((((v7+List.length v8)*48)≤140737488355328∧(v7+List.length v8)≤9223372036854775807)∧(Zo IntKind.i64 (y2.1+(1:Int))∧R2 ((y2.1+(1:Int)),(((([]:List (Zc))++v5)++[v1])++v8)))))))))))))))))) (0:Int)) (Q y2.2)) ((0:Int),([]:List (Zc)))
def Zak.wp(x0:List Zc)(Q:(List Zc)×Bool×Int→Prop):Prop:=Lp (σ:=Int×Bool×(List (Zc))×(List (Zc))×List (Zc)) (fun y2 R2=>let v0:=List.getD x0 (Int.toNat y2.1) Za;let v1:=[(((ZO.fn (v0,())).1).1,((((ZO.fn (v0,())).1).2).1,((((ZO.fn (v0,())).1).2).2)))];let v2:=Zay.fn ((((ZO.fn (v0,())).1).1,((((ZO.fn (v0,())).1).2).1,((((ZO.fn (v0,())).1).2).2))),());cond (decide (y2.1 < ((List.length x0:Nat):Int))) (((0:Int)≤y2.1∧y2.1 < ((List.length x0:Nat):Int))∧(ZO.pre (v0,())∧cond ((ZO.fn (v0,())).2 == (-(1:Int))) (Q (([]:List (Zc)),(true,(0:Int)))) (cond ((ZO.fn (v0,())).2 == (1:Int)) (Zo IntKind.i64 (y2.1+(1:Int))∧R2 ((y2.1+(1:Int)),y2.2)) (((!y2.2.1)=true→((!y2.2.1)=true∧True))∧(((!y2.2.1)=true→((!y2.2.1)=true∧True))∧((y2.2.1=false→(!y2.2.1)=true)∧cond (((ZO.fn (v0,())).1).1 == (0:Int)) ((((List.length y2.2.2.1+List.length v1)*48)≤140737488355328∧(List.length y2.2.2.1+List.length v1)≤9223372036854775807)∧(Zo IntKind.i64 (y2.1+(1:Int))∧R2 ((y2.1+(1:Int)),((y2.2.1||(!v2)),((y2.2.2.1++v1),y2.2.2.2))))) (cond (((ZO.fn (v0,())).1).1 == (1:Int)) ((((List.length y2.2.2.2.1+List.length v1)*48)≤140737488355328∧(List.length y2.2.2.2.1+List.length v1)≤9223372036854775807)∧(Zo IntKind.i64 (y2.1+(1:Int))∧R2 ((y2.1+(1:Int)),((y2.2.1||(!v2)),(y2.2.2.1,((y2.2.2.2.1++v1),y2.2.2.2.2)))))) ((((List.length y2.2.2.2.2+List.length v1)*48)≤140737488355328∧(List.length y2.2.2.2.2+List.length v1)≤9223372036854775807)∧(Zo IntKind.i64 (y2.1+(1:Int))∧R2 ((y2.1+(1:Int)),((y2.2.1||(!v2)),(y2.2.2.1,(y2.2.2.2.1,(y2.2.2.2.2++v1)))))))))))))) (Lp (σ:=Int×List (Zc)) (fun y4 R4=>let v4:=List.getD y2.2.2.1 (Int.toNat y4.1) Za;cond (decide (y4.1 < ((List.length y2.2.2.1:Nat):Int))) (((0:Int)≤y4.1∧y4.1 < ((List.length y2.2.2.1:Nat):Int))∧(Int.toNat y4.1 < List.length y2.2.2.1∧Lp (σ:=Int×Bool×List (Zc)) (fun y6 R6=>let v3:=List.getD y6.2.2 (Int.toNat y6.1) Za;cond (decide (y6.1 < ((List.length y4.2:Nat):Int))) (((0:Int)≤y6.1∧y6.1 < ((List.length y6.2.2:Nat):Int))∧(Int.toNat y6.1 < List.length y6.2.2∧(ZP.pre (v3,(v4,()))∧cond ((ZP.fn (v3,(v4,()))) == (1:Int)) (((0:Int)≤y6.1∧y6.1 < ((List.length y6.2.2:Nat):Int))∧(Int.toNat y6.1 < List.length y6.2.2∧(((0:Int)≤y6.1∧y6.1 < ((List.length y6.2.2:Nat):Int))∧(Int.toNat y6.1 < List.length y6.2.2∧(Zo IntKind.i64 (y6.1+(1:Int))∧R6 ((y6.1+(1:Int)),(true,(List.set y6.2.2 (Int.toNat y6.1) (v3.1,(v3.2.1,(v3.2.2.1,(Min.min v3.2.2.2 v4.2.2.2)))))))))))) (Zo IntKind.i64 (y6.1+(1:Int))∧R6 ((y6.1+(1:Int)),y6.2))))) (cond (!y6.2.1) ((((List.length y6.2.2+List.length [v4])*48)≤140737488355328∧(List.length y6.2.2+List.length [v4])≤9223372036854775807)∧(Zo IntKind.i64 (y4.1+(1:Int))∧R4 ((y4.1+(1:Int)),(y6.2.2++[v4])))) (Zo IntKind.i64 (y4.1+(1:Int))∧R4 ((y4.1+(1:Int)),y6.2.2)))) ((0:Int),(false,y4.2)))) (((0:Int)≤((List.length y4.2:Nat):Int)∧(((List.length y4.2:Nat):Int)≤((List.length y4.2:Nat):Int)∧((((List.length y4.2:Nat):Int)*((1:Nat):Int))≤(140737488355328:Int)∧((List.length y4.2:Nat):Int)≤(9223372036854775807:Int))))∧Lp (σ:=Int×(List (Zc))×List Bool) (fun y6 R6=>let v10:=List.getD y4.2 (Int.toNat y6.1) Za;let v14:=ZO.fn (((1:Int),((0:Int),v10.2.2)),());cond (decide (y6.1 < ((List.length y4.2:Nat):Int))) (((0:Int)≤y6.1∧y6.1 < ((List.length y4.2:Nat):Int))∧(Int.toNat y6.1 < List.length y4.2∧(Zo IntKind.i64 (y6.1+(1:Int))∧Lp (σ:=Int×(List (Zc))×List Bool) (fun y8 R8=>let v11:=List.getD y4.2 (Int.toNat y8.1) Za;let v13:=List.set y8.2.2 (Int.toNat y6.1) true;cond (decide (y8.1 < ((List.length y4.2:Nat):Int))) (((0:Int)≤y8.1∧y8.1 < ((List.length y4.2:Nat):Int))∧(Int.toNat y8.1 < List.length y4.2∧(ZP.pre (v10,(v11,()))∧cond ((ZP.fn (v10,(v11,()))) != (-(1:Int))) (Zo IntKind.i64 (y8.1+(1:Int))∧R8 ((y8.1+(1:Int)),y8.2)) (Zo IntKind.i64 (v10.2.2.2+v11.2.2.2)∧cond (decide ((v10.2.2.2+v11.2.2.2) < (0:Int))) (Q (([]:List (Zc)),(true,(0:Int)))) (Zo IntKind.i64 (v10.2.2.2+v11.2.2.2)∧cond ((v10.2.2.2+v11.2.2.2) == (0:Int)) (((0:Int)≤y6.1∧y6.1 < ((List.length y8.2.2:Nat):Int))∧(Int.toNat y6.1 < List.length y8.2.2∧(((0:Int)≤y8.1∧y8.1 < ((List.length v13:Nat):Int))∧(Int.toNat y8.1 < List.length v13∧(ZO.pre (((1:Int),((0:Int),v10.2.2)),())∧((((List.length y8.2.1+List.length [v14.1])*48)≤140737488355328∧(List.length y8.2.1+List.length [v14.1])≤9223372036854775807)∧(Zo IntKind.i64 (y8.1+(1:Int))∧R8 ((y8.1+(1:Int)),((y8.2.1++[v14.1]),(List.set v13 (Int.toNat y8.1) true)))))))))) (Zo IntKind.i64 (y8.1+(1:Int))∧R8 ((y8.1+(1:Int)),y8.2))))))) (Zo IntKind.i64 (y6.1+(1:Int))∧R6 ((y6.1+(1:Int)),y8.2))) ((y6.1+(1:Int)),y6.2)))) (Lp (σ:=Int×List Bool) (fun y8 R8=>let v16:=List.getD y6.2.1 (Int.toNat y8.1) Za;cond (decide (y8.1 < ((List.length y6.2.1:Nat):Int))) (((0:Int)≤y8.1∧y8.1 < ((List.length y6.2.1:Nat):Int))∧(Int.toNat y8.1 < List.length y6.2.1∧(((0:Int)≤y8.1∧y8.1≤((List.length y6.2.1:Nat):Int))∧Lp (σ:=Int) (fun y10 R10=>let v17:=List.getD y6.2.1 (0+Int.toNat y10) Za;let v18:=ZP.fn (v16,(v17,()));cond (decide (y10 < ((Int.toNat y8.1:Nat):Int))) (((0:Int)≤y10∧(y10 < ((Int.toNat y8.1:Nat):Int)∧(0+Int.toNat y8.1)≤List.length y6.2.1))∧((0+Int.toNat y10) < List.length y6.2.1∧(ZP.pre (v16,(v17,()))∧(((v18 == (1:Int))=true→((v18 == (1:Int))=true∧True))∧(((v18 == (1:Int))=true→((v18 == (1:Int))=true∧True))∧(((v18 == (1:Int))=true→((v18 == (1:Int))=true∧True))∧(((v18 == (1:Int))=true→((v18 == (1:Int))=true∧True))∧(((v18 == (1:Int))=true→((v18 == (1:Int))=true∧((v18 == (1:Int))=true∧True)))∧(((v18 == (1:Int))=true→(v18 == (1:Int))=true)∧cond ((v18 == (1:Int))&&(v16.2.2.2 != v17.2.2.2)) (Q (([]:List (Zc)),(true,(0:Int)))) (Zo IntKind.i64 (y10+(1:Int))∧R10 (y10+(1:Int)))))))))))) (Lp (σ:=Int×List Bool) (fun y12 R12=>let v19:=List.getD y12.2 (Int.toNat y12.1) false;let v20:=List.getD y4.2 (Int.toNat y12.1) Za;let v21:=ZP.fn (v16,(v20,()));cond (decide (y12.1 < ((List.length y4.2:Nat):Int))) (((0:Int)≤y12.1∧y12.1 < ((List.length y4.2:Nat):Int))∧(Int.toNat y12.1 < List.length y4.2∧(((0:Int)≤y12.1∧y12.1 < ((List.length y12.2:Nat):Int))∧(Int.toNat y12.1 < List.length y12.2∧(((!v19)=true→((!v19)=true∧((!v19)=true∧ZP.pre (v16,(v20,())))))∧(((!v19)=true→((!v19)=true∧True))∧((v19=false→(!v19)=true)∧cond (v19||(v21 == (0:Int))) (Zo IntKind.i64 (y12.1+(1:Int))∧R12 ((y12.1+(1:Int)),y12.2)) (ZP.pre (v16,(v20,()))∧(Zo IntKind.i64 (v21*v16.2.2.2)∧(Zo IntKind.i64 (v20.2.2.2 - (v21*v16.2.2.2))∧cond (decide ((v20.2.2.2 - (v21*v16.2.2.2)) < (0:Int))) (Q (([]:List (Zc)),(true,(0:Int)))) (((0:Int)≤y12.1∧y12.1 < ((List.length y12.2:Nat):Int))∧(Int.toNat y12.1 < List.length y12.2∧(Zo IntKind.i64 (y12.1+(1:Int))∧R12 ((y12.1+(1:Int)),(List.set y12.2 (Int.toNat y12.1) true))))))))))))))) (Zo IntKind.i64 (y8.1+(1:Int))∧R8 ((y8.1+(1:Int)),y12.2))) ((0:Int),y8.2))) (0:Int)))) (Lp (σ:=Int×List (Zc)) (fun y10 R10=>let v24:=List.getD y4.2 (Int.toNat y10.1) Za;let v25:=Z3.fn ((y10.2++y2.2.2.2.2),());cond (decide (y10.1 < ((List.length y4.2:Nat):Int))) (((0:Int)≤y10.1∧y10.1 < ((List.length y4.2:Nat):Int))∧(Int.toNat y10.1 < List.length y4.2∧(((0:Int)≤y10.1∧y10.1 < ((List.length y8.2:Nat):Int))∧(Int.toNat y10.1 < List.length y8.2∧cond (!(List.getD y8.2 (Int.toNat y10.1) false)) ((((List.length y10.2+List.length [v24])*48)≤140737488355328∧(List.length y10.2+List.length [v24])≤9223372036854775807)∧(Zo IntKind.i64 (y10.1+(1:Int))∧R10 ((y10.1+(1:Int)),(y10.2++[v24])))) (Zo IntKind.i64 (y10.1+(1:Int))∧R10 ((y10.1+(1:Int)),y10.2)))))) ((((List.length y10.2+List.length y2.2.2.2.2)*48)≤140737488355328∧(List.length y10.2+List.length y2.2.2.2.2)≤9223372036854775807)∧(Z3.pre ((y10.2++y2.2.2.2.2),())∧(((!y2.2.1)=true→((!y2.2.1)=true∧True))∧(((!y2.2.1)=true→((!y2.2.1)=true∧True))∧((y2.2.1=false→(!y2.2.1)=true)∧cond (y2.2.1||decide ((96:Int) < ((List.length v25:Nat):Int))) (Q (([]:List (Zc)),(false,(3:Int)))) (Q (v25,(false,(0:Int)))))))))) ((0:Int),y6.2.1))) ((0:Int),y6.2.2))) ((0:Int),(y2.2.2.2.1,(List.replicate (Int.toNat ((List.length y4.2:Nat):Int)) false))))) ((0:Int),([]:List (Zc))))) ((0:Int),(false,(([]:List (Zc)),(([]:List (Zc)),([]:List (Zc))))))
def ZaP.wp(x0:List (List Zc))(x1:List Zc)(Q:Bool→Prop):Prop:=Lp (σ:=Int) (fun y3 R3=>cond (decide (y3 < ((List.length x0:Nat):Int))) (((0:Int)≤y3∧y3 < ((List.length x0:Nat):Int))∧cond (ZM.fn ((List.getD x0 (Int.toNat y3) ([]:List (Zc))),(x1,()))) (Q true) (Zo IntKind.i64 (y3+(1:Int))∧R3 (y3+(1:Int)))) (Q false)) (0:Int)
def ZN.wp(x0:List (List Zc))(Q:(List (List Zc))×Int→Prop):Prop:=Lp (σ:=Int×List (List (Zc))) (fun y2 R2=>let v0:=List.getD x0 (Int.toNat y2.1) ([]:List (Zc));let v1:=Zak.fn (v0,());cond (decide (y2.1 < ((List.length x0:Nat):Int))) (((0:Int)≤y2.1∧y2.1 < ((List.length x0:Nat):Int))∧(Zak.pre (v0,())∧cond (v1.2.2 != (0:Int)) (Q (([]:List (List (Zc))),v1.2.2)) (((!v1.2.1)=true→((!v1.2.1)=true∧((!v1.2.1)=true∧True)))∧(((!v1.2.1)=true→((!v1.2.1)=true∧True))∧(((!v1.2.1)=true→(!v1.2.1)=true)∧cond ((!v1.2.1)&&(!(ZaP.fn (y2.2,(v1.1,()))))) ((((List.length y2.2+List.length [v1.1])*24)≤140737488355328∧(List.length y2.2+List.length [v1.1])≤9223372036854775807)∧(Zo IntKind.i64 (y2.1+(1:Int))∧R2 ((y2.1+(1:Int)),(y2.2++[v1.1])))) (Zo IntKind.i64 (y2.1+(1:Int))∧R2 ((y2.1+(1:Int)),y2.2))))))) (Q (y2.2,(0:Int)))) ((0:Int),([]:List (List (Zc))))
def Zaq.wp(x0:Int)(x1:List (List Zc))(Q:(Int×(List (List Zc)))×Int→Prop):Prop:=let v0:=ZN.fn (x1,());(ZN.pre (x1,())∧(((!(v0.2 != (0:Int)))=true→((!(v0.2 != (0:Int)))=true∧True))∧(((!(v0.2 != (0:Int)))=true→((!(v0.2 != (0:Int)))=true∧True))∧(((v0.2 != (0:Int))=false→(!(v0.2 != (0:Int)))=true)∧cond ((v0.2 != (0:Int))||decide ((400:Int) < ((List.length v0.1:Nat):Int))) (Q (((0:Int),([]:List (List (Zc)))),(3:Int))) (Q ((x0,v0.1),(0:Int)))))))
def Zax.wp(x0:Int×(List (List Zc)))(Q:(Int×(List (List Zc)))×Int→Prop):Prop:=cond (!(ZZ.fn (x0,()))) (Q (((0:Int),([]:List (List (Zc)))),(1:Int))) (Zaq.pre (x0.1,(x0.2,()))∧Q (Zaq.fn (x0.1,(x0.2,()))))
def ZB.wp(x0:Int)(x1:Lin)(x2:Int)(x3:Lin)(Q:Lin→Prop):Prop:=(((0:Int)≤((List.length x1.1:Nat):Int)∧(((List.length x1.1:Nat):Int)≤((List.length x1.1:Nat):Int)∧((((List.length x1.1:Nat):Int)*((8:Nat):Int))≤(140737488355328:Int)∧((List.length x1.1:Nat):Int)≤(9223372036854775807:Int))))∧(Zo IntKind.i64 (x0*x1.2)∧(Zo IntKind.i64 (x2*x3.2)∧(Zo IntKind.i64 ((x0*x1.2)+(x2*x3.2))∧Lp (σ:=Int×List Int) (fun y5 R5=>let v2:=List.getD x1.1 (Int.toNat y5.1) (0:Int);let v3:=List.getD x3.1 (Int.toNat y5.1) (0:Int);cond (decide (y5.1 < ((List.length x1.1:Nat):Int))) (((0:Int)≤y5.1∧y5.1 < ((List.length x1.1:Nat):Int))∧(Zo IntKind.i64 (x0*v2)∧(((0:Int)≤y5.1∧y5.1 < ((List.length x3.1:Nat):Int))∧(Zo IntKind.i64 (x2*v3)∧(Zo IntKind.i64 ((x0*v2)+(x2*v3))∧(((0:Int)≤y5.1∧y5.1 < ((List.length y5.2:Nat):Int))∧(Int.toNat y5.1 < List.length y5.2∧(Zo IntKind.i64 (y5.1+(1:Int))∧R5 ((y5.1+(1:Int)),(List.set y5.2 (Int.toNat y5.1) ((x0*v2)+(x2*v3)))))))))))) (Q (y5.2,((x0*x1.2)+(x2*x3.2))))) ((0:Int),(List.replicate (Int.toNat ((List.length x1.1:Nat):Int)) (0:Int)))))))
def ZU.wp(x0:Int)(x1:Int)(x2:List (Int×(List (List Zc))))(Q:Bool→Prop):Prop:=Lp (σ:=Int×Int) (fun y4 R4=>let v0:=List.getD x2 (Int.toNat y4.1) ((0:Int),([]:List (List (Zc))));cond (decide (y4.1 < ((List.length x2:Nat):Int))) (((0:Int)≤y4.1∧y4.1 < ((List.length x2:Nat):Int))∧Lp (σ:=Int) (fun y6 R6=>cond (decide (y6 < ((List.length v0.2:Nat):Int))) (((0:Int)≤y6∧y6 < ((List.length v0.2:Nat):Int))∧cond (decide (x1 < ((List.length (List.getD v0.2 (Int.toNat y6) ([]:List (Zc))):Nat):Int))) (Q false) (R6 (IntKind.wrap IntKind.i64 (y6+(1:Int))))) (R4 ((IntKind.wrap IntKind.i64 (y4.1+(1:Int))),(IntKind.wrap IntKind.i64 (y4.2+((List.length v0.2:Nat):Int)))))) (0:Int)) (Q (decide (y4.2≤x0)))) ((0:Int),(0:Int))
theorem ZaL.spec(b:Bool):ZaL.wp b (fun r=>r=ZaL.fn (b,())):=by cases b<;>rfl
theorem Z4.spec(l:Lin)(g k:Int)(hp:Z4.pre (l,g,k,())):Z4.wp l g k (fun r=>r=Z4.fn (l,g,k,())):=by
 obtain⟨h1,h2,h3⟩:=hp
 simp only at h1 h2 h3
 simp only[Z4.wp,Int.toNat_natCast]
 refine⟨⟨by omega,by omega,by omega,by omega⟩,?_⟩
 refine Lp.fill l.1 0 0 (·.tdiv g) (by omega) (fun i out R hi hi' hf ho hR=>?_) (fun R=>?_)
 ·simp only[decide_eq_true hi',Int.toNat_natCast]
  have hn:=h3 _ (Zj (d:=0) hi)
  exact⟨⟨by omega,hi'⟩,⟨h1,ZcH hn.1 hn.2⟩,⟨by omega,by omega⟩,by omega,hf,hR⟩
 ·simp only[Int.lt_irrefl,decide_false,cond_false]
  rfl
theorem ZaV.spec(k:Int):ZaV.wp k (fun r=>r=ZaV.fn (k,())):=by
 simp only[ZaV.wp,ZaV.fn,Zce]
 by_cases h:k=0
 ·subst h;rfl
 ·by_cases h2:k=1
  ·subst h2;rfl
  ·simp[h,h2]
theorem ZnI(l:List Int):∀ g:Nat,l.foldl (fun g n=>Nat.gcd g n.natAbs) g=Nat.gcd g (Za1 l):=by
 induction l with
 | nil=>intro g;simp[Za1]
 | cons m l ih =>
   intro g
   simp only[List.foldl_cons,Za1]
   rw[ih,ih (Nat.gcd 0 m.natAbs),Nat.gcd_zero_left,Nat.gcd_assoc]
theorem Zgs(m:Int)(l:List Int):Za1 (m::l)=Nat.gcd m.natAbs (Za1 l):=by
 simp only[Za1,List.foldl_cons]
 rw[ZnI,Nat.gcd_zero_left];rfl
theorem Zp7(m:Int)(l:List Int):Za1 (l++[m])=Nat.gcd (Za1 l) m.natAbs:=by
 simp only[Za1,List.foldl_append,List.foldl_cons,List.foldl_nil]
theorem Zro(m:Int)(l:List Int):Za1 (l++[m])=Za1 (m::l):=by rw[Zgs,Zp7,Nat.gcd_comm]
theorem ZO.spec(c:Zc)(hp:ZO.pre (c,())):ZO.wp c (fun r=>r=ZO.fn (c,())):=by
 obtain⟨hk,hb⟩:condB c:=hp
 obtain⟨h1,h2,h3⟩:=id hb
 unfold Zfb at h3
 have hgl:Za1 c.2.2.1≤9223372036854775807:=Zk1 hb.ints
 have hfn:ZO.fn (c,())=ZbD c:=rfl
 simp only[ZO.wp,ZaY.fn,Zbe.fn,ZaL.fn,hfn]
 refine⟨hb.ints,?_⟩
 have hov:∀ g k:Int,g≠0→Z4.pre (c.2.2,g,k,()):=fun g k hg=>⟨hg,h1,hb.ints⟩
 have hkf:∀ g:Int,Zo .i64 (c.2.2.2.tdiv g):=fun g=>ZcH (by omega) (by omega)
 rcases hk with hk | hk | ⟨hk,hm1,hm2⟩
 ·have hr:ZbD c=geF c:=by simp[ZbD,hk]
  simp only[hk,beq_self_eq_true,cond_true,hr]
  unfold geF
  by_cases hg:Za1 c.2.2.1=0
  ·rw[if_pos hg,hg];rfl
  ·rw[beq_eq_false_iff_ne.2 (show ((Za1 c.2.2.1:Nat):Int)≠0 by omega),if_neg hg]
   have hf:Zal.fn (c.2.2.2,((Za1 c.2.2.1:Nat):Int),())=(c.2.2.2 / ((Za1 c.2.2.1:Nat):Int),0):=by
    simp only[Zal.fn,Zas.fn]
    rw[if_neg (show ¬ ((Za1 c.2.2.1:Nat):Int) < 1 by omega)]
   rw[hf]
   exact⟨⟨by show -9223372036854775807≤c.2.2.2;omega,by show c.2.2.2≤9223372036854775807;omega⟩,hov _ _ (by omega),rfl⟩
 ·have hr:ZbD c=eqF c:=by simp[ZbD,hk]
  simp only[hk,show ((1:Int) == 0)=false from rfl,beq_self_eq_true,cond_true,cond_false,hr]
  unfold eqF
  by_cases hz:Za1 c.2.2.1=0
  ·rw[if_pos (.inl hz),hz]
   simp
  ·have hzi:((Za1 c.2.2.1:Nat):Int)≠0:=by omega
   rw[beq_eq_false_iff_ne.2 hzi]
   refine⟨hzi,?_⟩
   by_cases hm:c.2.2.2.tmod (Za1 c.2.2.1)≠0
   ·rw[bne_iff_ne.2 hm,if_pos (.inr hm)]
    simp[hz]
   ·have hm':c.2.2.2.tmod (Za1 c.2.2.1)=0:=by simpa using hm
    rw[hm',bne_self_eq_false,cond_false,if_neg (by simp[hz])]
    refine Lp.iter c.2.2.1.length (fun i y=>y=(i:Int)∧∀ j,j < i→c.2.2.1.getD j 0=0) ⟨rfl,fun j hj=>absurd hj (by omega)⟩ ?_
    rintro i y hle ⟨rfl,hi⟩ R hR
    by_cases e:i < c.2.2.1.length
    ·rw[decide_eq_true (show (i:Int) < (c.2.2.1.length:Int) by omega)]
     refine⟨⟨by omega,by omega⟩,?_⟩
     simp only[Int.toNat_natCast]
     by_cases hn:c.2.2.1.getD i 0=0
     ·simp only[hn,bne_self_eq_false,cond_false]
      refine⟨⟨by omega,by omega⟩,hR e _ ⟨by omega,fun j hj=>?_⟩⟩
      by_cases ej:j=i
      ·subst ej;exact hn
      ·exact hi j (by omega)
     ·simp only[bne_iff_ne.2 hn,cond_true]
      have hfn:ZaT c.2.2.1=decide (c.2.2.1.getD i 0 < 0):=by
       rw[ZcW hi,List.drop_eq_getElem_cons e]
       rw[ZD e] at hn
       simp only[ZaT,if_neg hn,ZD e]
      by_cases hneg:c.2.2.1.getD i 0 < 0
      ·rw[decide_eq_true hneg] at hfn
       simp only[decide_eq_true hneg,cond_true]
       have hs:Zbg c=-((Za1 c.2.2.1:Nat):Int):=by simp[Zbg,hfn]
       rw[hs]
       exact⟨⟨by omega,by omega⟩,⟨by omega,hkf _⟩,hov _ _ (by omega),rfl⟩
      ·rw[decide_eq_false hneg] at hfn
       simp only[decide_eq_false hneg,cond_false]
       have hs:Zbg c=((Za1 c.2.2.1:Nat):Int):=by simp[Zbg,hfn]
       rw[hs]
       exact⟨⟨hzi,hkf _⟩,hov _ _ hzi,rfl⟩
    ·have:i=c.2.2.1.length:=by omega
     subst this
     simp only[Int.lt_irrefl,decide_false,cond_false]
     have hfn:ZaT c.2.2.1=false:=by
      rw[ZcW hi,List.drop_length];rfl
     have hs:Zbg c=((Za1 c.2.2.1:Nat):Int):=by simp[Zbg,hfn]
     rw[hs]
     exact⟨⟨hzi,hkf _⟩,hov _ _ hzi,rfl⟩
 ·have hr:ZbD c=ZkX c:=by simp[ZbD,hk]
  simp only[hk,show ((2:Int) == 0)=false from rfl,show ((2:Int) == 1)=false from rfl,cond_false,hr,Int.toNat_natCast]
  refine⟨⟨by omega,by omega,by omega,by omega⟩,?_⟩
  have hmod:∀ n,ZaM.fn (n,c.2.1,())=(n % c.2.1,0):=fun n=>by
   simp only[ZaM.fn,Zba.fn];rw[if_neg (by omega)]
  have hmp:∀ n,ZaM.pre (n,c.2.1,()):=fun n=>by show c.2.1≤9223372036854775807;omega
  have hr:∀ n:Int,0≤n % c.2.1∧n % c.2.1 < c.2.1:=fun n=>⟨Int.emod_nonneg _ (by omega),Int.emod_lt_of_pos _ (by omega)⟩
  simp only[hmod]
  refine Lp.fill c.2.2.1 0 0 (· % c.2.1) (by omega) (fun i out R hi hi' hf ho hR=>?_) (fun R=>?_)
  ·simp only[decide_eq_true hi',Int.toNat_natCast]
   exact⟨⟨by omega,hi'⟩,hmp _,⟨by omega,by omega⟩,by omega,hf,hR⟩
  ·simp only[Int.lt_irrefl,decide_false,cond_false,List.nil_append,Zro]
   have hdg:Zb8 c=Za1 (c.2.1::c.2.2.1.map (· % c.2.1)):=rfl
   have hpos:=Zf6 hm1 (c.2.2.1.map (· % c.2.1))
   have hle:=ZeJ hm1 (c.2.2.1.map (· % c.2.1))
   rw[← hdg] at hpos hle ⊢
   have hq:=hr c.2.2.2
   refine⟨hmp _,⟨by simp;omega,by simp;omega⟩,⟨by simp;omega,by simp;omega⟩,fun n hn=>?_,by omega,?_⟩
   ·rcases List.mem_append.1 hn with hn | hn
    ·obtain⟨a,_,rfl⟩:=List.mem_map.1 hn
     have:=hr a;omega
    ·simp only[List.mem_singleton] at hn;omega
   ·unfold ZkX
    by_cases ht:(c.2.2.2 % c.2.1).tmod (Zb8 c)≠0
    ·rw[bne_iff_ne.2 ht,if_pos ht];rfl
    ·rw[if_neg ht]
     have ht:(c.2.2.2 % c.2.1).tmod (Zb8 c)=0:=by simpa using ht
     rw[ht,bne_self_eq_false]
     by_cases he:c.2.1=Zb8 c
     ·rw[if_pos he]
      simp only[beq_iff_eq.2 he,cond_true,cond_false]
     ·rw[if_neg he,beq_eq_false_iff_ne.2 he]
      refine⟨⟨by omega,ZcH (by omega) (by omega)⟩,⟨by omega,ZcH (by omega) (by omega)⟩,⟨by show ((Zb8 c:Nat):Int)≠0;omega,by simpa using h1,fun n hn=>?_⟩,rfl⟩
      obtain⟨a,_,rfl⟩:=List.mem_map.1 hn
      have:=hr a
      constructor<;>omega
local macro "gh" : tactic => `(tactic| (intro h; first | exact ⟨h, trivial⟩ | exact ⟨h, h, trivial⟩ | exact h | exact ⟨h, h, by omega, by omega⟩))
theorem Ztj(C:List Int):(Zb5 C).length=C.length:=by simp[Zb5]
theorem ZrZ{α:Type} [DecidableEq α]{u v:List α}{x y:α}(h:u.length=v.length):decide (u++[x]=v++[y])=(decide (u=v)&&decide (x=y)):=by
 by_cases h1:u=v
 ·subst h1
  by_cases h2:x=y
  ·subst h2;simp
  ·simp[h2]
 ·have:¬ u++[x]=v++[y]:=fun e=>h1 (List.append_inj e h).1
  simp[this,h1]
theorem ZP.spec(a b:Zc)(hp:ZP.pre (a,b,())):ZP.wp a b (fun r=>r=ZP.fn (a,b,())):=by
 obtain⟨hl,hm,hi⟩:=hp
 simp only at hl hm hi
 have hfn:ZP.fn (a,b,())=Zbp a b:=rfl
 simp only[ZP.wp,hfn]
 refine Lp.iter a.2.2.1.length (fun i y=>y=((i:Int),decide (a.2.2.1.take i=Zb5 (b.2.2.1.take i)),decide (a.2.2.1.take i=b.2.2.1.take i))) (by simp[Zb5]) ?_
 rintro i y hle rfl R hR
 by_cases e:i < a.2.2.1.length
 ·have hn:=hi _ (Zj (d:=0) (show i < b.2.2.1.length by omega))
  have ha:=Zv 0 e
  have hb:=Zv 0 (show i < b.2.2.1.length by omega)
  simp only[decide_eq_true (show (i:Int) < (a.2.2.1.length:Int) by omega),Int.toNat_natCast,cond_true]
  refine⟨by gh,by gh,by gh,by gh,by gh,by gh,by gh,by gh,by gh,by gh,by gh,by gh,by gh,by gh,by gh,by gh,by gh,by gh,fun h=>⟨h,by omega,by omega⟩,by gh,by gh,⟨by omega,by omega⟩,hR e _ ?_⟩
  have hnb:Zb5 (b.2.2.1.take i++[b.2.2.1.getD i 0])=Zb5 (b.2.2.1.take i)++[-b.2.2.1.getD i 0]:=by simp[Zb5]
  rw[ha,hb,hnb,ZrZ (by rw[Ztj];simp;omega),ZrZ (by simp;omega)]
  rfl
 ·have:i=a.2.2.1.length:=by omega
  subst this
  simp only[Int.lt_irrefl,decide_false,cond_false,List.take_length]
  rw[hl,List.take_length]
  unfold Zbp
  by_cases h1:a.2.2.1=b.2.2.1
  ·rw[if_pos h1,decide_eq_true h1];rfl
  ·rw[if_neg h1,decide_eq_false h1]
   by_cases h2:a.2.2.1=Zb5 b.2.2.1
   ·rw[if_pos h2,decide_eq_true h2];rfl
   ·rw[if_neg h2,decide_eq_false h2];rfl
theorem Z7.spec(a b:List Int)(hla:a.length≤9223372036854775807)(hp:Z7.pre (a,b,())):Z7.wp a b (fun r=>r=Z7.fn (a,b,())):=by
 have hl:a.length=b.length:=hp
 have hfn:Z7.fn (a,b,())=ZcX a b:=rfl
 simp only[Z7.wp,hfn]
 refine Lp.iter a.length (fun i y=>y=(i:Int)∧ZcX a b=ZcX (a.drop i) (b.drop i)) ⟨rfl,rfl⟩ ?_
 rintro i y hle ⟨rfl,hd⟩ R hR
 by_cases e:i < a.length
 ·have hb:i < b.length:=by omega
  simp only[decide_eq_true (show (i:Int) < (a.length:Int) by omega),Int.toNat_natCast,cond_true]
  rw[List.drop_eq_getElem_cons e,List.drop_eq_getElem_cons hb] at hd
  simp only[ZcX] at hd
  simp only[ZD e,ZD hb]
  refine⟨⟨by omega,by omega⟩,⟨by omega,by omega⟩,?_⟩
  unfold Zhg at hd
  by_cases h1:a[i] < b[i]
  ·rw[if_pos h1,if_neg (by decide)] at hd
   rw[decide_eq_true h1]
   exact hd.symm
  ·rw[if_neg h1] at hd
   rw[decide_eq_false h1]
   refine⟨⟨by omega,by omega⟩,⟨by omega,by omega⟩,?_⟩
   by_cases h2:b[i] < a[i]
   ·rw[if_pos h2,if_neg (by decide)] at hd
    rw[decide_eq_true h2]
    exact hd.symm
   ·rw[if_neg h2,if_pos rfl] at hd
    rw[decide_eq_false h2]
    exact⟨⟨by omega,by omega⟩,hR e _ ⟨rfl,hd⟩⟩
 ·have:i=a.length:=by omega
  subst this
  simp only[Int.lt_irrefl,decide_false,cond_false]
  rw[List.drop_length,hl,List.drop_length] at hd
  exact hd.symm
theorem Za3.spec(l m:Lin)(hp:Za3.pre (l,m,())):Za3.wp l m (fun r=>r=Za3.fn (l,m,())):=by
 obtain⟨h1,h2⟩:=hp
 simp only at h1 h2
 simp only[Za3.wp,List.nil_append]
 refine⟨⟨by simp;omega,by simp;omega⟩,⟨by simp;omega,by simp;omega⟩,⟨by simp;omega,by simp;omega⟩,⟨by simp;omega,by simp;omega⟩,?_,?_⟩
 rotate_left
 ·trivial
 show (l.1++[l.2]).length=(m.1++[m.2]).length
 simp[h1]
theorem Zfo:∀ {a b:List Int} {x y:Int},a.length=b.length→ZcX (a++[x]) (b++[y])=if ZcX a b=0 then Zhg x y else ZcX a b
 | [],[],x,y,_=>by
   simp only[List.nil_append,ZcX]
   by_cases h:Zhg x y=0
   ·simp[h]
   ·simp[h]
 | [],_::_,x,y,h=>by simp at h
 | _::_,[],x,y,h=>by simp at h
 | u::a,v::b,x,y,h=>by
   simp only[List.cons_append,ZcX]
   by_cases h1:Zhg u v=0
   ·simp only[h1,if_true]
    exact Zfo (by simpa using h)
   ·simp only[if_neg h1]
theorem ZaW.spec(a b:Zc)(hp:ZaW.pre (a,b,())):ZaW.wp a b (fun r=>r=ZaW.fn (a,b,())):=by
 obtain⟨h1,h2⟩:=hp
 simp only at h1 h2
 simp only[ZaW.wp,Z7.fn,ZaV.fn,Za3.fn,ZaW.fn]
 refine⟨rfl,?_⟩
 have e:Zhr a b=if ZcX [Zce a.1,a.2.1] [Zce b.1,b.2.1]=0 then ZcX (a.2.2.1++[a.2.2.2]) (b.2.2.1++[b.2.2.2]) else ZcX [Zce a.1,a.2.1] [Zce b.1,b.2.1]:=by
  rw[Zhw,Zfo h1]
  have e2:ZcX [Zce a.1,a.2.1] [Zce b.1,b.2.1]=if Zhg (Zce a.1) (Zce b.1)=0 then Zhg a.2.1 b.2.1 else Zhg (Zce a.1) (Zce b.1):=by
   have:=Zfo (a:=[Zce a.1]) (b:=[Zce b.1]) (x:=a.2.1) (y:=b.2.1) rfl
   simp only[List.singleton_append] at this
   rw[this]
   have e3:ZcX [Zce a.1] [Zce b.1]=Zhg (Zce a.1) (Zce b.1):=by
    simp only[ZcX];split
    ·rename_i h;exact h.symm
    ·rfl
   rw[e3]
  rw[e2]
  split
  ·split<;>rfl
  ·rfl
 by_cases h3:ZcX [Zce a.1,a.2.1] [Zce b.1,b.2.1]=0
 ·rw[if_pos h3] at e
  simp only[h3,bne_self_eq_false,cond_false]
  exact⟨⟨h1,h2⟩,e.symm⟩
 ·rw[if_neg h3] at e
  simp only[bne_iff_ne.2 h3,cond_true]
  exact e.symm
theorem Zqy{c:Zc}:∀ {l:List Zc} {j:Nat},(∀ i,i < j→Zhr (l.getD i Za) c < 0)→j≤l.length→ZhD c l=l.take j++ZhD c (l.drop j)
 | l,0,_,_=>by simp
 | [],j+1,_,h=>by simp at h
 | d::l,j+1,h,h2=>by
   have h0:=h 0 (by omega)
   simp at h0
   simp only[ZhD,if_pos h0,List.take_succ_cons,List.drop_succ_cons,List.cons_append]
   rw[Zqy (l:=l) (j:=j) (fun i hi=>by have:=h (i+1) (by omega);simpa using this) (by simpa using h2)]
theorem Zn4(c:Zc):∀ l:List Zc,(ZhD c l).length≤l.length+1
 | []=>by simp[ZhD]
 | d::l=>by
   have:=Zn4 c l
   simp only[ZhD]
   split
   ·simp only[List.length_cons];omega
   ·split
    ·simp
    ·simp
theorem Zpa{l:List Zc}{i:Nat}(h:i < l.length):ZaU (l.take (i+1))=ZhD (l.getD i Za) (ZaU (l.take i)):=by
 rw[Zv Za h,ZaU,List.foldl_append];rfl
theorem Zrw:∀ (l:List Zc),(ZaU l).length≤l.length:=by
 have key:∀ (l out:List Zc),(l.foldl (fun out c=>ZhD c out) out).length≤out.length+l.length:=by
  intro l
  induction l with
  | nil=>intro out;simp
  | cons c l ih =>
    intro out
    have:=ih (ZhD c out)
    have:=Zn4 c out
    simp only[List.foldl_cons,List.length_cons];omega
 intro l
 have:=key l []
 simpa[ZaU] using this
theorem Zp8(l:List Zc):∀ x∈ZaU l,x∈l:=by
 have key:∀ (l out:List Zc),∀ x∈l.foldl (fun out c=>ZhD c out) out,x∈l∨x∈out:=by
  intro l
  induction l with
  | nil=>intro out x hx;exact .inr hx
  | cons c l ih =>
    intro out x hx
    rcases ih _ x hx with h | h
    ·exact .inl (by simp[h])
    ·rcases ZfU.1 h with rfl | h
     ·exact .inl (by simp)
     ·exact .inr h
 intro x hx
 exact (key l [] x hx).elim id (by simp)
theorem Z3.spec(l:List Zc)(hp:Z3.pre (l,())):Z3.wp l (fun r=>r=Z3.fn (l,())):=by
 obtain⟨hl,n,hn,hd⟩:=hp
 simp only at hl hd
 have hfn:Z3.fn (l,())=ZaU l:=rfl
 simp only[Z3.wp,hfn,ZaW.fn,ZaQ.fn,List.nil_append]
 refine Lp.iter l.length (fun i y=>y=((i:Int),ZaU (l.take i))) (by simp[ZaU]) ?_
 rintro i y hle rfl R hR
 by_cases e:i < l.length
 ·simp only[decide_eq_true (show (i:Int) < (l.length:Int) by omega),Int.toNat_natCast,cond_true]
  refine⟨⟨by omega,by omega⟩,?_⟩
  have hst:=Zpa e
  have hol:=Zrw (l.take i)
  have hdc:(l.getD i Za).2.2.1.length=n:=hd _ (Zj e)
  have hds:∀ j,j < (ZaU (l.take i)).length→((ZaU (l.take i)).getD j Za).2.2.1.length=n:=fun j hj=>hd _ (List.mem_of_mem_take (Zp8 _ _ (Zj hj)))
  rw[List.length_take] at hol
  have hR':=hR e ((i:Int)+1,ZhD (l.getD i Za) (ZaU (l.take i))) (by rw[hst];rfl)
  clear hR hst
  refine Lp.iter (ZaU (l.take i)).length (fun j y=>y=(j:Int)∧∀ k,k < j→Zhr ((ZaU (l.take i)).getD k Za) (l.getD i Za) < 0) ⟨rfl,fun k hk=>absurd hk (by omega)⟩ ?_
  rintro j y hjl ⟨rfl,hj⟩ R' hR2
  have hins:=Zqy hj hjl
  simp only[Int.toNat_natCast]
  by_cases e2:j < (ZaU (l.take i)).length
  ·have hds':=hds j e2
   simp only[decide_eq_true (show (j:Int) < ((ZaU (l.take i)).length:Int) by omega),Bool.true_and]
   refine⟨fun h=>⟨h,h,by omega,by omega⟩,fun h=>⟨h,trivial⟩,fun h=>⟨h,h,⟨hds'.trans hdc.symm,by show ((ZaU (l.take i)).getD j Za).2.2.1.length≤_;omega⟩⟩,fun h=>⟨h,trivial⟩,fun h=>h,?_⟩
   rw[List.drop_eq_getElem_cons e2] at hins
   by_cases h1:Zhr ((ZaU (l.take i)).getD j Za) (l.getD i Za) < 0
   ·simp only[decide_eq_true h1,cond_true]
    refine⟨⟨by omega,by omega⟩,hR2 e2 _ ⟨rfl,fun k hk=>?_⟩⟩
    by_cases ek:k=j
    ·subst ek;exact h1
    ·exact hj k (by omega)
   ·simp only[decide_eq_false h1,cond_false]
    refine⟨fun h=>⟨h,h,by omega,by omega⟩,fun h=>⟨h,trivial⟩,fun h=>⟨h,h,trivial⟩,fun h=>h,?_⟩
    rw[ZD e2] at h1
    by_cases h2:(ZaU (l.take i)).getD j Za=l.getD i Za
    ·rw[decide_eq_true h2]
     refine⟨⟨by omega,by omega⟩,?_⟩
     rw[ZD e2] at h2
     simp only[ZhD,if_neg h1,if_pos h2] at hins
     rw[← List.drop_eq_getElem_cons e2,List.take_append_drop] at hins
     rw[hins] at hR'
     exact hR'
    ·rw[decide_eq_false h2]
     rw[ZD e2] at h2
     simp only[ZhD,if_neg h1,if_neg h2] at hins
     rw[← List.drop_eq_getElem_cons e2] at hins
     refine⟨⟨by omega,by omega⟩,⟨by simp;omega,by simp;omega⟩,⟨by simp;omega,by simp;omega⟩,⟨by omega,by omega⟩,⟨by simp;omega,by simp;omega⟩,⟨by omega,by omega⟩,?_⟩
     rw[hins] at hR'
     simpa using hR'
  ·have:j=(ZaU (l.take i)).length:=by omega
   subst this
   simp only[Int.lt_irrefl,decide_false,Bool.false_and,cond_false]
   refine⟨fun h=>(by cases h),fun h=>(by cases h),fun h=>(by cases h),fun h=>(by cases h),fun h=>(by cases h),fun h=>(by cases h),fun h=>(by cases h),fun h=>(by cases h),fun h=>(by cases h),⟨by omega,by omega⟩,⟨by simp;omega,by simp;omega⟩,⟨by simp;omega,by simp;omega⟩,⟨by omega,by omega⟩,⟨by simp;omega,by simp;omega⟩,⟨by omega,by omega⟩,?_⟩
   rw[List.drop_length] at hins ⊢
   simp only[ZhD] at hins
   rw[hins] at hR'
   simpa using hR'
 ·have:i=l.length:=by omega
  subst this
  simp only[Int.lt_irrefl,decide_false,cond_false,List.take_length]
theorem ZbR{α:Type}{l:List α}{d x:α}(h:x∈l):∃ i,i < l.length∧l.getD i d=x:=by
 obtain⟨i,hi,rfl⟩:=List.mem_iff_getElem.1 h
 exact⟨i,hi,ZD hi⟩
theorem ZaP.spec(l:List (List Zc))(p:List Zc)(hl:l.length≤9223372036854775807):ZaP.wp l p (fun r=>r=ZaP.fn (l,p,())):=by
 have hfn:ZaP.fn (l,p,())=decide (p∈l):=rfl
 simp only[ZaP.wp,hfn,ZM.fn]
 refine Lp.iter l.length (fun i y=>y=(i:Int)∧∀ j,j < i→l.getD j []≠p) ⟨rfl,fun j hj=>absurd hj (by omega)⟩ ?_
 rintro i y hle ⟨rfl,hi⟩ R hR
 by_cases e:i < l.length
 ·simp only[decide_eq_true (show (i:Int) < (l.length:Int) by omega),Int.toNat_natCast,cond_true]
  refine⟨⟨by omega,by omega⟩,?_⟩
  by_cases h:l.getD i []=p
  ·rw[decide_eq_true h]
   exact (decide_eq_true (h▸Zj e)).symm
  ·rw[decide_eq_false h]
   refine⟨⟨by omega,by omega⟩,hR e _ ⟨rfl,fun j hj=>?_⟩⟩
   by_cases ej:j=i
   ·subst ej;exact h
   ·exact hi j (by omega)
 ·have:i=l.length:=by omega
  subst this
  simp only[Int.lt_irrefl,decide_false,cond_false]
  refine (decide_eq_false fun hm=>?_).symm
  obtain⟨j,hj,h⟩:=ZbR (d:=[]) hm
  exact hi j hj h
theorem Znq{out out':List (List Zc)}{p:List Zc}(h:Zb6 out p=some out'):out.length≤out'.length∧out'.length≤out.length+1:=by
 unfold Zb6 at h
 split at h
 ·cases h
 ·split at h
  ·cases h;omega
  ·cases h;simp
theorem Zk3:∀ {l out out':List (List Zc)},l.foldlM Zb6 out=some out'→out.length≤out'.length∧out'.length≤out.length+l.length
 | [],out,out',h=>by cases h;simp
 | p::l,out,out',h=>by
   simp only[List.foldlM_cons,Option.bind_eq_bind,Option.bind_eq_some_iff] at h
   obtain⟨s,h1,h2⟩:=h
   have:=Znq h1
   have:=Zk3 h2
   simp only[List.length_cons];omega
theorem ZN.spec(l:List (List Zc))(hp:ZN.pre (l,())):ZN.wp l (fun r=>r=ZN.fn (l,())):=by
 obtain⟨hl,hd⟩:=hp
 simp only at hl hd
 have hfn:ZN.fn (l,())=(match l.foldlM Zb6 [] with | none=>([],3) | some out=>(out,0)):=rfl
 simp only[ZN.wp,hfn,Zak.fn,ZaP.fn]
 refine Lp.foldO l [] Zb6 [] (by omega) ?_ ?_
 ·intro i out R e e2 hf ht hR1 hR2
  have hol:=(Zk3 ht).2
  simp only[List.length_nil,List.length_take] at hol
  simp only[decide_eq_true e2,Int.toNat_natCast,cond_true]
  refine⟨⟨by omega,by omega⟩,hd _ (Zj e),?_⟩
  simp only[Zb6] at hR1 hR2
  by_cases h0:(Zac (l.getD i [])).2.2=0
  ·rw[if_neg (fun h=>h h0)] at hR1
   simp only[h0,bne_self_eq_false,cond_false]
   refine⟨fun h=>⟨h,h,trivial⟩,fun h=>⟨h,trivial⟩,fun h=>h,?_⟩
   have hb:(!(Zac (l.getD i [])).2.1&&!decide ((Zac (l.getD i [])).1∈out))=!decide ((Zac (l.getD i [])).2.1=true∨(Zac (l.getD i [])).1∈out):=by
    cases (Zac (l.getD i [])).2.1<;>simp
   rw[hb]
   by_cases h1:(Zac (l.getD i [])).2.1=true∨(Zac (l.getD i [])).1∈out
   ·rw[if_pos h1] at hR1
    rw[decide_eq_true h1]
    exact⟨hf,hR1 _ rfl⟩
   ·rw[if_neg h1] at hR1
    rw[decide_eq_false h1]
    exact⟨⟨by simp;omega,by simp;omega⟩,hf,hR1 _ rfl⟩
  ·simp only[bne_iff_ne.2 h0,cond_true]
   rw[hR2 (if_pos h0),((Zms _).resolve_left h0).1]
 ·intro out R ht
  simp only[Int.lt_irrefl,decide_false,cond_false]
  rw[ht]
theorem Zll:∀ (l out:List (List Zc)),out.length≤400→l.foldlM Zaa out=(l.foldlM Zb6 out).bind fun o=>if 400 < o.length then none else some o
 | [],out,h=>by
   show some out=if 400 < out.length then none else some out
   rw[if_neg (by omega)]
 | p::l,out,h=>by
   rw[List.foldlM_cons,List.foldlM_cons]
   by_cases h0:(Zac p).2.2=0
   ·by_cases h1:(Zac p).2.1=true∨(Zac p).1∈out
    ·have e1:Zaa out p=some out:=(if_neg fun h=>h h0).trans (if_pos h1)
     have e2:Zb6 out p=some out:=(if_neg fun h=>h h0).trans (if_pos h1)
     rw[e1,e2]
     exact Zll l out h
    ·have e2:Zb6 out p=some (out++[(Zac p).1]):=(if_neg fun h=>h h0).trans (if_neg h1)
     by_cases h2:400 < out.length+1
     ·have e1:Zaa out p=none:=(if_neg fun h=>h h0).trans ((if_neg h1).trans (if_pos h2))
      rw[e1,e2]
      show none=(l.foldlM Zb6 (out++[(Zac p).1])).bind _
      rcases Z9 (l.foldlM Zb6 (out++[(Zac p).1])) with h3 | ⟨o,h3⟩
      ·rw[h3];rfl
      ·rw[h3]
       have:=(Zk3 h3).1
       simp only[List.length_append,List.length_cons,List.length_nil] at this
       exact (if_pos (by omega)).symm
     ·have e1:Zaa out p=some (out++[(Zac p).1]):=(if_neg fun h=>h h0).trans ((if_neg h1).trans (if_neg h2))
      rw[e1,e2]
      exact Zll l _ (by simp;omega)
   ·have e1:Zaa out p=none:=if_pos h0
    have e2:Zb6 out p=none:=if_pos h0
    rw[e1,e2];rfl
theorem Zaq.spec(n:Int)(l:List (List Zc))(hp:Zaq.pre (n,l,())):Zaq.wp n l (fun r=>r=Zaq.fn (n,l,())):=by
 have hfn:Zaq.fn (n,l,())=ZgW n (l.foldlM Zaa []):=rfl
 simp only[Zaq.wp,hfn,ZN.fn]
 refine⟨hp,fun h=>⟨h,trivial⟩,fun h=>⟨h,trivial⟩,fun h=>by rw[h];rfl,?_⟩
 rw[Zll l [] (by simp)]
 rcases Z9 (l.foldlM Zb6 []) with h3 | ⟨o,h3⟩
 ·have hpf:Zfq l=([],3):=by unfold Zfq;rw[h3]
  simp only[hpf,h3];rfl
 ·have hpf:Zfq l=(o,0):=by unfold Zfq;rw[h3]
  simp only[hpf,h3]
  by_cases h:400 < o.length
  ·simp only[bne_self_eq_false,Bool.false_or,decide_eq_true (show (400:Int) < (o.length:Int) by omega),cond_true,Option.bind_some,if_pos h]
   rfl
  ·simp only[bne_self_eq_false,Bool.false_or,decide_eq_false (show ¬ (400:Int) < (o.length:Int) by omega),cond_false,Option.bind_some,if_neg h]
   rfl
theorem Zl.D{s:ZbK}(h:Zl s=true){p:List Zc}(hp:p∈s.2):ZaD p∧Zek p s.1.toNat:=⟨Zl.B h hp,fun c hc=>by
 obtain⟨h0,_,_,h4⟩:=Zl.b h
 have:=((h4 p hp).2 c hc).2
 omega⟩
theorem Zax.spec(x:ZbK):Zax.wp x (fun r=>r=Zax.fn (x,())):=by
 have hfn:Zax.fn (x,())=Zaz x:=rfl
 simp only[Zax.wp,ZZ.fn,Zaq.fn,hfn]
 cases hv:Zl x with
 | false=>simp[Zaz,hv]
 | true =>
   have:=(Zl.b hv).2.2.1
   refine⟨⟨by simp only;omega,fun p hp=>⟨Zl.B hv hp,_,(Zl.D hv hp).2⟩⟩,?_⟩
   simp[Zaz,hv]
theorem ZiM{g:Nat}(hg:0 < g):∀ {l:List Int} {s:Int},(s=g∨s=-(g:Int))→(∀ n∈l,g ∣ n.natAbs)→∀ a:Nat,(l.map (·.tdiv s)).foldl (fun g n=>Nat.gcd g n.natAbs) a*g=l.foldl (fun g n=>Nat.gcd g n.natAbs) (a*g)
 | [],s,_,_,a=>rfl
 | n::l,s,hs,h,a=>by
   simp only[List.map_cons,List.foldl_cons]
   rw[ZiM hg hs fun m hm=>h m (by simp[hm])]
   congr 1
   have h1:=h n (by simp)
   have h2:(n.tdiv s).natAbs=n.natAbs / g:=by
    rw[Int.natAbs_tdiv]
    rcases hs with rfl | rfl<;>(simp;rfl)
   rw[h2,← Nat.gcd_mul_right,Nat.div_mul_cancel h1]
theorem Zmz{l:List Int}{s:Int}(hg:Za1 l≠0)(hs:s=Za1 l∨s=-(Za1 l:Int)):Za1 (l.map (·.tdiv s))=1:=by
 have h:=ZiM (g:=Za1 l) (by omega) (l:=l) hs (ZfX (l:=l) (g:=0)).2 0
 rw[Nat.zero_mul] at h
 have h2:Za1 (l.map (·.tdiv s))*Za1 l=1*Za1 l:=by rw[Nat.one_mul];exact h
 exact Nat.eq_of_mul_eq_mul_right (by omega) h2
theorem Zg8{g:Nat}(hg:0 < g):∀ {l:List Int},(∀ n∈l,g ∣ n.natAbs)→ZaT (l.map (·.tdiv (g:Int)))=ZaT l∧(ZaT l=true→ZaT (l.map (·.tdiv (-(g:Int))))=false)
 | [],_=>⟨rfl,fun h=>by cases h⟩
 | n::l,h=>by
   obtain⟨ih1,ih2⟩:=Zg8 hg (l:=l) fun m hm=>h m (by simp[hm])
   obtain⟨k,hk⟩:=h n (by simp)
   simp only[List.map_cons,ZaT,Int.tdiv_neg]
   by_cases h0:n=0
   ·subst h0
    simp only[Int.zero_tdiv,if_true,Int.neg_zero]
    refine⟨ih1,fun hf=>?_⟩
    have:=ih2 hf
    simpa only [Int.tdiv_neg] using this
   ·have hk0:k≠0:=fun e=>by subst e;simp at hk;exact h0 hk
    have hq:n.tdiv g=k∧0 < n∨n.tdiv g=-(k:Int)∧n < 0:=by
     have e1:((g:Int)*k).tdiv g=k:=by rw[Int.mul_comm];exact Int.mul_tdiv_cancel _ (by omega)
     have e2:((g*k:Nat):Int)=(g:Int)*k:=Int.natCast_mul _ _
     rcases Int.lt_or_gt_of_ne h0 with h1 | h1
     ·refine .inr ⟨?_,h1⟩
      have:n=-((g:Int)*k):=by omega
      rw[this,Int.neg_tdiv,e1]
     ·refine .inl ⟨?_,h1⟩
      have:n=(g:Int)*k:=by omega
      rw[this,e1]
    have hq0:n.tdiv g≠0:=by omega
    have hq1:-n.tdiv g≠0:=by omega
    rw[if_neg h0,if_neg hq0,if_neg hq1]
    constructor
    ·exact decide_eq_decide.2 (by omega)
    ·intro h;simp only[decide_eq_true_eq] at h;exact decide_eq_false (by omega)
def ZlM(n:Nat)(c:Zc):Prop:=c.2.2.1.length=n∧(c.1≠2→Za1 c.2.2.1=1)∧(c.1=1→ZaT c.2.2.1=false)
theorem Zon{c:Zc}(h0:(eqF c).2=0):ZlM c.2.2.1.length (eqF c).1∧(eqF c).1.1=1:=by
 have hs:∀ b,(ZcI b).2≠0:=fun b=>by cases b<;>simp[ZcI]
 unfold eqF at h0 ⊢
 by_cases hg:Za1 c.2.2.1=0∨c.2.2.2.tmod (Za1 c.2.2.1)≠0
 ·rw[if_pos hg] at h0;exact absurd h0 (hs _)
 ·rw[if_neg hg]
  rw[not_or] at hg
  have hd:=(ZfX (l:=c.2.2.1) (g:=0)).2
  have he:Zbg c=(Za1 c.2.2.1:Int)∨Zbg c=-(Za1 c.2.2.1:Int):=by
   unfold Zbg;split<;>simp
  refine⟨⟨by simp,fun _=>Zmz hg.1 he,fun _=>?_⟩,rfl⟩
  obtain⟨h1,h2⟩:=Zg8 (g:=Za1 c.2.2.1) (by omega) hd
  show ZaT (c.2.2.1.map (·.tdiv (Zbg c)))=false
  unfold Zbg
  cases hf:ZaT c.2.2.1 with
  | true=>simp only[if_true];exact h2 hf
  | false=>simp only[Bool.false_eq_true,if_false];rw[h1,hf]
theorem Zl6{c:Zc}(h:condB c)(h0:(ZbD c).2=0):ZlM c.2.2.1.length (ZbD c).1∧(ZbD c).1.1=c.1:=by
 obtain⟨hk,_⟩:=h
 have hs:∀ b,(ZcI b).2≠0:=fun b=>by cases b<;>simp[ZcI]
 rcases hk with hk | hk | ⟨hk,hm1,hm2⟩
 ·have hr:ZbD c=geF c:=by simp[ZbD,hk]
  rw[hr] at h0 ⊢
  unfold geF at h0 ⊢
  by_cases hg:Za1 c.2.2.1=0
  ·rw[if_pos hg] at h0;exact absurd h0 (hs _)
  ·rw[if_neg hg,hk]
   exact⟨⟨by simp,fun _=>Zmz hg (.inl rfl),fun h=>by cases h⟩,rfl⟩
 ·have hr:ZbD c=eqF c:=by simp[ZbD,hk]
  rw[hr] at h0 ⊢
  rw[hk]
  exact Zon h0
 ·have hr:ZbD c=ZkX c:=by simp[ZbD,hk]
  rw[hr] at h0 ⊢
  unfold ZkX at h0 ⊢
  split at h0
  ·exact absurd h0 (hs _)
  split at h0
  ·exact absurd h0 (hs _)
  rename_i ha hb
  rw[if_neg ha,if_neg hb,hk]
  exact⟨⟨by simp,fun h=>absurd rfl h,fun h=>by cases h⟩,rfl⟩
theorem tmod_one(n:Int):n.tmod 1=0:=by rw[Int.tmod_eq_zero_of_dvd];exact Int.one_dvd _
theorem Zn6{n:Nat}{c:Zc}(h:ZlM n c)(h0:c.1=0):(ZbD (1,0,c.2.2)).2=0∧ZlM n (ZbD (1,0,c.2.2)).1∧(ZbD (1,0,c.2.2)).1.1=1:=by
 have hg:=h.2.1 (by omega)
 have hr:ZbD (1,0,c.2.2)=eqF (1,0,c.2.2):=rfl
 have hz:(eqF (1,0,c.2.2)).2=0:=by
  unfold eqF
  have:¬ (Za1 c.2.2.1=0∨c.2.2.2.tmod (Za1 c.2.2.1)≠0):=by
   rw[hg]
   rintro (h | h)
   ·omega
   ·exact h (tmod_one _)
  show (if Za1 c.2.2.1=0∨c.2.2.2.tmod (Za1 c.2.2.1)≠0 then _ else _:Zc×Int).2=0
  rw[if_neg this]
 rw[hr]
 have:=Zon hz
 rw[show ((1,0,c.2.2):Zc).2.2.1.length=n from h.1] at this
 exact⟨hz,this⟩
theorem ZmL{p:List Zc}{n:Nat}(h:ZaD p)(hd:Zek p n):∀ c∈ZbN p,ZlM n c:=by
 intro c hc
 simp only[ZbN,List.mem_map,List.mem_filter] at hc
 obtain⟨r,⟨⟨d,hd2,rfl⟩,hr⟩,rfl⟩:=hc
 have:=(Zl6 (h.2 d hd2) (by simpa using hr)).1
 rwa [hd d hd2] at this
theorem Zo8{p:List Zc}{n:Nat}(h:ZaD p)(hd:Zek p n):∀ c∈(Zac p).1,ZlM n c :=
 ZrQ (P:=ZlM n) (fun d c hd hc=>hd) (fun c h0 hc=>(Zn6 hc h0).2.1) h (ZmL h hd)
theorem Zjw{p:List Zc}{n:Nat}(h:ZaD p)(hd:Zek p n):Zek (Zac p).1 n:=fun c hc=>(Zo8 h hd c hc).1
theorem ZmI{out out':List (List Zc)}{p:List Zc}{n:Nat}(h:Zaa out p=some out')(hl:∀ q∈out,Zek q n)(hp:ZaD p)(hd:Zek p n):∀ q∈out',Zek q n:=by
 unfold Zaa at h
 split at h
 ·cases h
 ·split at h
  ·cases h;exact hl
  ·split at h
   ·cases h
   ·cases h
    intro q hq
    rcases List.mem_append.1 hq with hq | hq
    ·exact hl q hq
    ·simp only[List.mem_singleton] at hq;subst hq
     exact Zjw hp hd
theorem Zi6{n:Nat}:∀ {l:List (List Zc)} {out out':List (List Zc)},l.foldlM Zaa out=some out'→(∀ q∈out,Zek q n)→(∀ p∈l,ZaD p∧Zek p n)→∀ q∈out',Zek q n
 | [],out,out',h,hl,_=>by cases h;exact hl
 | p::l,out,out',h,hl,hb=>by
   simp only[List.foldlM_cons,Option.bind_eq_bind,Option.bind_eq_some_iff] at h
   obtain⟨s,h1,h2⟩:=h
   have h3:=hb p (by simp)
   exact Zi6 h2 (ZmI h1 hl h3.1 h3.2) fun q hq=>hb q (by simp[hq])
theorem ZpS{x:ZbK}(hx:Zl x=true)(h:(Zaz x).2=0):∀ q∈(Zaz x).1.2,Zek q x.1.toNat:=by
 unfold Zaz at h ⊢
 rw[if_neg (by rw[hx];simp)] at h ⊢
 unfold ZgW at h ⊢
 rcases Z9 (ZfG x.2) with ho | ⟨out,ho⟩
 ·rw[ho] at h;cases h
 ·rw[ho]
  exact Zi6 ho (by simp) fun p hp=>Zl.D hx hp
theorem ZB.spec(a:Int)(l:Lin)(b:Int)(m:Lin)(hp:ZB.pre (a,l,b,m,())):ZB.wp a l b m (fun r=>r=ZB.fn (a,l,b,m,())):=by
 obtain⟨ha,⟨hl1,hl2,hl3⟩,hb,⟨hm1,hm2,hm3⟩,he⟩:=hp
 simp only at ha hl1 hl2 hl3 hb hm1 hm2 hm3 he
 have key:∀ x y:Int,(-1048576≤x∧x≤1048576)→(-4294967296≤y∧y≤4294967296)→-4503599627370496≤x*y∧x*y≤4503599627370496:=fun x y hx hy =>
  Zdf (n:=1048576) (m:=4294967296) (by omega) (by omega) hx.1 hx.2 hy.1 hy.2
 have k1:=key a l.2 ha hl3
 have k2:=key b m.2 hb hm3
 have hfn:ZB.fn (a,l,b,m,())=Zck a l b m:=rfl
 simp only[ZB.wp,Int.toNat_natCast,hfn]
 unfold Zck
 refine⟨⟨by omega,by omega,by omega,by omega⟩,⟨by omega,by omega⟩,⟨by omega,by omega⟩,⟨by omega,by omega⟩,?_⟩
 have hrl:(List.range l.1.length).length=l.1.length:=by simp
 have hF:=Lp.fill (body:=fun (y5:Int×List Int) R5=>let v2:=List.getD l.1 (Int.toNat y5.1) (0:Int);let v3:=List.getD m.1 (Int.toNat y5.1) (0:Int);cond (decide (y5.1 < ((List.length l.1:Nat):Int))) (((0:Int)≤y5.1∧y5.1 < ((List.length l.1:Nat):Int))∧(Zo IntKind.i64 (a*v2)∧(((0:Int)≤y5.1∧y5.1 < ((List.length m.1:Nat):Int))∧(Zo IntKind.i64 (b*v3)∧(Zo IntKind.i64 ((a*v2)+(b*v3))∧(((0:Int)≤y5.1∧y5.1 < ((List.length y5.2:Nat):Int))∧(Int.toNat y5.1 < List.length y5.2∧(Zo IntKind.i64 (y5.1+(1:Int))∧R5 ((y5.1+(1:Int)),(List.set y5.2 (Int.toNat y5.1) ((a*v2)+(b*v3)))))))))))) (((y5.2,((a*l.2)+(b*m.2))):Lin)=((List.range l.1.length).map fun i=>a*l.1.getD i 0+b*m.1.getD i 0,a*l.2+b*m.2))) (List.range l.1.length) 0 0 (fun i=>a*l.1.getD i 0+b*m.1.getD i 0) (by omega) (fun i out R hi hi' hf ho hR=>?_) (fun R=>?_)
 ·rw[hrl] at hF;exact hF
 ·rw[hrl] at hi hi' ho
  rw[ZpN hi] at hR
  have k3:=key a _ ha (hl2 _ (Zj (d:=0) hi))
  have k4:=key b _ hb (hm2 _ (Zj (d:=0) (show i < m.1.length by omega)))
  simp only[decide_eq_true hi',Int.toNat_natCast,cond_true]
  exact⟨⟨by omega,by omega⟩,⟨by omega,by omega⟩,⟨by omega,by omega⟩,⟨by omega,by omega⟩,⟨by omega,by omega⟩,⟨by omega,by omega⟩,by omega,hf,hR⟩
 ·rw[hrl]
  simp only[Int.lt_irrefl,decide_false,cond_false]
theorem ZrI(a:Int)(l:Lin)(b k:Int):Zck a l b (List.replicate l.1.length 0,k)=(l.1.map fun n=>a*n,a*l.2+b*k):=by
 unfold Zck
 congr 1
 apply List.ext_getElem (by simp)
 intro i h1 h2
 simp only[List.length_map,List.length_range] at h1
 simp only[List.getElem_map,List.getElem_range]
 rw[ZD h1,ZD (by simpa using h1)]
 simp
theorem Zqi.of{σ:Type}{K:σ→Prop}{body:(σ→Prop)→Prop}{P:σ→Prop}(hK:∀ y,P y→K y)(hb:∀ R:σ→Prop,(∀ y,P y→R y)→body R):Zqi K body:=hb K hK
theorem Zde(C:List Int):Zb5 (Zb5 C)=C:=by
 unfold Zb5
 rw[List.map_map]
 conv=>rhs;rw[← List.map_id C]
 exact List.map_congr_left fun n _=>by simp
theorem Zmu(C:List Int):Za1 (Zb5 C)=Za1 C:=by
 unfold Za1 Zb5
 rw[List.foldl_map]
 simp
theorem Zdv:∀ {C:List Int},Za1 C≠0→ZaT (Zb5 C)=!ZaT C
 | [],h=>by simp[Za1] at h
 | n::C,h=>by
   simp only[Zb5,List.map_cons,ZaT]
   by_cases h0:n=0
   ·subst h0
    rw[Zgs] at h
    simp at h
    simp only[Int.neg_zero,if_true]
    exact Zdv h
   ·rw[if_neg h0,if_neg (show -n≠0 by omega)]
    by_cases h1:n < 0
    ·rw[decide_eq_true h1,decide_eq_false (show ¬ -n < 0 by omega)];rfl
    ·rw[decide_eq_false h1,decide_eq_true (show -n < 0 by omega)];rfl
theorem Zq3{C:List Int}(h:Za1 C=1):Zb5 C≠C:=fun e=>by
 have:=Zdv (C:=C) (by omega)
 rw[e] at this
 cases h2:ZaT C<;>rw[h2] at this<;>cases this
abbrev Zlv(c:Zc):Zc:=(ZbD (1,0,c.2.2)).1
theorem ZoB{c d:Zc}(h:Za1 c.2.2.1=1)(h1:d.2.2.1=Zb5 c.2.2.1)(h2:c.2.2.2+d.2.2.2=0):Zlv d=Zlv c:=by
 obtain⟨k,m,C,K⟩:=c
 obtain⟨k',m',C',K'⟩:=d
 simp only at h h1 h2
 subst h1
 have h3:K'=-K:=by omega
 subst h3
 have hf:=Zdv (C:=C) (by omega)
 have hs:Zbg (1,0,Zb5 C,-K)=-Zbg (1,0,C,K):=by
  simp only[Zbg,Zmu,hf]
  cases ZaT C<;>simp
 have ha:∀ s K:Int,∀ C:List Int,Za1 C=1→eqF (1,0,C,K)=((1,0,C.map (·.tdiv (Zbg (1,0,C,K))),K.tdiv (Zbg (1,0,C,K))),0):=fun s K C hC=>by
  have:¬ (Za1 C=0∨K.tmod (Za1 C)≠0):=by
   rw[hC]
   rintro (h | h)
   ·omega
   ·exact h (tmod_one _)
  unfold eqF
  exact if_neg this
 show (eqF (1,0,Zb5 C,-K)).1=(eqF (1,0,C,K)).1
 rw[ha 0 _ _ h,ha 0 _ _ (by rw[Zmu];exact h),hs]
 simp only[Zb5,List.map_map,Int.tdiv_neg,Int.neg_tdiv,Int.neg_neg]
 congr 4
 funext n
 simp
def Mk(n:Nat)(c:Zc):Prop:=ZlM n c∧Zgh c.1∧(c.1=0→c.2.1=0)
theorem Mk.gcd{n:Nat}{c:Zc}(h:Mk n c)(h0:c.1=0):Za1 c.2.2.1=1:=h.1.2.1 (by omega)
theorem Zdc{n:Nat}{c:Zc}(h:Mk n c)(h0:c.1=0):Mk n (Zlv c)∧(Zlv c).1=1:=by
 obtain⟨h1,h2,h3⟩:=Zn6 h.1 h0
 exact⟨⟨h2,.inr (.inl h3),fun h=>by rw[h3] at h;cases h⟩,h3⟩
def Lm(l:List Zc)(c:Zc):Prop:=c∈l∧(c.1=0→∀ d∈l,d.1=0→d.2.2.1=c.2.2.1→c.2.2.2≤d.2.2.2)
theorem Lm.uniq{n:Nat}{l:List Zc}(hl:∀ c∈l,Mk n c){c d:Zc}(hc:Lm l c)(hd:Lm l d)(h0:c.1=0)(h1:d.1=0)(h:c.2.2.1=d.2.2.1):c=d:=by
 have a:=hc.2 h0 d hd.1 h1 h.symm
 have b:=hd.2 h1 c hc.1 h0 h
 have e1:=(hl c hc.1).2.2 h0
 have e2:=(hl d hd.1).2.2 h1
 exact Prod.ext (by omega) (Prod.ext (by omega) (Prod.ext h (by omega)))
def Opp(L:Zc→Prop)(c:Zc):Prop:=∃ d,L d∧d.1=0∧d.2.2.1=Zb5 c.2.2.1∧c.2.2.2+d.2.2.2=0
def Zg1(L:Zc→Prop):Prop:=∃ c d,L c∧L d∧c.1=0∧d.1=0∧d.2.2.1=Zb5 c.2.2.1∧c.2.2.2+d.2.2.2 < 0
def MM(L:Zc→Prop)(x:Zc):Prop:=(L x∧(x.1=0→¬ Opp L x))∨∃ c,L c∧c.1=0∧Opp L c∧x=Zlv c
def ZfO(M:Zc→Prop):Prop:=(∃ e f,M e∧M f∧e.1=1∧f.1=1∧e.2.2.1=f.2.2.1∧e.2.2.2≠f.2.2.2)∨∃ c e,M c∧M e∧c.1=0∧e.1=1∧((e.2.2.1=c.2.2.1∧c.2.2.2 < e.2.2.2)∨(e.2.2.1=Zb5 c.2.2.1∧c.2.2.2+e.2.2.2 < 0))
def Zt0(M:Zc→Prop)(x:Zc):Prop:=M x∧(x.1=0→∀ e,M e→e.1=1→e.2.2.1≠x.2.2.1∧e.2.2.1≠Zb5 x.2.2.1)
theorem Zls{l:List Zc}{c:Zc}(h:c.1≠0)(x:Zc):Lm (l++[c]) x↔Lm l x∨x=c:=by
 simp only[Lm,List.mem_append,List.mem_singleton]
 constructor
 ·rintro⟨h1 | h1,h2⟩
  ·exact .inl ⟨h1,fun h0 d hd=>h2 h0 d (.inl hd)⟩
  ·exact .inr h1
 ·rintro (⟨h1,h2⟩ | rfl)
  ·refine⟨.inl h1,fun h0 d hd hd0=>?_⟩
   rcases hd with hd | rfl
   ·exact h2 h0 d hd hd0
   ·exact absurd hd0 h
  ·exact⟨.inr rfl,fun h0=>absurd h0 h⟩
theorem ZgO{n:Nat}{l:List Zc}{c:Zc}(hl:∀ d∈l,Mk n d)(hc:Mk n c)(h:c.1=0)(x:Zc):Lm (l++[c]) x↔(Lm l x∧¬ (x.1=0∧x.2.2.1=c.2.2.1))∨(x.1=0∧x.2.2.1=c.2.2.1∧((∃ d,Lm l d∧d.1=0∧d.2.2.1=c.2.2.1∧x=Zhh d c.2.2.2)∨(¬ (∃ d,Lm l d∧d.1=0∧d.2.2.1=c.2.2.1)∧x=c))):=by
 have hmem:∀ y,y∈l++[c]↔y∈l∨y=c:=fun y=>by simp
 have hmin:∀ (y:Zc),y∈l→y.1=0→∃ d,Lm l d∧d.1=0∧d.2.2.1=y.2.2.1∧d.2.2.2≤y.2.2.2:=by
  have key:∀ (m:List Zc),(∀ y∈m,y∈l)→∀ y∈m,y.1=0→∃ d∈m,d.1=0∧d.2.2.1=y.2.2.1∧d.2.2.2≤y.2.2.2∧∀ z∈m,z.1=0→z.2.2.1=y.2.2.1→d.2.2.2≤z.2.2.2:=by
   intro m
   induction m with
   | nil=>intro _ y hy;cases hy
   | cons a m ih =>
     intro hs y hy h0
     have ih':=ih fun z hz=>hs z (by simp[hz])
     rcases List.mem_cons.1 hy with rfl | hy
     ·by_cases hex:∃ z∈m,z.1=0∧z.2.2.1=y.2.2.1
      ·obtain⟨z,hz,hz0,hz1⟩:=hex
       obtain⟨d,hd,hd0,hd1,hd2,hd3⟩:=ih' z hz hz0
       by_cases hlt:d.2.2.2≤y.2.2.2
       ·refine⟨d,by simp[hd],hd0,hd1.trans hz1,hlt,fun w hw hw0 hw1=>?_⟩
        rcases List.mem_cons.1 hw with rfl | hw
        ·exact hlt
        ·exact hd3 w hw hw0 (hw1.trans hz1.symm)
       ·refine⟨y,by simp,h0,rfl,Int.le_refl _,fun w hw hw0 hw1=>?_⟩
        rcases List.mem_cons.1 hw with rfl | hw
        ·exact Int.le_refl _
        ·have:=hd3 w hw hw0 (hw1.trans hz1.symm);omega
      ·refine⟨y,by simp,h0,rfl,Int.le_refl _,fun w hw hw0 hw1=>?_⟩
       rcases List.mem_cons.1 hw with rfl | hw
       ·exact Int.le_refl _
       ·exact absurd ⟨w,hw,hw0,hw1⟩ hex
     ·obtain⟨d,hd,hd0,hd1,hd2,hd3⟩:=ih' y hy h0
      by_cases ha:a.1=0∧a.2.2.1=y.2.2.1∧a.2.2.2 < d.2.2.2
      ·refine⟨a,by simp,ha.1,ha.2.1,by omega,fun w hw hw0 hw1=>?_⟩
       rcases List.mem_cons.1 hw with rfl | hw
       ·exact Int.le_refl _
       ·have:=hd3 w hw hw0 hw1;omega
      ·refine⟨d,by simp[hd],hd0,hd1,hd2,fun w hw hw0 hw1=>?_⟩
       rcases List.mem_cons.1 hw with rfl | hw
       ·apply Int.le_of_not_gt
        intro hgt
        exact ha ⟨hw0,hw1,hgt⟩
       ·exact hd3 w hw hw0 hw1
  intro y hy h0
  obtain⟨d,hd,hd0,hd1,hd2,hd3⟩:=key l (fun y h=>h) y hy h0
  exact⟨d,⟨hd,fun _ z hz hz0 hz1=>hd3 z hz hz0 (hz1.trans hd1)⟩,hd0,hd1,hd2⟩
 have heq:∀ (y z:Zc),Mk n y→Mk n z→y.1=0→z.1=0→y.2.2.1=z.2.2.1→y.2.2.2=z.2.2.2→y=z:=fun y z hy hz h1 h2 h3 h4=>by
  have e1:=hy.2.2 h1
  have e2:=hz.2.2 h2
  exact Prod.ext (by omega) (Prod.ext (by omega) (Prod.ext h3 h4))
 constructor
 ·rintro⟨hx,hx2⟩
  by_cases hxc:x.1=0∧x.2.2.1=c.2.2.1
  ·right
   refine⟨hxc.1,hxc.2,?_⟩
   have hmin':=hx2 hxc.1
   have hcx:=hmin' c ((hmem c).2 (.inr rfl)) h hxc.2.symm
   by_cases hex:∃ d,Lm l d∧d.1=0∧d.2.2.1=c.2.2.1
   ·left
    obtain⟨d,hd,hd0,hd1⟩:=hex
    have hdx:=hmin' d ((hmem d).2 (.inl hd.1)) hd0 (hd1.trans hxc.2.symm)
    have hmd:=hl d hd.1
    refine⟨d,hd,hd0,hd1,?_⟩
    rcases (hmem x).1 hx with hxl | rfl
    ·have h3:=hd.2 hd0 x hxl hxc.1 (hxc.2.trans hd1.symm)
     refine heq x (Zhh d c.2.2.2) (hl x hxl) hmd hxc.1 hd0 (hxc.2.trans hd1.symm) ?_
     show x.2.2.2=min d.2.2.2 c.2.2.2
     omega
    ·refine heq x (Zhh d x.2.2.2) hc hmd hxc.1 hd0 hd1.symm ?_
     show x.2.2.2=min d.2.2.2 x.2.2.2
     omega
   ·right
    refine⟨hex,?_⟩
    rcases (hmem x).1 hx with hxl | rfl
    ·obtain⟨d,hd,hd0,hd1,_⟩:=hmin x hxl hxc.1
     exact absurd ⟨d,hd,hd0,hd1.trans hxc.2⟩ hex
    ·rfl
  ·left
   refine⟨?_,hxc⟩
   rcases (hmem x).1 hx with hxl | rfl
   ·exact⟨hxl,fun h0 d hd=>hx2 h0 d ((hmem d).2 (.inl hd))⟩
   ·exact absurd ⟨h,rfl⟩ hxc
 ·rintro (⟨hx,hxc⟩ | ⟨h0,hxc,⟨d,hd,hd0,hd1,rfl⟩ | ⟨hex,rfl⟩⟩)
  ·refine⟨(hmem x).2 (.inl hx.1),fun h0 d hd hd0 hd1=>?_⟩
   rcases (hmem d).1 hd with hd | rfl
   ·exact hx.2 h0 d hd hd0 hd1
   ·exact absurd ⟨h0,hd1.symm⟩ hxc
  ·have hmd:=hl d hd.1
   refine⟨?_,fun _ z hz hz0 hz1=>?_⟩
   ·by_cases hlt:d.2.2.2≤c.2.2.2
    ·have:Zhh d c.2.2.2=d:=heq _ _ hmd hmd hd0 hd0 rfl (by show min d.2.2.2 c.2.2.2=_;omega)
     rw[this];exact (hmem d).2 (.inl hd.1)
    ·have:Zhh d c.2.2.2=c:=heq _ _ hmd hc hd0 h hd1 (by show min d.2.2.2 c.2.2.2=_;omega)
     rw[this];exact (hmem c).2 (.inr rfl)
   ·show min d.2.2.2 c.2.2.2≤_
    rcases (hmem z).1 hz with hz | rfl
    ·have:=hd.2 hd0 z hz hz0 hz1;omega
    ·omega
  ·refine⟨(hmem x).2 (.inr rfl),fun _ z hz hz0 hz1=>?_⟩
   rcases (hmem z).1 hz with hz | rfl
   ·obtain⟨d,hd,hd0,hd1,_⟩:=hmin z hz hz0
    exact absurd ⟨d,hd,hd0,hd1.trans hz1⟩ hex
   ·exact Int.le_refl _
theorem Zpb{C:List Int}{out:List Zc}(h:Zef C out=none):∀ d∈out,¬ (d.1=0∧d.2.2.1=C):=by
 intro d hd
 have:=List.findIdx?_eq_none_iff.1 h d hd
 simpa using this
def ZxL(out:List Zc):Prop:=∀ i j,i < out.length→j < out.length→(out.getD i Za).1=0→(out.getD j Za).1=0→(out.getD i Za).2.2.1=(out.getD j Za).2.2.1→i=j
theorem ZcZ{n:Nat}:∀ {l:List Zc},(∀ c∈l,Mk n c)→∀ x,x∈Zbu l↔Lm l x:=by
 intro l hl
 have key:∀ k,k≤l.length→(∀ x,x∈Zbu (l.take k)↔Lm (l.take k) x)∧ZxL (Zbu (l.take k)):=by
  intro k
  induction k with
  | zero=>exact fun _=>⟨fun x=>by simp[Zbu,Lm],fun i j hi=>by simp[Zbu] at hi⟩
  | succ k ih =>
    intro hk
    obtain⟨ih1,ih2⟩:=ih (by omega)
    have e:k < l.length:=by omega
    have hst:Zbu (l.take (k+1))=Zbc (Zbu (l.take k)) (l.getD k Za):=by
     rw[Zv Za e,Zbu,List.foldl_append];rfl
    rw[hst,Zv Za e]
    have hc:=hl _ (Zj (d:=Za) e)
    have hlk:∀ d∈l.take k,Mk n d:=fun d hd=>hl d (List.mem_of_mem_take hd)
    generalize l.getD k Za=c at *
    generalize l.take k=m at *
    generalize Zbu m=out at *
    by_cases h0:c.1=0
    ·have hls : Zbc out c = match Zef c.2.2.1 out with
      | some i=>out.set i (Zhh (out.getD i Za) c.2.2.2)
      | none=>out++[c]:=by
      unfold Zbc;exact if_neg fun h=>h h0
     rw[hls]
     rcases Z9 (Zef c.2.2.1 out) with hg | ⟨i,hg⟩
     ·rw[hg]
      have hno:=Zpb hg
      constructor
      ·intro x
       rw[ZgO hlk hc h0]
       simp only[List.mem_append,List.mem_singleton]
       constructor
       ·rintro (hx | rfl)
        ·exact .inl ⟨(ih1 x).1 hx,hno x hx⟩
        ·exact .inr ⟨h0,rfl,.inr ⟨fun ⟨d,hd,hd0,hd1⟩=>hno d ((ih1 d).2 hd) ⟨hd0,hd1⟩,rfl⟩⟩
       ·rintro (⟨hx,_⟩ | ⟨_,_,⟨d,hd,hd0,hd1,_⟩ | ⟨_,rfl⟩⟩)
        ·exact .inl ((ih1 x).2 hx)
        ·exact absurd ⟨hd0,hd1⟩ (hno d ((ih1 d).2 hd))
        ·exact .inr rfl
      ·intro i j hi hj hi0 hj0 hij
       simp only[List.length_append,List.length_cons,List.length_nil] at hi hj
       have hget:∀ i,i < out.length→(out++[c]).getD i Za=out.getD i Za:=fun i hi=>by
        rw[ZD (by simp;omega),ZD hi,List.getElem_append_left hi]
       have hlast:(out++[c]).getD out.length Za=c:=by
        rw[ZD (by simp)];simp
       by_cases h1:i < out.length<;>by_cases h2:j < out.length
       ·rw[hget i h1] at hi0 hij
        rw[hget j h2] at hj0 hij
        exact ih2 i j h1 h2 hi0 hj0 hij
       ·have:j=out.length:=by omega
        subst this
        rw[hget i h1] at hi0 hij
        rw[hlast] at hij
        exact absurd ⟨hi0,hij⟩ (hno _ (Zj h1))
       ·have:i=out.length:=by omega
        subst this
        rw[hget j h2] at hj0 hij
        rw[hlast] at hij
        exact absurd ⟨hj0,hij.symm⟩ (hno _ (Zj h2))
       ·omega
     ·rw[hg]
      simp only
      obtain⟨hi,hi0,hi1⟩:=ZgG hg
      have hgi:=ZD (d:=Za) hi
      rw[← hgi] at hi0 hi1
      have hdm:=Zj (d:=Za) hi
      constructor
      ·intro x
       rw[ZgO hlk hc h0]
       constructor
       ·intro hx
        obtain⟨j,hj,rfl⟩:=ZbR (d:=Za) hx
        rw[List.length_set] at hj
        by_cases hij:i=j
        ·subst hij
         have e1:(out.set i (Zhh (out.getD i Za) c.2.2.2)).getD i Za=Zhh (out.getD i Za) c.2.2.2:=by
          rw[ZD (by simpa using hj),List.getElem_set_self]
         rw[e1]
         exact .inr ⟨hi0,hi1,.inl ⟨_,(ih1 _).1 hdm,hi0,hi1,rfl⟩⟩
        ·have e1:(out.set i (Zhh (out.getD i Za) c.2.2.2)).getD j Za=out.getD j Za:=by
          rw[ZD (by simpa using hj),List.getElem_set_ne hij,ZD hj]
         rw[e1]
         refine .inl ⟨(ih1 _).1 (Zj hj),fun h=>hij (ih2 i j hi hj hi0 h.1 (hi1.trans h.2.symm))⟩
       ·rintro (⟨hx,hxc⟩ | ⟨hx0,hxc,⟨d,hd,hd0,hd1,rfl⟩ | ⟨hex,rfl⟩⟩)
        ·obtain⟨j,hj,rfl⟩:=ZbR (d:=Za) ((ih1 x).2 hx)
         have hij:i≠j:=fun e=>by subst e;exact hxc ⟨hi0,hi1⟩
         have e1:(out.set i (Zhh (out.getD i Za) c.2.2.2)).getD j Za=out.getD j Za:=by
          rw[ZD (by simpa using hj),List.getElem_set_ne hij,ZD hj]
         rw[← e1]
         exact Zj (by simpa using hj)
        ·have hdd:d=out.getD i Za:=Lm.uniq hlk hd ((ih1 _).1 hdm) hd0 hi0 (hd1.trans hi1.symm)
         rw[hdd]
         exact List.mem_iff_getElem.2 ⟨i,by simpa using hi,by rw[List.getElem_set_self]⟩
        ·exact absurd ⟨_,(ih1 _).1 hdm,hi0,hi1⟩ hex
      ·intro a b ha hb ha0 hb0 hab
       rw[List.length_set] at ha hb
       have hget:∀ j,j < out.length→((out.set i (Zhh (out.getD i Za) c.2.2.2)).getD j Za).1=(out.getD j Za).1∧((out.set i (Zhh (out.getD i Za) c.2.2.2)).getD j Za).2.2.1=(out.getD j Za).2.2.1:=fun j hj=>by
        by_cases hij:i=j
        ·subst hij
         rw[ZD (show i < (out.set i (Zhh (out.getD i Za) c.2.2.2)).length by simpa using hj),List.getElem_set_self]
         exact⟨rfl,rfl⟩
        ·rw[ZD (show j < (out.set i (Zhh (out.getD i Za) c.2.2.2)).length by simpa using hj),List.getElem_set_ne hij,ZD hj]
         exact⟨rfl,rfl⟩
       rw[(hget a ha).1] at ha0
       rw[(hget b hb).1] at hb0
       rw[(hget a ha).2,(hget b hb).2] at hab
       exact ih2 a b ha hb ha0 hb0 hab
    ·have hls:Zbc out c=out++[c]:=by unfold Zbc;exact if_pos h0
     rw[hls]
     constructor
     ·intro x
      rw[Zls h0,List.mem_append,List.mem_singleton,ih1]
     ·intro i j hi hj hi0 hj0 hij
      simp only[List.length_append,List.length_cons,List.length_nil] at hi hj
      have hget:∀ i,i < out.length→(out++[c]).getD i Za=out.getD i Za:=fun i hi=>by
       rw[ZD (by simp;omega),ZD hi,List.getElem_append_left hi]
      have hlast:(out++[c]).getD out.length Za=c:=by
       rw[ZD (by simp)];simp
      by_cases h1:i < out.length<;>by_cases h2:j < out.length
      ·rw[hget i h1] at hi0 hij
       rw[hget j h2] at hj0 hij
       exact ih2 i j h1 h2 hi0 hj0 hij
      ·have:j=out.length:=by omega
       subst this
       rw[hlast] at hj0
       exact absurd hj0 h0
      ·have:i=out.length:=by omega
       subst this
       rw[hlast] at hi0
       exact absurd hi0 h0
      ·omega
 have:=(key l.length (Nat.le_refl _)).1
 rwa [List.take_length] at this
theorem ZgX{α τ:Type}{V:Prop}{P:Nat→τ→Prop}(l:List α)(d:α)(f:τ→α→Option τ)(a:τ)(h0:P 0 a)(hs:∀ i t,i < l.length→P i t→(f t (l.getD i d)=none→V)∧∀ t',f t (l.getD i d)=some t'→P (i+1) t'):(l.foldlM f a=none→V)∧∀ t,l.foldlM f a=some t→P l.length t:=by
 have key:∀ k,k≤l.length→((l.take k).foldlM f a=none→V)∧∀ t,(l.take k).foldlM f a=some t→P k t:=by
  intro k
  induction k with
  | zero=>intro _;exact⟨fun h=>(by have h':some a=none:=h;cases h'),fun t h=>by (have h':some a=some t:=h);cases h';exact h0⟩
  | succ k ih =>
    intro hk
    obtain⟨ih1,ih2⟩:=ih (by omega)
    rcases Z9 ((l.take k).foldlM f a) with h | ⟨t,h⟩
    ·have:(l.take (k+1)).foldlM f a=none:=by
      rw[Zv d (show k < l.length by omega),List.foldlM_append,h];rfl
     rw[this]
     exact⟨fun _=>ih1 h,fun t h=>by cases h⟩
    ·have hs':=hs k t (by omega) (ih2 t h)
     rw[Zc7 (d:=d) h (by omega)]
     exact hs'
 have:=key l.length (Nat.le_refl _)
 rwa [List.take_length] at this
theorem Zjf{C:List Int}:∀ {l:List Zc} {k:Nat},ZcS C l k=none→∀ d∈l,¬ (d.1=0∧d.2.2.1=C)
 | [],k,_=>by simp
 | e::l,k,h=>by
   simp only[ZcS] at h
   rcases Z9 (ZcS C l (k+1)) with h1 | ⟨j,h1⟩
   ·rw[h1] at h
    simp only at h
    split at h
    ·cases h
    ·rename_i h2
     intro d hd
     rcases List.mem_cons.1 hd with rfl | hd
     ·exact h2
     ·exact Zjf h1 d hd
   ·rw[h1] at h;cases h
def ZwL(L:List Zc):Prop:=∀ c∈L,∀ d∈L,c.1=0→d.1=0→c.2.2.1=d.2.2.1→c=d
theorem Zmo{n:Nat}{L:List Zc}(hm:∀ c∈L,Mk n c)(hu:ZwL L):(Zew L=none→Zg1 (· ∈ L))∧∀ out,Zew L=some out→¬ Zg1 (· ∈ L)∧∀ x,x∈out↔MM (· ∈ L) x:=by
 let P:Nat→List Zc×(Int→Option Bool)→Prop:=fun i st =>
  (∀ k,k < i→k < L.length→((L.getD k Za).1=0→(∀ d∈L,d.1=0→d.2.2.1=Zb5 (L.getD k Za).2.2.1→0≤(L.getD k Za).2.2.2+d.2.2.2)∧(¬ Opp (· ∈ L) (L.getD k Za)→L.getD k Za∈st.1)∧(Opp (· ∈ L) (L.getD k Za)→Zlv (L.getD k Za)∈st.1))∧((L.getD k Za).1≠0→L.getD k Za∈st.1)) ∧
  (∀ x∈st.1,MM (· ∈ L) x) ∧
  (∀ k:Nat,st.2 (k:Int)=some true→k < L.length∧(L.getD k Za).1=0∧Opp (· ∈ L) (L.getD k Za)∧Zlv (L.getD k Za)∈st.1)
 have hinv:=ZgX (V:=Zg1 (· ∈ L)) (P:=P) (ZcN L) (0,Za) (ZbZ L) ([],fun _=>none) ⟨fun k hk=>absurd hk (by omega),by simp,fun k h=>by cases h⟩ (by
  rintro i ⟨out,gone⟩ hi ⟨hA,hB,hG⟩
  rw[Zb3] at hi
  rw[Zhb hi]
  have hcm:=Zj (d:=Za) hi
  have hput : ∀ x, MM (· ∈ L) x → ∀ g : Int → Option Bool, (∀ k : Nat, g (k : Int) = some true → k < L.length ∧ (L.getD k Za).1 = 0 ∧ Opp (· ∈ L) (L.getD k Za) ∧ Zlv (L.getD k Za) ∈ out ++ [x]) →
   (((L.getD i Za).1=0→(∀ d∈L,d.1=0→d.2.2.1=Zb5 (L.getD i Za).2.2.1→0≤(L.getD i Za).2.2.2+d.2.2.2)∧(¬ Opp (· ∈ L) (L.getD i Za)→L.getD i Za∈out++[x])∧(Opp (· ∈ L) (L.getD i Za)→Zlv (L.getD i Za)∈out++[x]))∧((L.getD i Za).1≠0→L.getD i Za∈out++[x]))→P (i+1) (out++[x],g):=by
   intro x hx g hg hi'
   refine⟨fun k hk hkl=>?_,fun y hy=>?_,hg⟩
   ·by_cases hki:k=i
    ·subst hki;exact hi'
    ·obtain⟨h1,h2⟩:=hA k (by omega) hkl
     exact⟨fun h0=>⟨(h1 h0).1,fun h=>List.mem_append.2 (.inl ((h1 h0).2.1 h)),fun h=>List.mem_append.2 (.inl ((h1 h0).2.2 h))⟩,fun h=>List.mem_append.2 (.inl (h2 h))⟩
   ·rcases List.mem_append.1 hy with hy | hy
    ·exact hB y hy
    ·simp only[List.mem_singleton] at hy;subst hy;exact hx
  have hG':∀ x,∀ k:Nat,gone (k:Int)=some true→k < L.length∧(L.getD k Za).1=0∧Opp (· ∈ L) (L.getD k Za)∧Zlv (L.getD k Za)∈out++[x]:=fun x k h=>by
   obtain⟨h1,h2,h3,h4⟩:=hG k h
   exact⟨h1,h2,h3,List.mem_append.2 (.inl h4)⟩
  have hlast:∀ x:Zc,x∈out++[x]:=fun x=>by simp
  simp only[ZbZ]
  by_cases hg:(gone (i:Int)).getD false=true
  ·rw[if_pos hg]
   refine⟨fun h=>(by cases h),fun t' ht'=>?_⟩
   cases ht'
   have hgs:gone (i:Int)=some true:=by
    rcases Z9 (gone (i:Int)) with h | ⟨b,h⟩
    ·rw[h] at hg;cases hg
    ·rw[h] at hg ⊢;simp only[Option.getD_some] at hg;rw[hg]
   obtain⟨h1,h2,h3,h4⟩:=hG i hgs
   refine⟨fun k hk hkl=>?_,hB,hG⟩
   by_cases hki:k=i
   ·subst hki
    refine⟨fun h0=>⟨fun d hd hd0 hd1=>?_,fun h=>absurd h3 h,fun _=>h4⟩,fun h=>absurd h2 h⟩
    obtain⟨d',hd',hd0',hd1',hd2'⟩:=h3
    have:d=d':=hu d hd d' hd' hd0 hd0' (hd1.trans hd1'.symm)
    subst this
    omega
   ·exact hA k (by omega) hkl
  ·rw[if_neg hg]
   by_cases h0:(L.getD i Za).1=0
   ·rw[if_neg (fun h=>h h0)]
    have hmk:=hm _ hcm
    rcases Z9 (ZcS (Zb5 (L.getD i Za).2.2.1) L 0) with hj | ⟨j,hj⟩
    ·rw[hj]
     have hno:=Zjf hj
     have hnopp:¬ Opp (· ∈ L) (L.getD i Za):=fun ⟨d,hd,hd0,hd1,_⟩=>hno d hd ⟨hd0,hd1⟩
     refine⟨fun h=>(by cases h),fun t' ht'=>?_⟩
     cases ht'
     exact hput _ (.inl ⟨hcm,fun _=>hnopp⟩) _ (hG' _) ⟨fun _=>⟨fun d hd hd0 hd1=>absurd ⟨hd0,hd1⟩ (hno d hd),fun _=>hlast _,fun h=>absurd h hnopp⟩,fun h=>absurd h0 h⟩
    ·rw[hj]
     obtain⟨_,hj1,hj2,hj3⟩:=Zft hj
     simp only[Nat.sub_zero] at hj1 hj2 hj3
     rw[← ZD (d:=Za) hj1] at hj2 hj3
     have hdm:=Zj (d:=Za) hj1
     simp only
     have huj:∀ d∈L,d.1=0→d.2.2.1=Zb5 (L.getD i Za).2.2.1→d=L.getD j Za:=fun d hd hd0 hd1=>hu d hd _ hdm hd0 hj2 (hd1.trans hj3.symm)
     by_cases h1:(L.getD i Za).2.2.2+(L.getD j Za).2.2.2 < 0
     ·rw[if_pos h1]
      exact⟨fun _=>⟨_,_,hcm,hdm,h0,hj2,hj3,h1⟩,fun t' h=>by cases h⟩
     ·rw[if_neg h1]
      by_cases h2:(L.getD i Za).2.2.2+(L.getD j Za).2.2.2=0
      ·rw[if_pos h2]
       have hopp:Opp (· ∈ L) (L.getD i Za):=⟨_,hdm,hj2,hj3,h2⟩
       have hteq:=ZoB (hmk.gcd h0) hj3 h2
       refine⟨fun h=>(by cases h),fun t' ht'=>?_⟩
       cases ht'
       refine hput (Zlv (L.getD i Za)) (.inr ⟨_,hcm,h0,hopp,rfl⟩) _ (fun k hk=>?_) ⟨fun _=>⟨fun d hd hd0 hd1=>?_,fun h=>absurd hopp h,fun _=>hlast _⟩,fun h=>absurd h0 h⟩
       ·simp only[ZdA] at hk
        by_cases hkj:(k:Int)=(j:Int)
        ·have:k=j:=by omega
         subst this
         refine⟨hj1,hj2,⟨_,hcm,h0,?_,by omega⟩,?_⟩
         ·rw[hj3,Zde]
         ·rw[hteq];exact hlast _
        ·rw[if_neg hkj] at hk
         exact hG' _ k hk
       ·rw[huj d hd hd0 hd1];omega
      ·rw[if_neg h2]
       have hnopp:¬ Opp (· ∈ L) (L.getD i Za):=fun ⟨d,hd,hd0,hd1,hd2⟩=>by
        rw[huj d hd hd0 hd1] at hd2;exact h2 hd2
       refine⟨fun h=>(by cases h),fun t' ht'=>?_⟩
       cases ht'
       refine hput _ (.inl ⟨hcm,fun _=>hnopp⟩) _ (hG' _) ⟨fun _=>⟨fun d hd hd0 hd1=>?_,fun _=>hlast _,fun h=>absurd h hnopp⟩,fun h=>absurd h0 h⟩
       rw[huj d hd hd0 hd1];omega
   ·rw[if_pos h0]
    refine⟨fun h=>(by cases h),fun t' ht'=>?_⟩
    cases ht'
    exact hput _ (.inl ⟨hcm,fun h=>absurd h h0⟩) _ (hG' _) ⟨fun h=>absurd h h0,fun _=>hlast _⟩)
 have hpf:Zew L=((ZcN L).foldlM (ZbZ L) ([],fun _=>none)).map (·.1):=rfl
 rw[hpf]
 rcases Z9 ((ZcN L).foldlM (ZbZ L) ([],fun _=>none)) with h | ⟨st,h⟩
 ·rw[h]
  exact⟨fun _=>hinv.1 h,fun out h=>by cases h⟩
 ·rw[h]
  refine⟨fun h=>(by cases h),fun out ho=>?_⟩
  cases ho
  obtain⟨hA,hB,hG⟩:=hinv.2 st h
  rw[Zb3] at hA
  have hA':∀ c∈L,(c.1=0→(∀ d∈L,d.1=0→d.2.2.1=Zb5 c.2.2.1→0≤c.2.2.2+d.2.2.2)∧(¬ Opp (· ∈ L) c→c∈st.1)∧(Opp (· ∈ L) c→Zlv c∈st.1))∧(c.1≠0→c∈st.1):=fun c hc=>by
   obtain⟨k,hk,rfl⟩:=ZbR (d:=Za) hc
   exact hA k hk hk
  refine⟨?_,fun x=>⟨hB x,?_⟩⟩
  ·rintro⟨c,d,hc,hd,h0,h1,h2,h3⟩
   have:=((hA' c hc).1 h0).1 d hd h1 h2
   omega
  ·rintro (⟨hx,hx2⟩ | ⟨c,hc,h0,ho,rfl⟩)
   ·by_cases h0:x.1=0
    ·exact ((hA' x hx).1 h0).2.1 (hx2 h0)
    ·exact (hA' x hx).2 h0
   ·exact ((hA' c hc).1 h0).2.2 ho
theorem ZkZ{C:List Int}{l:List Zc}(h:eqK C l=none):∀ e∈l,¬ (e.1=1∧e.2.2.1=C):=by
 intro e he
 simp only[eqK,Option.map_eq_none_iff,List.find?_eq_none,List.mem_reverse,decide_eq_true_eq] at h
 exact h e he
theorem ZfL{n:Nat}{e f:Zc}(he:Mk n e)(hf:Mk n f)(h1:e.1=1)(h2:f.1=1):f.2.2.1≠Zb5 e.2.2.1:=fun h=>by
 have a:=he.1.2.2 h1
 have b:=hf.1.2.2 h2
 have g:=he.1.2.1 (by omega)
 rw[h,Zdv (by omega),a] at b
 cases b
theorem Zh4{n:Nat}{M:List Zc}(hm:∀ c∈M,Mk n c):(Zb2 M=none→ZfO (· ∈ M))∧∀ out,Zb2 M=some out→¬ ZfO (· ∈ M)∧∀ x,x∈out↔Zt0 (· ∈ M) x:=by
 have hmt:∀ {i:Nat} {e:Zc},e∈M.take i→e∈M:=fun h=>List.mem_of_mem_take h
 have h1:=ZgX (V:=ZfO (· ∈ M)) (P:=fun i seen=>seen=M.take i∧∀ e∈M.take i,∀ f∈M.take i,e.1=1→f.1=1→e.2.2.1=f.2.2.1→e.2.2.2=f.2.2.2) M Za ZdQ [] ⟨rfl,by simp⟩ (by
  rintro i seen hi ⟨rfl,hc⟩
  have hcm:=Zj (d:=Za) hi
  have hts:=Zv Za hi
  have hnew:∀ c:Zc,(∀ e∈M.take i,e.1=1→c.1=1→e.2.2.1=c.2.2.1→e.2.2.2=c.2.2.2)→∀ e∈M.take i++[c],∀ f∈M.take i++[c],e.1=1→f.1=1→e.2.2.1=f.2.2.1→e.2.2.2=f.2.2.2:=fun c h e he f hf e1 f1 ef=>by
   simp only[List.mem_append,List.mem_singleton] at he hf
   rcases he with he | rfl<;>rcases hf with hf | rfl
   ·exact hc e he f hf e1 f1 ef
   ·exact h e he e1 f1 ef
   ·exact (h f hf f1 e1 ef.symm).symm
   ·rfl
  rw[hts]
  unfold ZdQ
  by_cases h0:(M.getD i Za).1=1
  ·rw[if_neg (fun h=>h h0)]
   rcases Z9 (eqK (M.getD i Za).2.2.1 (M.take i)) with hq | ⟨k,hq⟩
   ·rw[hq]
    have hno:=ZkZ hq
    refine⟨fun h=>(by cases h),fun t' ht'=>?_⟩
    cases ht'
    exact⟨rfl,hnew _ fun e he e1 _ ee=>absurd ⟨e1,ee⟩ (hno e he)⟩
   ·rw[hq]
    obtain⟨e,he,e1,e2,e3⟩:=ZsG hq
    simp only
    by_cases hk:k=(M.getD i Za).2.2.2
    ·rw[if_neg (fun h=>h hk)]
     refine⟨fun h=>(by cases h),fun t' ht'=>?_⟩
     cases ht'
     refine⟨rfl,hnew _ fun f hf f1 _ ff=>?_⟩
     rw[hc f hf e he f1 e1 (ff.trans e2.symm),e3,hk]
    ·rw[if_pos hk]
     exact⟨fun _=>.inl ⟨e,_,hmt he,hcm,e1,h0,e2,by rw[e3];exact hk⟩,fun t' h=>by cases h⟩
  ·rw[if_pos h0]
   refine⟨fun h=>(by cases h),fun t' ht'=>?_⟩
   cases ht'
   exact⟨rfl,hnew _ fun e he _ h _=>absurd h h0⟩)
 unfold Zb2
 rcases Z9 (M.foldlM ZdQ []) with he | ⟨seen,he⟩
 ·rw[he]
  exact⟨fun _=>h1.1 he,fun out h=>by cases h⟩
 ·rw[he]
  simp only
  obtain⟨_,hcf⟩:=h1.2 seen he
  rw[List.take_length] at hcf
  clear h1 he
  have h2:=ZgX (V:=ZfO (· ∈ M)) (P:=fun i out=>(∀ x,x∈out↔x∈M.take i∧(x.1=0→∀ e∈M,e.1=1→e.2.2.1≠x.2.2.1∧e.2.2.1≠Zb5 x.2.2.1))∧∀ c∈M.take i,c.1=0→∀ e∈M,e.1=1→(e.2.2.1=c.2.2.1→e.2.2.2≤c.2.2.2)∧(e.2.2.1=Zb5 c.2.2.1→0≤c.2.2.2+e.2.2.2)) M Za (ZdG M) [] ⟨by simp,by simp⟩ (by
   rintro i out hi ⟨hA,hB⟩
   have hcm:=Zj (d:=Za) hi
   have hts:=Zv Za hi
   have hput:((M.getD i Za).1=0→∀ e∈M,e.1=1→e.2.2.1≠(M.getD i Za).2.2.1∧e.2.2.1≠Zb5 (M.getD i Za).2.2.1)→(∀ x,x∈out++[M.getD i Za]↔x∈M.take i++[M.getD i Za]∧(x.1=0→∀ e∈M,e.1=1→e.2.2.1≠x.2.2.1∧e.2.2.1≠Zb5 x.2.2.1)):=fun h x=>by
    simp only[List.mem_append,List.mem_singleton,hA]
    constructor
    ·rintro (⟨h1,h2⟩ | rfl)
     ·exact⟨.inl h1,h2⟩
     ·exact⟨.inr rfl,h⟩
    ·rintro⟨h1 | h1,h2⟩
     ·exact .inl ⟨h1,h2⟩
     ·exact .inr h1
   have hdrop:((M.getD i Za).1=0∧∃ e∈M,e.1=1∧(e.2.2.1=(M.getD i Za).2.2.1∨e.2.2.1=Zb5 (M.getD i Za).2.2.1))→(∀ x,x∈out↔x∈M.take i++[M.getD i Za]∧(x.1=0→∀ e∈M,e.1=1→e.2.2.1≠x.2.2.1∧e.2.2.1≠Zb5 x.2.2.1)):=fun ⟨h0,e,he,he1,he2⟩ x=>by
    simp only[List.mem_append,List.mem_singleton,hA]
    constructor
    ·rintro⟨h1,h2⟩;exact⟨.inl h1,h2⟩
    ·rintro⟨h1 | rfl,h2⟩
     ·exact⟨h1,h2⟩
     ·have:=h2 h0 e he he1
      exact (he2.elim this.1 this.2).elim
   have hnew:((M.getD i Za).1=0→∀ e∈M,e.1=1→(e.2.2.1=(M.getD i Za).2.2.1→e.2.2.2≤(M.getD i Za).2.2.2)∧(e.2.2.1=Zb5 (M.getD i Za).2.2.1→0≤(M.getD i Za).2.2.2+e.2.2.2))→∀ c∈M.take i++[M.getD i Za],c.1=0→∀ e∈M,e.1=1→(e.2.2.1=c.2.2.1→e.2.2.2≤c.2.2.2)∧(e.2.2.1=Zb5 c.2.2.1→0≤c.2.2.2+e.2.2.2):=fun h c hc=>by
    simp only[List.mem_append,List.mem_singleton] at hc
    rcases hc with hc | rfl
    ·exact hB c hc
    ·exact h
   rw[hts]
   unfold ZdG
   by_cases h0:(M.getD i Za).1=0
   ·rw[if_neg (fun h=>h h0)]
    rcases Z9 (eqK (M.getD i Za).2.2.1 M) with hq | ⟨k,hq⟩
    ·rw[hq]
     have hno:=ZkZ hq
     simp only
     rcases Z9 (eqK (Zb5 (M.getD i Za).2.2.1) M) with hq2 | ⟨k,hq2⟩
     ·rw[hq2]
      have hno2:=ZkZ hq2
      refine⟨fun h=>(by cases h),fun t' ht'=>?_⟩
      cases ht'
      exact⟨hput fun _ e he e1=>⟨fun h=>hno e he ⟨e1,h⟩,fun h=>hno2 e he ⟨e1,h⟩⟩,hnew fun _ e he e1=>⟨fun h=>absurd ⟨e1,h⟩ (hno e he),fun h=>absurd ⟨e1,h⟩ (hno2 e he)⟩⟩
     ·rw[hq2]
      obtain⟨e,he,e1,e2,e3⟩:=ZsG hq2
      simp only
      by_cases hk:(M.getD i Za).2.2.2+k < 0
      ·rw[if_pos hk]
       exact⟨fun _=>.inr ⟨_,e,hcm,he,h0,e1,.inr ⟨e2,by rw[e3];exact hk⟩⟩,fun t' h=>by cases h⟩
      ·rw[if_neg hk]
       refine⟨fun h=>(by cases h),fun t' ht'=>?_⟩
       cases ht'
       refine⟨hdrop ⟨h0,e,he,e1,.inr e2⟩,hnew fun _ f hf f1=>⟨fun h=>absurd ⟨f1,h⟩ (hno f hf),fun h=>?_⟩⟩
       rw[hcf f hf e he f1 e1 (h.trans e2.symm),e3];omega
    ·rw[hq]
     obtain⟨e,he,e1,e2,e3⟩:=ZsG hq
     simp only
     by_cases hk:(M.getD i Za).2.2.2 < k
     ·rw[if_pos hk]
      exact⟨fun _=>.inr ⟨_,e,hcm,he,h0,e1,.inl ⟨e2,by rw[e3];exact hk⟩⟩,fun t' h=>by cases h⟩
     ·rw[if_neg hk]
      refine⟨fun h=>(by cases h),fun t' ht'=>?_⟩
      cases ht'
      refine⟨hdrop ⟨h0,e,he,e1,.inl e2⟩,hnew fun _ f hf f1=>⟨fun h=>?_,fun h=>?_⟩⟩
      ·rw[hcf f hf e he f1 e1 (h.trans e2.symm),e3];omega
      ·exact absurd (e2▸h) (ZfL (hm e he) (hm f hf) e1 f1)
   ·rw[if_pos h0]
    refine⟨fun h=>(by cases h),fun t' ht'=>?_⟩
    cases ht'
    exact⟨hput fun h=>absurd h h0,hnew fun h=>absurd h h0⟩)
  refine⟨h2.1,fun out ho=>?_⟩
  obtain⟨hA,hB⟩:=h2.2 out ho
  rw[List.take_length] at hA hB
  refine⟨?_,fun x=>hA x⟩
  rintro (⟨e,f,he,hf,e1,f1,ef,hk⟩ | ⟨c,e,hc,he,c0,e1,⟨h3,h4⟩ | ⟨h3,h4⟩⟩)
  ·exact hk (hcf e he f hf e1 f1 ef)
  ·have:=(hB c hc c0 e he e1).1 h3;omega
  ·have:=(hB c hc c0 e he e1).2 h3;omega
theorem ZlW{c:Zc}(h0:(ZbD c).2=0)(h1:(ZbD c).1.1=0):(ZbD c).1.2.1=0:=by
 have hs:∀ b,(ZcI b).2≠0:=fun b=>by cases b<;>simp[ZcI]
 unfold ZbD at *
 split at h0
 ·rename_i hk
  rw[if_pos hk]
  unfold geF at *
  split
  ·rfl
  ·rfl
 ·rename_i hk
  rw[if_neg hk] at h1 ⊢
  split at h0
  ·rename_i hk2
   rw[if_pos hk2] at h1 ⊢
   unfold eqF at *
   split
   ·rfl
   ·rfl
  ·rename_i hk2
   rw[if_neg hk2] at h1 ⊢
   unfold ZkX at *
   split at h1
   ·rename_i ha
    rw[if_pos ha];rfl
   ·rename_i ha
    rw[if_neg ha]
    split at h1
    ·rename_i hb
     rw[if_pos hb];rfl
    ·cases h1
theorem Zjh{p:List Zc}{n:Nat}(h:ZaD p)(hd:Zek p n):∀ c∈ZbN p,Mk n c:=by
 intro c hc
 refine⟨ZmL h hd c hc,((ZoL h).2 c hc).k3,fun h0=>?_⟩
 simp only[ZbN,List.mem_map,List.mem_filter] at hc
 obtain⟨r,⟨⟨d,hd2,rfl⟩,hr⟩,rfl⟩:=hc
 exact ZlW (by simpa using hr) h0
theorem Znd{a b:List Zc}(h:K3 a)(hab:∀ x,x∈a↔x∈b):ZaU a=ZaU b:=by
 have hb:K3 b:=fun c hc=>h c ((hab c).2 hc)
 exact ZqU (ZhH h) (ZhH hb) fun c=>by rw[ZcL h,ZcL hb,hab]
theorem Zry{n:Nat}{d c:Zc}(h:Mk n d):Mk n (Zhh d c.2.2.2):=h
theorem ZdK {p : List Zc} {n : Nat} (hb : ZaD p) (hd : Zek p n) (hv : ZaF p = false) :
 (Zg1 (Lm (ZbN p))∨ZfO (MM (Lm (ZbN p)))→Zac p=([],true,0)) ∧
 (¬ Zg1 (Lm (ZbN p))→¬ ZfO (MM (Lm (ZbN p)))→∀ m,(∀ x,x∈m↔Zt0 (MM (Lm (ZbN p))) x)→Zac p=if ((ZbN p).any (fun c=>!Zi c)||decide (96 < (ZaU m).length))=true then ([],false,3) else (ZaU m,false,0)):=by
 have hl:=Zjh hb hd
 have e:(fun x=>x∈Zbu (ZbN p))=Lm (ZbN p):=funext fun x=>propext (ZcZ hl x)
 have hL:∀ c∈Zbu (ZbN p),Mk n c:=Zhz (fun d c hd _=>Zry hd) hl
 have hu:ZwL (Zbu (ZbN p)):=fun c hc d hd h0 h1 h=>Lm.uniq hl ((ZcZ hl c).1 hc) ((ZcZ hl d).1 hd) h0 h1 h
 obtain⟨hp1,hp2⟩:=Zmo hL hu
 rw[e] at hp1 hp2
 have ht:=Zca p
 rw[hv] at ht
 simp only[Bool.false_eq_true,if_false] at ht
 rcases Z9 (Zew (Zbu (ZbN p))) with h1 | ⟨M,h1⟩
 ·rw[h1] at ht
  exact⟨fun _=>ht,fun h=>absurd (hp1 h1) h⟩
 ·obtain⟨hnv,hM⟩:=hp2 M h1
  have eM:(fun x=>x∈M)=MM (Lm (ZbN p)):=funext fun x=>propext (hM x)
  have hMk:∀ c∈M,Mk n c:=ZmV (fun c h0 hc=>(Zdc hc h0).1) hL h1
  obtain⟨hs1,hs2⟩:=Zh4 hMk
  rw[eM] at hs1 hs2
  rw[h1,Option.bind_some] at ht
  rcases Z9 (Zb2 M) with h2 | ⟨out,h2⟩
  ·rw[h2] at ht
   exact⟨fun _=>ht,fun _ h=>absurd (hs1 h2) h⟩
  ·obtain⟨hnv2,hO⟩:=hs2 out h2
   rw[h2] at ht
   refine⟨fun h=>(h.elim hnv hnv2).elim,fun _ _ m hm=>?_⟩
   have hk3:K3 out:=fun c hc=>(ZlN (P:=Mk n) hMk h2 c hc).2.1
   have:ZaU out=ZaU m:=Znd hk3 fun x=>by rw[hO,hm]
   rw[← this];exact ht
theorem Zo1{l:List Zc}{x:Zc}(h0:x.1≠0):Lm l x↔x∈l:=⟨fun h=>h.1,fun h=>⟨h,fun e=>absurd e h0⟩⟩
theorem ZdO{a b:Zc}:Zbp a b=1↔a.2.2.1=b.2.2.1:=by
 unfold Zbp
 split
 ·rename_i h;exact⟨fun _=>h,fun _=>rfl⟩
 ·rename_i h
  split
  ·exact⟨fun h=>(by cases h),fun e=>absurd e h⟩
  ·exact⟨fun h=>(by cases h),fun e=>absurd e h⟩
theorem ZfV{a b:Zc}(h:Za1 a.2.2.1=1):Zbp a b=-1↔b.2.2.1=Zb5 a.2.2.1:=by
 unfold Zbp
 split
 ·rename_i h1
  exact⟨fun h=>(by cases h),fun e=>absurd (e.symm.trans h1.symm) (Zq3 h)⟩
 ·split
  ·rename_i h2;exact⟨fun _=>by rw[h2,Zde],fun _=>rfl⟩
  ·rename_i h2;exact⟨fun h=>(by cases h),fun e=>absurd (by rw[e,Zde]) h2⟩
theorem ZeO{a b:Zc}:Zbp a b=0↔a.2.2.1≠b.2.2.1∧a.2.2.1≠Zb5 b.2.2.1:=by
 unfold Zbp
 split
 ·rename_i h1;exact⟨fun h=>(by cases h),fun e=>absurd h1 e.1⟩
 ·rename_i h1
  split
  ·rename_i h2;exact⟨fun h=>(by cases h),fun e=>absurd h2 e.2⟩
  ·rename_i h2;exact⟨fun _=>⟨h1,h2⟩,fun _=>rfl⟩
def Zdy(out:List Zc)(c:Zc):List Zc:=out.map fun d=>if d.2.2.1=c.2.2.1 then Zhh d c.2.2.2 else d
def Zgi(out:List Zc)(c:Zc):Bool:=out.any fun d=>decide (d.2.2.1=c.2.2.1)
def ZkK(out:List Zc)(c:Zc):List Zc:=if Zgi out c=true then Zdy out c else out++[c]
theorem ZlT{n:Nat}{m out:List Zc}{c:Zc}(hm:∀ d∈m,Mk n d∧d.1=0)(hc:Mk n c)(h0:c.1=0)(ho:∀ x,x∈out↔Lm m x)(x:Zc):x∈ZkK out c↔Lm (m++[c]) x:=by
 rw[ZgO (fun d hd=>(hm d hd).1) hc h0]
 have hg:∀ d∈out,d.1=0:=fun d hd=>(hm d ((ho d).1 hd).1).2
 unfold ZkK
 by_cases hh:Zgi out c=true
 ·rw[if_pos hh]
  obtain⟨e,he,he1⟩:=List.any_eq_true.1 hh
  simp only[decide_eq_true_eq] at he1
  simp only[Zdy,List.mem_map]
  constructor
  ·rintro⟨d,hd,rfl⟩
   by_cases h1:d.2.2.1=c.2.2.1
   ·rw[if_pos h1]
    exact .inr ⟨hg d hd,h1,.inl ⟨d,(ho d).1 hd,hg d hd,h1,rfl⟩⟩
   ·rw[if_neg h1]
    exact .inl ⟨(ho d).1 hd,fun h=>h1 h.2⟩
  ·rintro (⟨hx,hxc⟩ | ⟨hx0,hxc,⟨d,hd,hd0,hd1,rfl⟩ | ⟨hex,rfl⟩⟩)
   ·refine⟨x,(ho x).2 hx,if_neg fun h=>hxc ⟨hg x ((ho x).2 hx),h⟩⟩
   ·exact⟨d,(ho d).2 hd,if_pos hd1⟩
   ·exact absurd ⟨e,(ho e).1 he,hg e he,he1⟩ hex
 ·rw[if_neg hh]
  have hno:∀ d∈out,d.2.2.1≠c.2.2.1:=fun d hd h=>hh (List.any_eq_true.2 ⟨d,hd,decide_eq_true h⟩)
  simp only[List.mem_append,List.mem_singleton]
  constructor
  ·rintro (hx | rfl)
   ·exact .inl ⟨(ho x).1 hx,fun h=>hno x hx h.2⟩
   ·exact .inr ⟨h0,rfl,.inr ⟨fun ⟨d,hd,hd0,hd1⟩=>hno d ((ho d).2 hd) hd1,rfl⟩⟩
  ·rintro (⟨hx,hxc⟩ | ⟨hx0,hxc,⟨d,hd,hd0,hd1,rfl⟩ | ⟨hex,rfl⟩⟩)
   ·exact .inl ((ho x).2 hx)
   ·exact absurd hd1 (hno d ((ho d).2 hd))
   ·exact .inr rfl
def ZlG(N i j a b:Nat):Prop:=a < b∧b < N∧(a < i∨(a=i∧b < j))
theorem Zc9{N i j a b:Nat}(h:i < j)(hj:j < N):ZlG N i (j+1) a b↔ZlG N i j a b∨(a=i∧b=j):=by
 unfold ZlG;omega
theorem ZkQ{N i a b:Nat}:ZlG N i N a b↔ZlG N (i+1) (i+2) a b:=by
 unfold ZlG;omega
theorem ZlA{N a b:Nat}:¬ ZlG N 0 1 a b:=by unfold ZlG;omega
theorem Zs3{N i a b:Nat}(h:N≤i):ZlG N i (i+1) a b↔a < b∧b < N:=by unfold ZlG;omega
def ZtW(G:List Zc)(a b:Nat):Prop:=Zbp (G.getD a Za) (G.getD b Za)=-1∧(G.getD a Za).2.2.2+(G.getD b Za).2.2.2=0
structure Zfc (G eq:List Zc) (i j:Nat) (eqs:List Zc) (gone:List Bool):Prop where
 nn:∀ a b,ZlG G.length i j a b→Zbp (G.getD a Za) (G.getD b Za)=-1→0≤(G.getD a Za).2.2.2+(G.getD b Za).2.2.2
 ee:∀ x,x∈eqs↔x∈eq∨∃ a b,ZlG G.length i j a b∧ZtW G a b∧x=Zlv (G.getD a Za)
 gl:gone.length=G.length
 gg:∀ k,k < G.length→(gone.getD k false=true↔∃ a b,ZlG G.length i j a b∧ZtW G a b∧(k=a∨k=b))
theorem Zfc.nil(G eq:List Zc):Zfc G eq 0 1 eq (List.replicate G.length false) :=
 ⟨fun a b h=>absurd h ZlA,fun x=>⟨.inl,fun h=>h.elim id fun ⟨a,b,h,_⟩=>absurd h ZlA⟩,by simp,fun k hk=>by
  rw[ZD (by simpa using hk)]
  simp only[List.getElem_replicate,Bool.false_eq_true,false_iff]
  rintro⟨a,b,h,_⟩;exact ZlA h⟩
theorem Zfc.row{G eq:List Zc}{i:Nat}{eqs:List Zc}{gone:List Bool}(h:Zfc G eq i G.length eqs gone):Zfc G eq (i+1) (i+2) eqs gone :=
 ⟨fun a b h1=>h.nn a b (ZkQ.2 h1),fun x=>(h.ee x).trans (by simp only[ZkQ]),h.gl,fun k hk=>(h.gg k hk).trans (by simp only[ZkQ])⟩
theorem Zfc.skip{G eq:List Zc}{i j:Nat}{eqs:List Zc}{gone:List Bool}(h:Zfc G eq i j eqs gone)(hij:i < j)(hj:j < G.length)(hs:Zbp (G.getD i Za) (G.getD j Za)=-1→0 < (G.getD i Za).2.2.2+(G.getD j Za).2.2.2):Zfc G eq i (j+1) eqs gone:=by
 have hno:¬ ZtW G i j:=fun ⟨h1,h2⟩=>by have:=hs h1;omega
 have hex:∀ P:Nat→Nat→Prop,(∃ a b,ZlG G.length i (j+1) a b∧ZtW G a b∧P a b)↔∃ a b,ZlG G.length i j a b∧ZtW G a b∧P a b:=fun P=>by
  constructor
  ·rintro⟨a,b,h1,h2,h3⟩
   rcases (Zc9 hij hj).1 h1 with h1 | ⟨rfl,rfl⟩
   ·exact⟨a,b,h1,h2,h3⟩
   ·exact absurd h2 hno
  ·rintro⟨a,b,h1,h2,h3⟩
   exact⟨a,b,(Zc9 hij hj).2 (.inl h1),h2,h3⟩
 refine⟨fun a b h1 h2=>?_,fun x=>(h.ee x).trans (or_congr Iff.rfl (hex _).symm),h.gl,fun k hk=>(h.gg k hk).trans (hex _).symm⟩
 rcases (Zc9 hij hj).1 h1 with h1 | ⟨rfl,rfl⟩
 ·exact h.nn a b h1 h2
 ·have:=hs h2;omega
theorem Zfc.put{G eq:List Zc}{i j:Nat}{eqs:List Zc}{gone:List Bool}(h:Zfc G eq i j eqs gone)(hij:i < j)(hj:j < G.length)(hs:ZtW G i j):Zfc G eq i (j+1) (eqs++[Zlv (G.getD i Za)]) ((gone.set i true).set j true):=by
 have hex:∀ P:Nat→Nat→Prop,(∃ a b,ZlG G.length i (j+1) a b∧ZtW G a b∧P a b)↔(∃ a b,ZlG G.length i j a b∧ZtW G a b∧P a b)∨P i j:=fun P=>by
  constructor
  ·rintro⟨a,b,h1,h2,h3⟩
   rcases (Zc9 hij hj).1 h1 with h1 | ⟨rfl,rfl⟩
   ·exact .inl ⟨a,b,h1,h2,h3⟩
   ·exact .inr h3
  ·rintro (⟨a,b,h1,h2,h3⟩ | h3)
   ·exact⟨a,b,(Zc9 hij hj).2 (.inl h1),h2,h3⟩
   ·exact⟨i,j,(Zc9 hij hj).2 (.inr ⟨rfl,rfl⟩),hs,h3⟩
 refine⟨fun a b h1 h2=>?_,fun x=>?_,by simpa using h.gl,fun k hk=>?_⟩
 ·rcases (Zc9 hij hj).1 h1 with h1 | ⟨rfl,rfl⟩
  ·exact h.nn a b h1 h2
  ·have:=hs.2;omega
 ·rw[hex,List.mem_append,List.mem_singleton,h.ee,or_assoc]
 ·rw[hex,← h.gg k hk]
  have hgl:=h.gl
  rw[ZD (by simp;omega)]
  by_cases h1:j=k
  ·subst h1
   rw[List.getElem_set_self]
   exact⟨fun _=>.inr (.inr rfl),fun _=>rfl⟩
  ·rw[List.getElem_set_ne h1]
   by_cases h2:i=k
   ·subst h2
    rw[List.getElem_set_self]
    exact⟨fun _=>.inr (.inl rfl),fun _=>rfl⟩
   ·rw[List.getElem_set_ne h2,ZD (show k < gone.length by omega)]
    exact⟨.inl,fun h=>h.elim id fun h=>by omega⟩
structure Zml (L:Zc→Prop) (G eqs:List Zc) (gone:List Bool):Prop where
 nv:¬ Zg1 L
 ee:∀ x,x∈eqs↔MM L x∧x.1=1
 gl:gone.length=G.length
 gg:∀ k,k < G.length→(gone.getD k false=true↔Opp L (G.getD k Za))
theorem Zfc.done{n:Nat}{l G eq:List Zc}{eqs:List Zc}{gone:List Bool}(hl:∀ c∈l,Mk n c)(hG:∀ x,x∈G↔Lm l x∧x.1=0)(hq:∀ x,x∈eq↔x∈l∧x.1=1)(h:Zfc G eq G.length (G.length+1) eqs gone):Zml (Lm l) G eqs gone:=by
 have hmk:∀ a,a < G.length→Mk n (G.getD a Za)∧(G.getD a Za).1=0∧Lm l (G.getD a Za):=fun a ha=>by
  have:=(hG _).1 (Zj (d:=Za) ha)
  exact⟨hl _ this.1.1,this.2,this.1⟩
 have hsd:∀ a b,a < G.length→b < G.length→(Zbp (G.getD a Za) (G.getD b Za)=-1↔(G.getD b Za).2.2.1=Zb5 (G.getD a Za).2.2.1):=fun a b ha hb=>ZfV ((hmk a ha).1.gcd (hmk a ha).2.1)
 have hsym:∀ a b,a < G.length→b < G.length→(G.getD b Za).2.2.1=Zb5 (G.getD a Za).2.2.1→(G.getD a Za).2.2.1=Zb5 (G.getD b Za).2.2.1:=fun a b ha hb h=>by rw[h,Zde]
 have hne:∀ a b,a < G.length→b < G.length→(G.getD b Za).2.2.1=Zb5 (G.getD a Za).2.2.1→a≠b:=fun a b ha hb h e=>by
  subst e
  exact Zq3 ((hmk a ha).1.gcd (hmk a ha).2.1) h.symm
 have hpr:∀ a b,ZlG G.length G.length (G.length+1) a b↔a < b∧b < G.length:=fun a b=>Zs3 (Nat.le_refl _)
 have hOpp:∀ k,k < G.length→(Opp (Lm l) (G.getD k Za)↔∃ b,b < G.length∧(G.getD b Za).2.2.1=Zb5 (G.getD k Za).2.2.1∧(G.getD k Za).2.2.2+(G.getD b Za).2.2.2=0):=fun k hk=>by
  constructor
  ·rintro⟨d,hd,hd0,hd1,hd2⟩
   obtain⟨b,hb,rfl⟩:=ZbR (d:=Za) ((hG d).2 ⟨hd,hd0⟩)
   exact⟨b,hb,hd1,hd2⟩
  ·rintro⟨b,hb,h1,h2⟩
   exact⟨_,(hmk b hb).2.2,(hmk b hb).2.1,h1,h2⟩
 refine⟨?_,fun x=>?_,h.gl,fun k hk=>?_⟩
 ·rintro⟨c,d,hc,hd,c0,d0,hcd,hlt⟩
  obtain⟨a,ha,rfl⟩:=ZbR (d:=Za) ((hG c).2 ⟨hc,c0⟩)
  obtain⟨b,hb,rfl⟩:=ZbR (d:=Za) ((hG d).2 ⟨hd,d0⟩)
  rcases Nat.lt_or_gt_of_ne (hne a b ha hb hcd) with hab | hab
  ·have:=h.nn a b ((hpr a b).2 ⟨hab,hb⟩) ((hsd a b ha hb).2 hcd);omega
  ·have:=h.nn b a ((hpr b a).2 ⟨hab,ha⟩) ((hsd b a hb ha).2 (hsym a b ha hb hcd));omega
 ·rw[h.ee,hq]
  constructor
  ·rintro (⟨h1,h2⟩ | ⟨a,b,h1,⟨h2,h3⟩,rfl⟩)
   ·exact⟨.inl ⟨(Zo1 (by omega)).2 h1,fun h=>by omega⟩,h2⟩
   ·have ha:a < G.length:=by have:=(hpr a b).1 h1;omega
    have hb:b < G.length:=by have:=(hpr a b).1 h1;omega
    exact⟨.inr ⟨_,(hmk a ha).2.2,(hmk a ha).2.1,(hOpp a ha).2 ⟨b,hb,(hsd a b ha hb).1 h2,h3⟩,rfl⟩,(Zdc (hmk a ha).1 (hmk a ha).2.1).2⟩
  ·rintro⟨⟨h1,h2⟩ | ⟨c,hc,c0,ho,rfl⟩,hx1⟩
   ·exact .inl ⟨h1.1,hx1⟩
   ·obtain⟨k,hk,rfl⟩:=ZbR (d:=Za) ((hG c).2 ⟨hc,c0⟩)
    obtain⟨b,hb,h3,h4⟩:=(hOpp k hk).1 ho
    right
    rcases Nat.lt_or_gt_of_ne (hne k b hk hb h3) with hkb | hkb
    ·exact⟨k,b,(hpr k b).2 ⟨hkb,hb⟩,⟨(hsd k b hk hb).2 h3,h4⟩,rfl⟩
    ·exact⟨b,k,(hpr b k).2 ⟨hkb,hk⟩,⟨(hsd b k hb hk).2 (hsym k b hk hb h3),by omega⟩,(ZoB ((hmk k hk).1.gcd c0) h3 h4).symm⟩
 ·rw[h.gg k hk,hOpp k hk]
  constructor
  ·rintro⟨a,b,h1,⟨h2,h3⟩,h4⟩
   have ha:a < G.length:=by have:=(hpr a b).1 h1;omega
   have hb:b < G.length:=by have:=(hpr a b).1 h1;omega
   have h5:=(hsd a b ha hb).1 h2
   rcases h4 with rfl | rfl
   ·exact⟨b,hb,h5,h3⟩
   ·exact⟨a,ha,hsym a k ha hb h5,by omega⟩
  ·rintro⟨b,hb,h3,h4⟩
   rcases Nat.lt_or_gt_of_ne (hne k b hk hb h3) with hkb | hkb
   ·exact⟨k,b,(hpr k b).2 ⟨hkb,hb⟩,⟨(hsd k b hk hb).2 h3,h4⟩,.inl rfl⟩
   ·exact⟨b,k,(hpr b k).2 ⟨hkb,hk⟩,⟨(hsd b k hb hk).2 (hsym k b hk hb h3),by omega⟩,.inr rfl⟩
structure EqI (G E:List Zc) (gone0:List Bool) (i:Nat) (gone:List Bool):Prop where
 cc:∀ a b,a < i→b < i→(E.getD a Za).2.2.1=(E.getD b Za).2.2.1→(E.getD a Za).2.2.2=(E.getD b Za).2.2.2
 nn:∀ k,k < G.length→gone0.getD k false=false→∀ a,a < i→((E.getD a Za).2.2.1=(G.getD k Za).2.2.1→(E.getD a Za).2.2.2≤(G.getD k Za).2.2.2)∧((E.getD a Za).2.2.1=Zb5 (G.getD k Za).2.2.1→0≤(G.getD k Za).2.2.2+(E.getD a Za).2.2.2)
 gl:gone.length=G.length
 gg:∀ k,k < G.length→(gone.getD k false=true↔gone0.getD k false=true∨∃ a,a < i∧Zbp (E.getD a Za) (G.getD k Za)≠0)
theorem EqI.nil{G E:List Zc}{gone0:List Bool}(h:gone0.length=G.length):EqI G E gone0 0 gone0 :=
 ⟨fun a b h=>absurd h (by omega),fun k _ _ a h=>absurd h (by omega),h,fun k hk=>⟨.inl,fun h=>h.elim id fun ⟨a,h,_⟩=>absurd h (by omega)⟩⟩
structure EqR (G E:List Zc) (gone0:List Bool) (i j:Nat) (gone1 gone:List Bool):Prop where
 nn:∀ k,k < j→gone0.getD k false=false→((E.getD i Za).2.2.1=(G.getD k Za).2.2.1→(E.getD i Za).2.2.2≤(G.getD k Za).2.2.2)∧((E.getD i Za).2.2.1=Zb5 (G.getD k Za).2.2.1→0≤(G.getD k Za).2.2.2+(E.getD i Za).2.2.2)
 gl:gone.length=G.length
 gg:∀ k,k < G.length→(gone.getD k false=true↔gone1.getD k false=true∨(k < j∧Zbp (E.getD i Za) (G.getD k Za)≠0))
theorem EqI.row{G E:List Zc}{gone0:List Bool}{i:Nat}{gone1 gone:List Bool}(h:EqI G E gone0 i gone1)(hc:∀ a,a < i→(E.getD i Za).2.2.1=(E.getD a Za).2.2.1→(E.getD i Za).2.2.2=(E.getD a Za).2.2.2)(hr:EqR G E gone0 i G.length gone1 gone):EqI G E gone0 (i+1) gone:=by
 refine⟨fun a b ha hb hab=>?_,fun k hk h0 a ha=>?_,hr.gl,fun k hk=>?_⟩
 ·rcases Nat.lt_or_ge a i with h1 | h1<;>rcases Nat.lt_or_ge b i with h2 | h2
  ·exact h.cc a b h1 h2 hab
  ·have:b=i:=by omega
   subst this
   exact (hc a h1 hab.symm).symm
  ·have:a=i:=by omega
   subst this
   exact hc b h2 hab
  ·have:a=b:=by omega
   rw[this]
 ·rcases Nat.lt_or_ge a i with h1 | h1
  ·exact h.nn k hk h0 a h1
  ·have:a=i:=by omega
   subst this
   exact hr.nn k hk h0
 ·rw[hr.gg k hk,h.gg k hk,or_assoc]
  refine or_congr Iff.rfl ⟨?_,?_⟩
  ·rintro (⟨a,ha,h1⟩ | ⟨_,h1⟩)
   ·exact⟨a,by omega,h1⟩
   ·exact⟨i,by omega,h1⟩
  ·rintro⟨a,ha,h1⟩
   rcases Nat.lt_or_ge a i with h2 | h2
   ·exact .inl ⟨a,h2,h1⟩
   ·have:a=i:=by omega
    subst this
    exact .inr ⟨hk,h1⟩
theorem EqR.nil{G E:List Zc}{gone0 gone1:List Bool}{i:Nat}(h:gone1.length=G.length):EqR G E gone0 i 0 gone1 gone1 :=
 ⟨fun k h=>absurd h (by omega),h,fun k hk=>⟨.inl,fun h=>h.elim id fun ⟨h,_⟩=>absurd h (by omega)⟩⟩
theorem EqR.skip{n:Nat}{G E:List Zc}{gone0 gone1 gone:List Bool}{i j:Nat}(hE:∀ a,a≤i→Mk n (E.getD a Za)∧(E.getD a Za).1=1)(hI:EqI G E gone0 i gone1)(hc:∀ a,a < i→(E.getD i Za).2.2.1=(E.getD a Za).2.2.1→(E.getD i Za).2.2.2=(E.getD a Za).2.2.2)(h:EqR G E gone0 i j gone1 gone)(hj:j < G.length)(hs:gone.getD j false=true∨Zbp (E.getD i Za) (G.getD j Za)=0):EqR G E gone0 i (j+1) gone1 gone:=by
 have hneg:∀ {u v:List Int},u=Zb5 v→v=Zb5 u:=fun {u v} h=>by rw[h,Zde]
 refine⟨fun k hk h0=>?_,h.gl,fun k hk=>?_⟩
 ·rcases Nat.lt_or_ge k j with h1 | h1
  ·exact h.nn k h1 h0
  ·have:k=j:=by omega
   subst this
   rcases hs with hs | hs
   ·rcases (h.gg k hj).1 hs with h2 | h2
    ·rcases (hI.gg k hj).1 h2 with h3 | ⟨a,ha,h3⟩
     ·rw[h0] at h3;cases h3
     ·have hn:=hI.nn k hj h0 a ha
      obtain⟨ma,a1⟩:=hE a (by omega)
      obtain⟨mi,i1⟩:=hE i (Nat.le_refl _)
      have h4:(E.getD a Za).2.2.1=(G.getD k Za).2.2.1∨(E.getD a Za).2.2.1=Zb5 (G.getD k Za).2.2.1:=by
       rcases Decidable.em ((E.getD a Za).2.2.1=(G.getD k Za).2.2.1) with h5 | h5
       ·exact .inl h5
       ·rcases Decidable.em ((E.getD a Za).2.2.1=Zb5 (G.getD k Za).2.2.1) with h6 | h6
        ·exact .inr h6
        ·exact absurd (ZeO.2 ⟨h5,h6⟩) h3
      constructor
      ·intro h5
       rcases h4 with h4 | h4
       ·rw[hc a ha (h5.trans h4.symm)];exact hn.1 h4
       ·exact absurd (h5▸h4) (ZfL mi ma i1 a1)
      ·intro h5
       rcases h4 with h4 | h4
       ·exact absurd (h4▸h5) (ZfL ma mi a1 i1)
       ·rw[hc a ha (h5.trans h4.symm)];exact hn.2 h4
    ·omega
   ·have:=ZeO.1 hs
    exact⟨fun h=>absurd h this.1,fun h=>absurd h this.2⟩
 ·rw[h.gg k hk]
  constructor
  ·rintro (h1 | ⟨h1,h2⟩)
   ·exact .inl h1
   ·exact .inr ⟨by omega,h2⟩
  ·rintro (h1 | ⟨h1,h2⟩)
   ·exact .inl h1
   ·rcases Nat.lt_or_ge k j with h3 | h3
    ·exact .inr ⟨h3,h2⟩
    ·have:k=j:=by omega
     subst this
     rcases hs with hs | hs
     ·exact (h.gg k hk).1 hs
     ·exact absurd hs h2
theorem EqR.put{G E:List Zc}{gone0 gone1 gone:List Bool}{i j:Nat}(h:EqR G E gone0 i j gone1 gone)(hj:j < G.length)(hs:Zbp (E.getD i Za) (G.getD j Za)≠0)(hn:0≤(G.getD j Za).2.2.2 - Zbp (E.getD i Za) (G.getD j Za)*(E.getD i Za).2.2.2)(hg:Za1 (E.getD i Za).2.2.1=1):EqR G E gone0 i (j+1) gone1 (gone.set j true):=by
 have hgl:=h.gl
 refine⟨fun k hk h0=>?_,by simpa using hgl,fun k hk=>?_⟩
 ·rcases Nat.lt_or_ge k j with h1 | h1
  ·exact h.nn k h1 h0
  ·have:k=j:=by omega
   subst this
   constructor
   ·intro h5
    rw[ZdO.2 h5] at hn;omega
   ·intro h5
    rw[(ZfV hg).2 (by rw[h5,Zde])] at hn;omega
 ·rw[ZD (by simp;omega)]
  by_cases h1:j=k
  ·subst h1
   rw[List.getElem_set_self]
   exact⟨fun _=>.inr ⟨by omega,hs⟩,fun _=>rfl⟩
  ·rw[List.getElem_set_ne h1,← ZD (d:=false) (show k < gone.length by omega),h.gg k hk]
   exact or_congr Iff.rfl ⟨fun h=>⟨by omega,h.2⟩,fun h=>⟨by omega,h.2⟩⟩
theorem EqI.done{n:Nat}{l G E:List Zc}{gone0 gone:List Bool}(hl:∀ c∈l,Mk n c)(hG:∀ x,x∈G↔Lm l x∧x.1=0)(hp:Zml (Lm l) G E gone0)(h:EqI G E gone0 E.length gone){m:List Zc}(hm:∀ x,x∈m↔x∈E∨(∃ k,k < G.length∧gone.getD k false=false∧x=G.getD k Za)∨(x∈l∧x.1=2)):¬ ZfO (MM (Lm l))∧∀ x,x∈m↔Zt0 (MM (Lm l)) x:=by
 have hMk:∀ c,MM (Lm l) c→c.1=0→c∈G∧¬ Opp (Lm l) c:=fun c hc c0=>by
  rcases hc with ⟨h1,h2⟩ | ⟨d,hd,d0,_,rfl⟩
  ·exact⟨(hG c).2 ⟨h1,c0⟩,h2 c0⟩
  ·have:=(Zdc (hl d hd.1) d0).2
   omega
 have hgk:∀ c,MM (Lm l) c→c.1=0→∃ k,k < G.length∧c=G.getD k Za∧gone0.getD k false=false:=fun c hc c0=>by
  obtain⟨h1,h2⟩:=hMk c hc c0
  obtain⟨k,hk,rfl⟩:=ZbR (d:=Za) h1
  refine⟨k,hk,rfl,?_⟩
  cases hb:gone0.getD k false with
  | false=>rfl
  | true=>exact absurd ((hp.gg k hk).1 hb) h2
 have hEi:∀ e,MM (Lm l) e→e.1=1→∃ a,a < E.length∧e=E.getD a Za:=fun e he e1=>by
  obtain⟨a,ha,h⟩:=ZbR (d:=Za) ((hp.ee e).2 ⟨he,e1⟩)
  exact⟨a,ha,h.symm⟩
 refine⟨?_,fun x=>?_⟩
 ·rintro (⟨e,f,he,hf,e1,f1,ef,hk⟩ | ⟨c,e,hc,he,c0,e1,hor⟩)
  ·obtain⟨a,ha,rfl⟩:=hEi e he e1
   obtain⟨b,hb,rfl⟩:=hEi f hf f1
   exact hk (h.cc a b ha hb ef)
  ·obtain⟨a,ha,rfl⟩:=hEi e he e1
   obtain⟨k,hk,rfl,hk0⟩:=hgk c hc c0
   have:=h.nn k hk hk0 a ha
   rcases hor with ⟨h1,h2⟩ | ⟨h1,h2⟩
   ·have:=this.1 h1;omega
   ·have:=this.2 h1;omega
 ·rw[hm]
  constructor
  ·rintro (hx | ⟨k,hk,hg,rfl⟩ | ⟨hx,x2⟩)
   ·obtain⟨h1,h2⟩:=(hp.ee x).1 hx
    exact⟨h1,fun h=>by omega⟩
   ·have h0:¬ (gone0.getD k false=true∨∃ a,a < E.length∧Zbp (E.getD a Za) (G.getD k Za)≠0):=fun h1=>by
     rw[(h.gg k hk).2 h1] at hg;cases hg
    rw[not_or] at h0
    have hgm:=(hG _).1 (Zj (d:=Za) hk)
    refine⟨.inl ⟨hgm.1,fun _ ho=>h0.1 ((hp.gg k hk).2 ho)⟩,fun _ e he e1=>?_⟩
    obtain⟨a,ha,rfl⟩:=hEi e he e1
    have:Zbp (E.getD a Za) (G.getD k Za)=0:=by
     rcases Decidable.em (Zbp (E.getD a Za) (G.getD k Za)=0) with h1 | h1
     ·exact h1
     ·exact absurd ⟨a,ha,h1⟩ h0.2
    exact ZeO.1 this
   ·exact⟨.inl ⟨(Zo1 (by omega)).2 hx,fun h=>by omega⟩,fun h=>by omega⟩
  ·rintro⟨hx,hx2⟩
   have hk3:Zgh x.1:=by
    rcases hx with ⟨h1,_⟩ | ⟨d,hd,d0,_,rfl⟩
    ·exact (hl x h1.1).2.1
    ·exact .inr (.inl (Zdc (hl d hd.1) d0).2)
   rcases hk3 with x0 | x1 | x2
   ·obtain⟨k,hk,rfl,hk0⟩:=hgk x hx x0
    refine .inr (.inl ⟨k,hk,?_,rfl⟩)
    cases hb:gone.getD k false with
    | false=>rfl
    | true =>
      rcases (h.gg k hk).1 hb with h1 | ⟨a,ha,h1⟩
      ·rw[hk0] at h1;cases h1
      ·obtain⟨h2,h3⟩:=(hp.ee _).1 (Zj (d:=Za) ha)
       exact absurd (ZeO.2 (hx2 x0 _ h2 h3)) h1
   ·exact .inl ((hp.ee x).2 ⟨hx,x1⟩)
   ·rcases hx with ⟨h1,_⟩ | ⟨d,hd,d0,_,rfl⟩
    ·exact .inr (.inr ⟨h1.1,x2⟩)
    ·have:=(Zdc (hl d hd.1) d0).2
     omega
def Zff(st:Bool×List Zc×List Zc×List Zc)(r:Zc):Bool×List Zc×List Zc×List Zc :=
 (st.1||!Zi r,if r.1=0 then (st.2.1++[r],st.2.2.1,st.2.2.2) else if r.1=1 then (st.2.1,st.2.2.1++[r],st.2.2.2) else (st.2.1,st.2.2.1,st.2.2.2++[r]))
def Zsa(st:Bool×List Zc×List Zc×List Zc)(c:Zc):Option (Bool×List Zc×List Zc×List Zc) :=
 if (ZbD c).2 < 0 then none else if (ZbD c).2=0 then some (Zff st (ZbD c).1) else some st
theorem Ze4:∀ (p:List Zc) (st:Bool×List Zc×List Zc×List Zc),p.foldlM Zsa st=if ZaF p then none else some ((ZbN p).foldl Zff st)
 | [],st=>by simp[ZaF,ZbN]
 | c::p,st=>by
   rw[List.foldlM_cons]
   simp only[Zsa,ZaF,ZbN,List.map_cons,List.any_cons]
   by_cases h:(ZbD c).2 < 0
   ·simp[h]
   ·have ih:∀ st,p.foldlM Zsa st=if ZaF p then none else some ((ZbN p).foldl Zff st):=Ze4 p
    unfold ZaF ZbN at ih
    by_cases h2:(ZbD c).2=0
    ·simp only[if_neg h,if_pos h2,Option.bind_eq_bind,Option.bind_some,ih,decide_eq_false h,Bool.false_or]
     simp[h2]
    ·simp only[if_neg h,if_neg h2,Option.bind_eq_bind,Option.bind_some,ih,decide_eq_false h,Bool.false_or]
     simp[h2]
structure ZsU (l:List Zc) (st:Bool×List Zc×List Zc×List Zc):Prop where
 bad:st.1=l.any fun c=>!Zi c
 ge:∀ x,x∈st.2.1↔x∈l∧x.1=0
 eq:∀ x,x∈st.2.2.1↔x∈l∧x.1=1
 div:∀ x,x∈st.2.2.2↔x∈l∧x.1≠0∧x.1≠1
 len:st.2.1.length+st.2.2.1.length+st.2.2.2.length=l.length
theorem ZpL{l:List Zc}{st:Bool×List Zc×List Zc×List Zc}{r:Zc}(h:ZsU l st):ZsU (l++[r]) (Zff st r):=by
 have hb:(Zff st r).1=(l++[r]).any fun c=>!Zi c:=by
  simp only[Zff,h.bad,List.any_append,List.any_cons,List.any_nil,Bool.or_false]
 have hg:=h.ge
 have hq:=h.eq
 have hd:=h.div
 have hl:=h.len
 unfold Zff at hb ⊢
 by_cases h0:r.1=0
 ·rw[if_pos h0] at hb ⊢
  refine⟨hb,fun x=>?_,fun x=>?_,fun x=>?_,by simp only[List.length_append,List.length_cons,List.length_nil];omega⟩
  ·simp only[List.mem_append,List.mem_singleton,hg]
   constructor
   ·rintro (h | rfl)
    ·exact⟨.inl h.1,h.2⟩
    ·exact⟨.inr rfl,h0⟩
   ·rintro⟨h1 | h1,h2⟩
    ·exact .inl ⟨h1,h2⟩
    ·exact .inr h1
  ·simp only[List.mem_append,List.mem_singleton,hq]
   constructor
   ·intro h;exact⟨.inl h.1,h.2⟩
   ·rintro⟨h1 | rfl,h2⟩
    ·exact⟨h1,h2⟩
    ·omega
  ·simp only[List.mem_append,List.mem_singleton,hd]
   constructor
   ·intro h;exact⟨.inl h.1,h.2⟩
   ·rintro⟨h1 | rfl,h2⟩
    ·exact⟨h1,h2⟩
    ·exact absurd h0 h2.1
 ·rw[if_neg h0] at hb ⊢
  by_cases h1:r.1=1
  ·rw[if_pos h1] at hb ⊢
   refine⟨hb,fun x=>?_,fun x=>?_,fun x=>?_,by simp only[List.length_append,List.length_cons,List.length_nil];omega⟩
   ·simp only[List.mem_append,List.mem_singleton,hg]
    constructor
    ·intro h;exact⟨.inl h.1,h.2⟩
    ·rintro⟨h1 | rfl,h2⟩
     ·exact⟨h1,h2⟩
     ·exact absurd h2 h0
   ·simp only[List.mem_append,List.mem_singleton,hq]
    constructor
    ·rintro (h | rfl)
     ·exact⟨.inl h.1,h.2⟩
     ·exact⟨.inr rfl,h1⟩
    ·rintro⟨h3 | h3,h2⟩
     ·exact .inl ⟨h3,h2⟩
     ·exact .inr h3
   ·simp only[List.mem_append,List.mem_singleton,hd]
    constructor
    ·intro h;exact⟨.inl h.1,h.2⟩
    ·rintro⟨h3 | rfl,h2⟩
     ·exact⟨h3,h2⟩
     ·exact absurd h1 h2.2
  ·rw[if_neg h1] at hb ⊢
   refine⟨hb,fun x=>?_,fun x=>?_,fun x=>?_,by simp only[List.length_append,List.length_cons,List.length_nil];omega⟩
   ·simp only[List.mem_append,List.mem_singleton,hg]
    constructor
    ·intro h;exact⟨.inl h.1,h.2⟩
    ·rintro⟨h1 | rfl,h2⟩
     ·exact⟨h1,h2⟩
     ·exact absurd h2 h0
   ·simp only[List.mem_append,List.mem_singleton,hq]
    constructor
    ·intro h;exact⟨.inl h.1,h.2⟩
    ·rintro⟨h3 | rfl,h2⟩
     ·exact⟨h3,h2⟩
     ·exact absurd h2 h1
   ·simp only[List.mem_append,List.mem_singleton,hd]
    constructor
    ·rintro (h | rfl)
     ·exact⟨.inl h.1,h.2⟩
     ·exact⟨.inr rfl,h0,h1⟩
    ·rintro⟨h3 | h3,h2⟩
     ·exact .inl ⟨h3,h2⟩
     ·exact .inr h3
theorem ZmB(l:List Zc):ZsU l (l.foldl Zff (false,[],[],[])):=by
 have key:∀ k,k≤l.length→ZsU (l.take k) ((l.take k).foldl Zff (false,[],[],[])):=by
  intro k
  induction k with
  | zero=>intro _;exact⟨rfl,by simp,by simp,by simp,rfl⟩
  | succ k ih =>
    intro hk
    rw[Zv Za (show k < l.length by omega),List.foldl_append]
    exact ZpL (ih (by omega))
 have:=key l.length (Nat.le_refl _)
 rwa [List.take_length] at this
theorem Zpx(a b:Zc):Zbp a b=1∨Zbp a b=-1∨Zbp a b=0:=by
 unfold Zbp
 split
 ·exact .inl rfl
 ·split
  ·exact .inr (.inl rfl)
  ·exact .inr (.inr rfl)
theorem ZnP(out:List Zc)(d c:Zc):Zdy (out++[d]) c=Zdy out c++[if d.2.2.1=c.2.2.1 then Zhh d c.2.2.2 else d]:=by simp[Zdy]
theorem Zm8(out:List Zc)(d c:Zc):Zgi (out++[d]) c=(Zgi out c||decide (d.2.2.1=c.2.2.1)):=by simp[Zgi]
theorem Zqm{out:List Zc}{c:Zc}(h:Zgi out c=false):Zdy out c=out:=by
 unfold Zdy
 conv=>rhs;rw[← List.map_id out]
 refine List.map_congr_left fun d hd=>?_
 have:=List.any_eq_false.1 h d hd
 simp only[decide_eq_true_eq] at this
 exact if_neg this
theorem ZjR(out:List Zc)(c:Zc):(Zdy out c).length=out.length:=by simp[Zdy]
theorem ZsN{α:Type}{u out:List α}{d:α}{j:Nat}(h:u.length=j):(u++out.drop j).getD j d=out.getD j d:=by
 rw[List.getD_eq_getElem?_getD,List.getElem?_append_right (by omega),h,Nat.sub_self,List.getElem?_drop,Nat.add_zero,← List.getD_eq_getElem?_getD]
theorem Zuw{α:Type}{u out:List α}{j:Nat}(h:u.length=j)(hj:j≤out.length):(u++out.drop j).length=out.length:=by
 rw[List.length_append,List.length_drop,h];omega
theorem Zak.spec(p:List Zc)(hp:Zak.pre (p,())):Zak.wp p (fun r=>r=Zak.fn (p,())):=by
 obtain⟨hpB,hdim⟩:Zol p:=hp
 obtain⟨n,hn,hd⟩:∃ n,n≤1048576∧Zek p n:=by
  cases p with
  | nil=>exact⟨0,by omega,by intro c hc;simp at hc⟩
  | cons c p =>
    obtain⟨n,hd⟩:=hdim
    exact⟨n,by have h1:=hd c (by simp);have h2:=(hpB.2 c (by simp)).2.1;omega,hd⟩
 have hl:=hpB.1
 have hQ:Zak.fn (p,())=Zac p:=rfl
 simp only[Zak.wp,hQ,ZO.fn,Zay.fn,ZP.fn,Z3.fn]
 refine Lp.foldO p Za Zsa (false,[],[],[]) (by omega) ?_ ?_
 ·rintro i ⟨bad,A,B,D⟩ R e e2 hf ht hR1 hR2
  have hb:=hpB.2 _ (Zj (d:=Za) e)
  have hlen:A.length+B.length+D.length≤i:=by
   rw[Ze4] at ht
   split at ht
   ·cases ht
   ·have:=(ZmB (ZbN (p.take i))).len
    rw[Option.some.inj ht] at this
    simp only at this
    have h3:=List.length_filter_le (fun r:Zc×Int=>decide (r.2=0)) ((p.take i).map ZbD)
    have h4:(ZbN (p.take i)).length≤(p.take i).length:=by simp only[ZbN,List.length_map] at *;omega
    rw[List.length_take] at h4
    omega
  simp only[decide_eq_true e2,Int.toNat_natCast,cond_true]
  refine⟨⟨by omega,by omega⟩,hb,?_⟩
  have hst:=Zp0 (p.getD i Za)
  have hps:Zsa (bad,A,B,D) (p.getD i Za)=if (ZbD (p.getD i Za)).2 < 0 then none else if (ZbD (p.getD i Za)).2=0 then some (Zff (bad,A,B,D) (ZbD (p.getD i Za)).1) else some (bad,A,B,D):=rfl
  rw[hps] at hR1 hR2
  generalize hr:ZbD (p.getD i Za)=r at *
  obtain⟨r,s⟩:=r
  simp only at hst hR1 hR2
  rcases hst with rfl | rfl | rfl
  ·simp only[show ((0:Int) == -1)=false from rfl,show ((0:Int) == 1)=false from rfl,cond_false]
   rw[if_neg (by omega),if_pos rfl] at hR1
   refine⟨fun h=>⟨h,trivial⟩,fun h=>⟨h,trivial⟩,fun h=>by rw[h];rfl,?_⟩
   by_cases h0:r.1=0
   ·have hpt:Zff (bad,A,B,D) r=(bad||!Zi r,A++[r],B,D):=by simp[Zff,h0]
    simp only[h0,beq_self_eq_true,cond_true]
    rw[hpt] at hR1
    refine⟨⟨by simp;omega,by simp;omega⟩,hf,?_⟩
    have e0:(((0:Int),r.2.1,r.2.2):Zc)=r:=by rw[← h0]
    rw[e0]
    exact hR1 _ rfl
   ·simp only[beq_eq_false_iff_ne.2 h0,cond_false]
    by_cases h1:r.1=1
    ·have hpt:Zff (bad,A,B,D) r=(bad||!Zi r,A,B++[r],D):=by simp[Zff,h1]
     simp only[h1,beq_self_eq_true,cond_true]
     rw[hpt] at hR1
     refine⟨⟨by simp;omega,by simp;omega⟩,hf,?_⟩
     have e1:(((1:Int),r.2.1,r.2.2):Zc)=r:=by rw[← h1]
     rw[e1]
     exact hR1 _ rfl
    ·have hpt:Zff (bad,A,B,D) r=(bad||!Zi r,A,B,D++[r]):=by simp[Zff,h0,h1]
     simp only[beq_eq_false_iff_ne.2 h1,cond_false]
     rw[hpt] at hR1
     exact⟨⟨by simp;omega,by simp;omega⟩,hf,hR1 _ rfl⟩
  ·simp only[show ((1:Int) == -1)=false from rfl,beq_self_eq_true,cond_false,cond_true]
   exact⟨hf,hR1 _ rfl⟩
  ·simp only[beq_self_eq_true,cond_true]
   have:=hR2 rfl
   rw[Ze4] at this
   rw[Zca]
   cases hv:ZaF p with
   | true=>rfl
   | false=>rw[hv] at this;cases this
 rintro⟨bad,A,B,D⟩ R hraws
 rw[Ze4] at hraws
 have hv:ZaF p=false:=by
  cases h:ZaF p with
  | true=>rw[h] at hraws;cases hraws
  | false=>rfl
 rw[hv] at hraws
 simp only[Bool.false_eq_true,if_false,Option.some.injEq] at hraws
 have hpart:=ZmB (ZbN p)
 rw[hraws] at hpart
 clear hraws
 obtain⟨hbad,hA,hB,hD,hlen⟩:=hpart
 simp only at hbad hA hB hD hlen
 obtain⟨hs1,hs2⟩:=ZdK hpB hd hv
 have hMk:=Zjh hpB hd
 have hlB:=ZoL hpB
 rw[← hbad] at hs2
 generalize ZbN p=l at *
 generalize Zac p=T at *
 have hll:=hlB.1
 have hlm:∀ c∈l,c.2.2.1.length=n∧ZcO c.2.2.1∧Zfb c.2.2.2:=fun c hc=>⟨(hMk c hc).1.1,ZcF (hlB.2 c hc).2,(hlB.2 c hc).2.2.2⟩
 simp only[Int.lt_irrefl,decide_false,cond_false]
 have hAM:∀ c∈A,Mk n c∧c.1=0:=fun c hc=>⟨hMk c ((hA c).1 hc).1,((hA c).1 hc).2⟩
 refine Lp.iter A.length (fun i y=>∃ out,y=((i:Int),out)∧(∀ x,x∈out↔Lm (A.take i) x)∧out.length≤i) ⟨[],rfl,by simp[Lm],by simp⟩ ?_
 rintro i y hile ⟨out,rfl,hout,hol⟩ R hR
 by_cases e:i < A.length
 ·have hcm:=Zj (d:=Za) e
  have hts:=Zv Za e
  obtain⟨hcM,hc0⟩:=hAM _ hcm
  have hcl:=hlm _ ((hA _).1 hcm).1
  have hoA:∀ d∈out,d.2.2.1.length=n:=fun d hd=>(hAM d (List.mem_of_mem_take ((hout d).1 hd).1)).1.1.1
  have hnew:=ZlT (fun d hd=>hAM d (List.mem_of_mem_take hd)) hcM hc0 hout
  rw[← hts] at hnew
  simp only[decide_eq_true (show (i:Int) < (A.length:Int) by omega),Int.toNat_natCast,cond_true]
  refine⟨⟨by omega,by omega⟩,e,?_⟩
  refine Lp.iter out.length (fun j y=>y=((j:Int),Zgi (out.take j) (A.getD i Za),Zdy (out.take j) (A.getD i Za)++out.drop j)) (by simp[Zgi,Zdy]) ?_
  rintro j y hjle rfl R' hR'
  have hml:(Zdy (out.take j) (A.getD i Za)).length=j:=by rw[ZjR];simp;omega
  by_cases e2:j < out.length
  ·have hts2:=Zv Za e2
   have hget:=ZsN (d:=Za) (out:=out) hml
   have hlen2:=Zuw (out:=out) hml hjle
   have hdl:=hoA _ (Zj (d:=Za) e2)
   simp only[decide_eq_true (show (j:Int) < (out.length:Int) by omega),Int.toNat_natCast,cond_true,hget,hlen2]
   refine⟨⟨by omega,by omega⟩,e2,⟨hdl.trans hcl.1.symm,by show (out.getD j Za).2.2.1.length≤_;omega,hcl.2.1⟩,?_⟩
   have hnext:=hR' e2
   rw[hts2,Zm8,ZnP] at hnext
   by_cases h1:(out.getD j Za).2.2.1=(A.getD i Za).2.2.1
   ·rw[ZdO.2 h1]
    rw[if_pos h1,decide_eq_true h1,Bool.or_true] at hnext
    refine⟨⟨by omega,by omega⟩,e2,⟨by omega,by omega⟩,e2,⟨by omega,by omega⟩,hnext _ ?_⟩
    have hset:(Zdy (out.take j) (A.getD i Za)++out.drop j).set j (Zhh (out.getD j Za) (A.getD i Za).2.2.2)=Zdy (out.take j) (A.getD i Za)++[Zhh (out.getD j Za) (A.getD i Za).2.2.2]++out.drop (j+1):=by
     rw[List.set_append_right _ _ (by omega),hml,Nat.sub_self,List.drop_eq_getElem_cons e2,List.set_cons_zero,List.append_assoc];rfl
    exact congrArg (fun z=>((j:Int)+1,true,z)) hset
   ·have hs0:Zbp (out.getD j Za) (A.getD i Za)≠1:=fun h=>h1 (ZdO.1 h)
    rw[beq_eq_false_iff_ne.2 hs0]
    rw[if_neg h1,decide_eq_false h1,Bool.or_false] at hnext
    refine⟨⟨by omega,by omega⟩,hnext _ ?_⟩
    rw[List.append_assoc,List.singleton_append,ZD e2,← List.drop_eq_getElem_cons e2]
    rfl
  ·have:j=out.length:=by omega
   subst this
   simp only[Int.lt_irrefl,decide_false,cond_false,List.take_length,List.drop_length,List.append_nil]
   unfold ZkK at hnew
   cases hh:Zgi out (A.getD i Za) with
   | true =>
     rw[hh] at hnew
     simp only[Bool.not_true,cond_false]
     refine⟨⟨by omega,by omega⟩,hR e _ ⟨_,rfl,hnew,by rw[ZjR];omega⟩⟩
   | false =>
     rw[hh] at hnew
     simp only[Bool.not_false,cond_true,Zqm hh]
     exact⟨⟨by simp;omega,by simp;omega⟩,⟨by omega,by omega⟩,hR e _ ⟨_,rfl,hnew,by simp;omega⟩⟩
 have hiA:i=A.length:=by omega
 subst hiA
 clear hR hile e
 simp only[Int.lt_irrefl,decide_false,cond_false,Int.toNat_natCast]
 rw[List.take_length] at hout
 have hGm:∀ x,x∈out↔Lm l x∧x.1=0:=fun x=>by
  rw[hout]
  constructor
  ·intro h
   have h0:x.1=0:=((hA x).1 h.1).2
   refine⟨⟨((hA x).1 h.1).1,fun _ d hd hd0 hd1=>h.2 h0 d ((hA d).2 ⟨hd,hd0⟩) hd0 hd1⟩,h0⟩
  ·rintro⟨h,h0⟩
   exact⟨(hA x).2 ⟨h.1,h0⟩,fun _ d hd hd0 hd1=>h.2 h0 d ((hA d).1 hd).1 hd0 hd1⟩
 clear hout
 generalize out=G at *
 have hGl:G.length≤1048576:=by omega
 have hGi:∀ k,k < G.length→Mk n (G.getD k Za)∧(G.getD k Za).1=0∧Lm l (G.getD k Za)∧(G.getD k Za).2.2.1.length=n∧ZcO (G.getD k Za).2.2.1∧Zfb (G.getD k Za).2.2.2∧condB (G.getD k Za):=fun k hk=>by
  have h1:=(hGm _).1 (Zj (d:=Za) hk)
  have h2:=hlm _ h1.1.1
  exact⟨hMk _ h1.1.1,h1.2,h1.1,h2.1,h2.2.1,h2.2.2,hlB.2 _ h1.1.1⟩
 refine⟨⟨by omega,by omega,by omega,by omega⟩,?_⟩
 have hNN:∀ i,i≤G.length→i*G.length≤1048576*1048576:=fun i hi=>Nat.mul_le_mul (by omega) hGl
 refine Lp.iter G.length (fun i y=>∃ E gone,y=((i:Int),E,gone)∧Zfc G B i (i+1) E gone∧E.length≤B.length+i*G.length) ⟨B,_,rfl,Zfc.nil G B,by simp⟩ ?_
 rintro i y hile ⟨E,gone,rfl,hI,hEl⟩ R hR
 by_cases e:i < G.length
 ·obtain⟨hiM,hi0,hiL,hin,hii,hik,hib⟩:=hGi i e
  simp only[decide_eq_true (show (i:Int) < (G.length:Int) by omega),Int.toNat_natCast,cond_true]
  refine⟨⟨by omega,by omega⟩,e,⟨by omega,by omega⟩,?_⟩
  refine Lp.iter (G.length - (i+1)) (fun m y=>∃ E' gone',y=((i:Int)+1+m,E',gone')∧Zfc G B i (i+1+m) E' gone'∧E'.length≤B.length+i*G.length+m) ⟨E,gone,by simp,hI,by omega⟩ ?_
  rintro m y hmle ⟨E',gone',rfl,hI',hEl'⟩ R' hR'
  have hNi:=hNN i (by omega)
  by_cases e2:m < G.length - (i+1)
  ·have ej:i+1+m < G.length:=by omega
   obtain⟨hjM,hj0,hjL,hjn,hji,hjk,hjb⟩:=hGi (i+1+m) ej
   have htn:((i:Int)+1+m).toNat=i+1+m:=by omega
   have hgl:=hI'.gl
   simp only[decide_eq_true (show (i:Int)+1+m < (G.length:Int) by omega),htn,cond_true]
   unfold Zfb at hik hjk
   refine⟨⟨by omega,by omega⟩,ej,⟨hin.trans hjn.symm,by show (G.getD i Za).2.2.1.length≤_;omega,hji⟩,?_⟩
   by_cases hs:Zbp (G.getD i Za) (G.getD (i+1+m) Za)=-1
   ·simp only[hs,bne_self_eq_false,cond_false]
    refine⟨⟨by omega,by omega⟩,?_⟩
    have hvoid:(G.getD i Za).2.2.2+(G.getD (i+1+m) Za).2.2.2 < 0→T=([],true,0):=fun h=>hs1 (.inl ⟨_,_,hiL,hjL,hi0,hj0,(ZfV (hiM.gcd hi0)).1 hs,h⟩)
    by_cases h1:(G.getD i Za).2.2.2+(G.getD (i+1+m) Za).2.2.2 < 0
    ·simp only[decide_eq_true h1,cond_true]
     exact (hvoid h1).symm
    ·simp only[decide_eq_false h1,cond_false]
     refine⟨⟨by omega,by omega⟩,?_⟩
     by_cases h2:(G.getD i Za).2.2.2+(G.getD (i+1+m) Za).2.2.2=0
     ·simp only[h2,beq_self_eq_true,cond_true]
      have hput:=hI'.put (by omega) ej ⟨hs,h2⟩
      refine⟨⟨by omega,by omega⟩,by omega,⟨by omega,by simp;omega⟩,by simp;omega,⟨.inr (.inl rfl),hib.2⟩,⟨by simp;omega,by simp;omega⟩,⟨by omega,by omega⟩,hR' e2 _ ⟨_,_,?_,hput,by simp;omega⟩⟩
      exact congrArg (fun z:Int=>(z,E'++[Zlv (G.getD i Za)],(gone'.set i true).set (i+1+m) true)) (by omega)
     ·simp only[beq_eq_false_iff_ne.2 h2,cond_false]
      have hskip:=hI'.skip (by omega) ej fun _=>by omega
      refine⟨⟨by omega,by omega⟩,hR' e2 _ ⟨_,_,?_,hskip,by omega⟩⟩
      exact congrArg (fun z:Int=>(z,E',gone')) (by omega)
   ·simp only[bne_iff_ne.2 hs,cond_true]
    have hskip:=hI'.skip (by omega) ej fun h=>absurd h hs
    refine⟨⟨by omega,by omega⟩,hR' e2 _ ⟨_,_,?_,hskip,by omega⟩⟩
    exact congrArg (fun z:Int=>(z,E',gone')) (by omega)
  ·have hm:i+1+m=G.length:=by omega
   rw[hm] at hI'
   simp only[decide_eq_false (show ¬ (i:Int)+1+m < (G.length:Int) by omega),cond_false]
   refine⟨⟨by omega,by omega⟩,hR e _ ⟨_,_,rfl,hI'.row,?_⟩⟩
   rw[Nat.succ_mul];omega
 have hiG:i=G.length:=by omega
 subst hiG
 clear hR hile e
 simp only[Int.lt_irrefl,decide_false,cond_false,Int.toNat_natCast]
 have hP:=hI.done hMk hGm hB
 have hNi:=hNN G.length (Nat.le_refl _)
 have hEB:E.length≤1048576+1099511627776:=by omega
 clear hI hEl
 have hEi:∀ k,k < E.length→Mk n (E.getD k Za)∧(E.getD k Za).1=1∧MM (Lm l) (E.getD k Za)∧(E.getD k Za).2.2.1.length=n∧ZcO (E.getD k Za).2.2.1∧Zfb (E.getD k Za).2.2.2:=fun k hk=>by
  have h1:=(hP.ee _).1 (Zj (d:=Za) hk)
  have h3:Mk n (E.getD k Za)∧condB (E.getD k Za):=by
   rcases h1.1 with ⟨h2,_⟩ | ⟨c,hc,c0,_,h2⟩
   ·exact⟨hMk _ h2.1,hlB.2 _ h2.1⟩
   ·rw[h2];exact⟨(Zdc (hMk c hc.1) c0).1,ZvU (hlB.2 c hc.1).2⟩
  exact⟨h3.1,h1.2,h1.1,h3.1.1.1,ZcF h3.2.2,h3.2.2.2.2⟩
 refine Lp.iter E.length (fun i y=>∃ gone',y=((i:Int),gone')∧EqI G E gone i gone') ⟨gone,rfl,EqI.nil hP.gl⟩ ?_
 rintro i y hile ⟨gone1,rfl,hI⟩ R hR
 by_cases e:i < E.length
 ·obtain⟨hiM,hi1,hiL,hin,hii,hik⟩:=hEi i e
  have hgl:=hI.gl
  simp only[decide_eq_true (show (i:Int) < (E.length:Int) by omega),Int.toNat_natCast,cond_true]
  refine⟨⟨by omega,by omega⟩,e,⟨by omega,by omega⟩,?_⟩
  refine Lp.iter i (fun j y=>y=(j:Int)∧∀ a,a < j→(E.getD i Za).2.2.1=(E.getD a Za).2.2.1→(E.getD i Za).2.2.2=(E.getD a Za).2.2.2) ⟨rfl,fun a ha=>absurd ha (by omega)⟩ ?_
  rintro j y hjle ⟨rfl,hj⟩ R2 hR2
  by_cases e2:j < i
  ·obtain⟨hjM,hj1,hjL,hjn,hji,hjk⟩:=hEi j (by omega)
   simp only[decide_eq_true (show (j:Int) < (i:Int) by omega),Int.toNat_natCast,cond_true,Nat.zero_add]
   refine⟨⟨by omega,by omega,by omega⟩,by omega,⟨hin.trans hjn.symm,by show (E.getD i Za).2.2.1.length≤_;omega,hji⟩,fun h=>⟨h,trivial⟩,fun h=>⟨h,trivial⟩,fun h=>⟨h,trivial⟩,fun h=>⟨h,trivial⟩,fun h=>⟨h,h,trivial⟩,fun h=>h,?_⟩
   by_cases hs:(E.getD i Za).2.2.1=(E.getD j Za).2.2.1
   ·rw[ZdO.2 hs]
    by_cases hk:(E.getD i Za).2.2.2=(E.getD j Za).2.2.2
    ·simp only[hk,bne_self_eq_false,Bool.and_false,cond_false]
     refine⟨⟨by omega,by omega⟩,hR2 e2 _ ⟨rfl,fun a ha h=>?_⟩⟩
     by_cases haj:a=j
     ·subst haj;exact hk
     ·exact hj a (by omega) h
    ·simp only[bne_iff_ne.2 hk,beq_self_eq_true,Bool.and_true,cond_true]
     exact (hs1 (.inr (.inl ⟨_,_,hiL,hjL,hi1,hj1,hs,hk⟩))).symm
   ·have hs0:Zbp (E.getD i Za) (E.getD j Za)≠1:=fun h=>hs (ZdO.1 h)
    simp only[beq_eq_false_iff_ne.2 hs0,Bool.false_and,cond_false]
    refine⟨⟨by omega,by omega⟩,hR2 e2 _ ⟨rfl,fun a ha h=>?_⟩⟩
    by_cases haj:a=j
    ·subst haj;exact absurd h hs
    ·exact hj a (by omega) h
  ·have hji:j=i:=by omega
   subst hji
   simp only[Int.lt_irrefl,decide_false,cond_false]
   refine Lp.iter G.length (fun k y=>∃ gone',y=((k:Int),gone')∧EqR G E gone j k gone1 gone') ⟨gone1,rfl,EqR.nil hgl⟩ ?_
   rintro k y hkle ⟨gone',rfl,hr⟩ R3 hR3
   have hgl':=hr.gl
   by_cases e3:k < G.length
   ·obtain⟨hkM,hk0,hkL,hkn,hki,hkk,hkb⟩:=hGi k e3
    simp only[decide_eq_true (show (k:Int) < (G.length:Int) by omega),Int.toNat_natCast,cond_true]
    refine⟨⟨by omega,by omega⟩,e3,⟨by omega,by omega⟩,by omega,fun h=>⟨h,h,⟨hin.trans hkn.symm,by show (E.getD j Za).2.2.1.length≤_;omega,hki⟩⟩,fun h=>⟨h,trivial⟩,fun h=>by rw[h];rfl,?_⟩
    have hEM:∀ a,a≤j→Mk n (E.getD a Za)∧(E.getD a Za).1=1:=fun a ha=>⟨(hEi a (by omega)).1,(hEi a (by omega)).2.1⟩
    by_cases hskip:gone'.getD k false=true∨Zbp (E.getD j Za) (G.getD k Za)=0
    ·have hb:(gone'.getD k false||(Zbp (E.getD j Za) (G.getD k Za) == 0))=true:=by
      rcases hskip with h | h
      ·rw[h,Bool.true_or]
      ·rw[h,beq_self_eq_true,Bool.or_true]
     rw[hb]
     exact⟨⟨by omega,by omega⟩,hR3 e3 _ ⟨_,rfl,EqR.skip hEM hI hj hr e3 hskip⟩⟩
    ·rw[not_or] at hskip
     have hg0:gone'.getD k false=false:=by simpa using hskip.1
     simp only[hg0,beq_eq_false_iff_ne.2 hskip.2,Bool.or_self,cond_false]
     unfold Zfb at hik hkk
     have hsv:=Zpx (E.getD j Za) (G.getD k Za)
     have hmul:∀ s:Int,(s=1∨s=-1∨s=0)→Zo .i64 (s*(E.getD j Za).2.2.2)∧Zo .i64 ((G.getD k Za).2.2.2 - s*(E.getD j Za).2.2.2):=fun s hs=>by
      rcases hs with rfl | rfl | rfl
      ·exact⟨⟨by omega,by omega⟩,⟨by omega,by omega⟩⟩
      ·exact⟨⟨by omega,by omega⟩,⟨by omega,by omega⟩⟩
      ·exact⟨⟨by omega,by omega⟩,⟨by omega,by omega⟩⟩
     refine⟨⟨hin.trans hkn.symm,by show (E.getD j Za).2.2.1.length≤_;omega,hki⟩,(hmul _ hsv).1,(hmul _ hsv).2,?_⟩
     have hng:gone.getD k false=false∧∀ a,a < j→Zbp (E.getD a Za) (G.getD k Za)=0:=by
      have h1:¬ (gone1.getD k false=true):=fun h=>by
       have:=(hr.gg k e3).2 (.inl h)
       rw[hg0] at this;cases this
      have h2:¬ (gone.getD k false=true∨∃ a,a < j∧Zbp (E.getD a Za) (G.getD k Za)≠0):=fun h=>h1 ((hI.gg k e3).2 h)
      rw[not_or] at h2
      refine⟨by simpa using h2.1,fun a ha=>?_⟩
      rcases Decidable.em (Zbp (E.getD a Za) (G.getD k Za)=0) with h3 | h3
      ·exact h3
      ·exact absurd ⟨a,ha,h3⟩ h2.2
     have hkMM:MM (Lm l) (G.getD k Za):=.inl ⟨hkL,fun _ ho=>by
      have:=(hP.gg k e3).2 ho
      rw[hng.1] at this;cases this⟩
     by_cases hneg:(G.getD k Za).2.2.2 - Zbp (E.getD j Za) (G.getD k Za)*(E.getD j Za).2.2.2 < 0
     ·simp only[decide_eq_true hneg,cond_true]
      refine (hs1 (.inr (.inr ⟨_,_,hkMM,hiL,hk0,hi1,?_⟩))).symm
      rcases hsv with h1 | h1 | h1
      ·rw[h1] at hneg
       exact .inl ⟨ZdO.1 h1,by omega⟩
      ·rw[h1] at hneg
       have h2:=(ZfV (hiM.1.2.1 (by omega))).1 h1
       exact .inr ⟨by rw[h2,Zde],by omega⟩
      ·exact absurd h1 hskip.2
     ·simp only[decide_eq_false hneg,cond_false]
      exact⟨⟨by omega,by omega⟩,by omega,⟨by omega,by omega⟩,hR3 e3 _ ⟨_,rfl,hr.put e3 hskip.2 (by omega) (hiM.1.2.1 (by omega))⟩⟩
   ·have hkG:k=G.length:=by omega
    subst hkG
    simp only[Int.lt_irrefl,decide_false,cond_false]
    exact⟨⟨by omega,by omega⟩,hR e _ ⟨_,rfl,hI.row hj hr⟩⟩
 have hiE:i=E.length:=by omega
 subst hiE
 clear hR hile e
 simp only[Int.lt_irrefl,decide_false,cond_false]
 have hgl:=hI.gl
 refine Lp.iter G.length (fun i y=>∃ out,y=((i:Int),out)∧(∀ x,x∈out↔x∈E∨∃ k,k < i∧gone1.getD k false=false∧x=G.getD k Za)∧out.length≤E.length+i) ⟨E,rfl,fun x=>⟨.inl,fun h=>h.elim id fun ⟨k,hk,_⟩=>absurd hk (by omega)⟩,by omega⟩ ?_
 rintro i y hile ⟨out,rfl,hout,hol⟩ R hR
 by_cases e:i < G.length
 ·simp only[decide_eq_true (show (i:Int) < (G.length:Int) by omega),Int.toNat_natCast,cond_true]
  refine⟨⟨by omega,by omega⟩,e,⟨by omega,by omega⟩,by omega,?_⟩
  cases hg:gone1.getD i false with
  | false =>
    simp only[Bool.not_false,cond_true]
    refine⟨⟨by simp;omega,by simp;omega⟩,⟨by omega,by omega⟩,hR e _ ⟨_,rfl,fun x=>?_,by simp;omega⟩⟩
    rw[List.mem_append,List.mem_singleton,hout,or_assoc]
    refine or_congr Iff.rfl ⟨?_,?_⟩
    ·rintro (⟨k,hk,h⟩ | rfl)
     ·exact⟨k,by omega,h⟩
     ·exact⟨i,by omega,hg,rfl⟩
    ·rintro⟨k,hk,h1,h2⟩
     rcases Nat.lt_or_ge k i with h3 | h3
     ·exact .inl ⟨k,h3,h1,h2⟩
     ·have:k=i:=by omega
      subst this
      exact .inr h2
  | true =>
    simp only[Bool.not_true,cond_false]
    refine⟨⟨by omega,by omega⟩,hR e _ ⟨_,rfl,fun x=>?_,by omega⟩⟩
    rw[hout]
    refine or_congr Iff.rfl ⟨?_,?_⟩
    ·rintro⟨k,hk,h⟩
     exact⟨k,by omega,h⟩
    ·rintro⟨k,hk,h1,h2⟩
     rcases Nat.lt_or_ge k i with h3 | h3
     ·exact⟨k,h3,h1,h2⟩
     ·have:k=i:=by omega
      subst this
      rw[hg] at h1;cases h1
 have hiG:i=G.length:=by omega
 subst hiG
 simp only[Int.lt_irrefl,decide_false,cond_false]
 have hmem:∀ x,x∈out++D↔x∈E∨(∃ k,k < G.length∧gone1.getD k false=false∧x=G.getD k Za)∨(x∈l∧x.1=2):=fun x=>by
  rw[List.mem_append,hout,or_assoc]
  refine or_congr Iff.rfl (or_congr Iff.rfl ?_)
  rw[hD]
  constructor
  ·rintro⟨h1,h2,h3⟩
   rcases (hMk x h1).2.1 with h | h | h
   ·exact absurd h h2
   ·exact absurd h h3
   ·exact⟨h1,h⟩
  ·rintro⟨h1,h2⟩;exact⟨h1,by omega,by omega⟩
 obtain⟨hnv2,hfin⟩:=hI.done hMk hGm hP hmem
 have hT:=hs2 hP.nv hnv2 _ hfin
 have hdims:Zek (out++D) n:=fun x hx=>by
  rcases (hmem x).1 hx with h | ⟨k,hk,_,rfl⟩ | ⟨h,_⟩
  ·obtain⟨k,hk,rfl⟩:=ZbR (d:=Za) h
   exact (hEi k hk).2.2.2.1
  ·exact (hGi k hk).2.2.2.1
  ·exact (hlm x h).1
 refine⟨⟨by omega,by omega⟩,⟨by show (out++D).length≤_;simp only[List.length_append];omega,n,hn,hdims⟩,fun h=>⟨h,trivial⟩,fun h=>⟨h,trivial⟩,fun h=>by rw[h];rfl,?_⟩
 rw[hT]
 have e1:decide ((96:Int) < ((ZaU (out++D)).length:Int))=decide (96 < (ZaU (out++D)).length):=decide_eq_decide.2 (by omega)
 rw[e1]
 cases (bad||decide (96 < (ZaU (out++D)).length))<;>rfl
theorem ZjQ{n:Int}(h1:-9223372036854775808≤n)(h2:n≤9223372036854775807):IntKind.wrap .i64 n=n:=by
 simp[IntKind.wrap,IntKind.bits,IntKind.signed]
 omega
theorem Znf(l:List ZbK)(s:ZbK):ZjO (l++[s])=IntKind.wrap .i64 (ZjO l+(s.2.length:Int)):=by simp[ZjO]
theorem ZU.spec(n m:Int)(l:List ZbK)(hl:l.length≤9223372036854775807)(hs:∀ s∈l,s.2.length≤9223372036854775807):ZU.wp n m l (fun r=>r=ZU.fn (n,m,l,())):=by
 have hfn:ZU.fn (n,m,l,())=(ZjC m l&&decide (ZjO l≤n)):=rfl
 simp only[ZU.wp,hfn]
 refine Lp.iter l.length (fun i y=>y=((i:Int),ZjO (l.take i))∧ZjC m (l.take i)=true) ⟨rfl,rfl⟩ ?_
 rintro i y hle ⟨rfl,hf⟩ R hR
 by_cases e:i < l.length
 ·have hts:=Zv ((0,[]):ZbK) e
  have hsl:=hs _ (Zj (d:=((0,[]):ZbK)) e)
  simp only[decide_eq_true (show (i:Int) < (l.length:Int) by omega),Int.toNat_natCast,cond_true]
  refine⟨⟨by omega,by omega⟩,?_⟩
  have hall:ZjC m l=true→∀ p∈(l.getD i (0,[])).2,(p.length:Int)≤m:=fun h p hp=>by
   have:=List.all_eq_true.1 h _ (Zj (d:=((0,[]):ZbK)) e)
   have:=List.all_eq_true.1 this p hp
   simpa using this
  refine Lp.iter (l.getD i (0,[])).2.length (fun j y=>y=(j:Int)∧∀ k,k < j→((((l.getD i (0,[])).2.getD k []).length:Nat):Int)≤m) ⟨rfl,fun k hk=>absurd hk (by omega)⟩ ?_
  rintro j y hjle ⟨rfl,hj⟩ R' hR'
  by_cases e2:j < (l.getD i (0,[])).2.length
  ·simp only[decide_eq_true (show (j:Int) < ((l.getD i (0,[])).2.length:Int) by omega),Int.toNat_natCast,cond_true]
   refine⟨⟨by omega,by omega⟩,?_⟩
   by_cases h1:m < ((((l.getD i (0,[])).2.getD j []).length:Nat):Int)
   ·simp only[decide_eq_true h1,cond_true]
    cases hfl:ZjC m l with
    | false=>rfl
    | true=>have:=hall hfl _ (Zj (d:=[]) e2);omega
   ·simp only[decide_eq_false h1,cond_false]
    rw[ZjQ (by omega) (by omega)]
    refine hR' e2 _ ⟨rfl,fun k hk=>?_⟩
    by_cases hkj:k=j
    ·subst hkj;omega
    ·exact hj k (by omega)
  ·have:j=(l.getD i (0,[])).2.length:=by omega
   subst this
   simp only[Int.lt_irrefl,decide_false,cond_false]
   rw[ZjQ (n:=(i:Int)+1) (by omega) (by omega)]
   refine hR e _ ⟨?_,?_⟩
   ·rw[hts,Znf];rfl
   ·rw[hts]
    unfold ZjC at hf ⊢
    rw[List.all_append,hf]
    simp only[List.all_cons,List.all_nil,Bool.and_true,Bool.true_and,List.all_eq_true,decide_eq_true_eq]
    intro p hp
    obtain⟨k,hk,rfl⟩:=ZbR (d:=[]) hp
    exact hj k hk
 ·have:i=l.length:=by omega
  subst this
  rw[List.take_length] at hf ⊢
  simp only[Int.lt_irrefl,decide_false,cond_false,hf,Bool.true_and]
theorem ZZ.spec(x:ZbK)(hl:x.2.length≤9223372036854775807):ZZ.wp x (fun r=>r=ZZ.fn (x,())):=by
 obtain⟨n,ps⟩:=x
 simp only[ZZ.wp,ZZ.fn,Zay.fn]
 have hg:∀ b:Bool,(b=true→b=true∧True):=fun b h=>⟨h,trivial⟩
 have hn:∀ b:Bool,(b=false→(!b)=true):=fun b h=>by rw[h];rfl
 refine⟨hg _,hg _,hn _,hg _,hg _,hg _,hn _,?_⟩
 by_cases h1:n < 0
 ·simp[h1,Zl,show ¬ 0≤n by omega]
 by_cases h2:12 < n
 ·simp[h1,h2,Zl,show ¬ n≤12 by omega]
 by_cases h3:(400:Int) < (ps.length:Int)
 ·simp only[decide_eq_true h3,Bool.or_true,cond_true]
  simp[Zl,show ¬ ((ps.length:Int)≤400) by omega]
 rw[decide_eq_false h1,decide_eq_false h2,decide_eq_false h3]
 have hv:∀ b,ps.all (fun p=>decide ((p.length:Int)≤96)&&Zlj p n)=b→Zl (n,ps)=b:=fun b h=>by
  simp only[Zl,h]
  rw[decide_eq_true (show (0:Int)≤n by omega),decide_eq_true (show n≤12 by omega),decide_eq_true (show (ps.length:Int)≤400 by omega)]
  rfl
 refine Lp.all ps [] (fun p=>decide ((p.length:Int)≤96)&&Zlj p n) hl (fun i R hi hi' hf ht hff=>?_) (fun R h=>?_)
 ·simp only[decide_eq_true hi',Int.toNat_natCast]
  refine⟨⟨by omega,hi'⟩,?_⟩
  by_cases h4:(96:Int) < ((ps.getD i []).length:Int)
  ·simp only[decide_eq_true h4,cond_true]
   exact (hv false (hff (by rw[decide_eq_false (show ¬ (((ps.getD i []).length:Int)≤96) by omega)];rfl))).symm
  ·simp only[decide_eq_false h4,cond_false]
   have h5:decide (((ps.getD i []).length:Int)≤96)=true:=decide_eq_true (by omega)
   rw[h5,Bool.true_and] at ht hff
   refine Lp.all (ps.getD i []) Za (fun c=>Zi c&&((c.2.2.1.length:Int) == n)) (by omega) (fun j R' hj hj' hf' ht' hff'=>?_) (fun R' h'=>?_)
   ·simp only[decide_eq_true hj',Int.toNat_natCast,cond_true]
    refine⟨⟨by omega,by omega⟩,hg _,hg _,hg _,hg _,fun h=>⟨h,h,trivial⟩,fun h=>by rw[h];rfl,?_⟩
    have hb:((!Zi ((ps.getD i []).getD j Za))||((((ps.getD i []).getD j Za).2.2.1.length:Int) != n))=!(Zi ((ps.getD i []).getD j Za)&&((((ps.getD i []).getD j Za).2.2.1.length:Int) == n)):=by
     rw[Bool.not_and];rfl
    rw[hb]
    by_cases h6:(Zi ((ps.getD i []).getD j Za)&&((((ps.getD i []).getD j Za).2.2.1.length:Int) == n))=true
    ·have:=ht' h6
     rw[h6]
     exact⟨hf',this⟩
    ·rw[Bool.not_eq_true] at h6
     have:=hff' h6
     rw[h6]
     exact (hv false (hff this)).symm
   ·simp only[Int.lt_irrefl,decide_false,cond_false]
    exact⟨hf,ht h'⟩
 ·simp only[Int.lt_irrefl,decide_false,cond_false]
  exact (hv true h).symm
def Zds(n:Int)(l:List Int):Bool:=decide (∀ v∈l,0≤v∧v < n)&&decide l.Nodup
theorem ZkY{n:Int}{l:List Int}:Zds n l=true↔(∀ v∈l,0≤v∧v < n)∧l.Nodup:=by
 unfold Zds;rw[Bool.and_eq_true,decide_eq_true_iff,decide_eq_true_iff]
theorem Zqb{n:Int}{l:List Int}{i:Nat}(h:Zds n l=true):Zds n (l.take i)=true:=by
 rw[ZkY] at h ⊢
 exact⟨fun v hv=>h.1 v (List.mem_of_mem_take hv),h.2.sublist (List.take_sublist _ _)⟩
theorem Zmv{n:Int}{l:List Int}{i:Nat}(h:Zds n (l.take i)=true)(e:i < l.length):Zds n (l.take (i+1))=true↔(0≤l.getD i 0∧l.getD i 0 < n)∧l.getD i 0∉l.take i:=by
 rw[ZkY] at h ⊢
 rw[Zv 0 e,List.nodup_append]
 constructor
 ·rintro⟨h1,_,_,h2⟩
  exact⟨h1 _ (by simp),fun hm=>h2 _ hm _ (by simp) rfl⟩
 ·rintro⟨h1,h2⟩
  refine⟨fun v hv=>?_,h.2,by simp,fun a ha b hb=>?_⟩
  ·rcases List.mem_append.1 hv with hv | hv
   ·exact h.1 v hv
   ·rw[List.mem_singleton.1 hv];exact h1
  ·rw[List.mem_singleton.1 hb];rintro rfl;exact h2 ha
theorem ZsA{n:Int}{l:List Int}{i:Nat}(h:Zds n (l.take i)=true)(e:i < l.length)(hb:¬ ((0≤l.getD i 0∧l.getD i 0 < n)∧l.getD i 0∉l.take i)):Zds n l=false:=by
 cases hp:Zds n l with
 | false=>rfl
 | true=>exact absurd ((Zmv h e).1 (Zqb hp)) hb
def ZcU(C:List Int)(i:Nat):List Int:=C.take i++C.drop (i+1)
abbrev Zm.fn(x:Lin×Int×Unit):Lin:=(ZcU x.1.1 x.2.1.toNat,x.1.2)
abbrev Zm.pre(x:Lin×Int×Unit):Prop:=x.1.1.length≤1048576∧0≤x.2.1∧x.2.1 < (x.1.1.length:Int)
def Zm.wp(x0:Lin)(x1:Int)(Q:Lin→Prop):Prop:=Lp (σ:=Int×Int×List Int) (fun y3 R3=>let v0:=List.getD x0.1 (Int.toNat y3.1) (0:Int);cond (decide (y3.1 < ((List.length x0.1:Nat):Int))) (((0:Int)≤y3.1∧y3.1 < ((List.length x0.1:Nat):Int))∧cond (y3.1 != x1) ((((List.length y3.2.2+List.length [v0])*8)≤140737488355328∧(List.length y3.2.2+List.length [v0])≤9223372036854775807)∧(Zo IntKind.i64 (y3.1+(1:Int))∧R3 ((y3.1+(1:Int)),(y3.2.1,(y3.2.2++[v0]))))) (Zo IntKind.i64 (y3.1+(1:Int))∧R3 ((y3.1+(1:Int)),y3.2))) (Q (y3.2.2,y3.2.1))) ((0:Int),(x0.2,([]:List Int)))
theorem Ze9{α β:Type}{l:List α}{f:α→β}{d:α}{e:β}{i:Nat}(h:i < l.length):(l.map f).getD i e=f (l.getD i d):=by
 simp[List.getD_eq_getElem?_getD,h]
theorem ZhI{C:List Int}{i:Nat}(h:i < C.length):(ZcU C i).length=C.length - 1:=by unfold ZcU;simp;omega
theorem Zov{C:List Int}{i:Nat}{n:Int}(h:n∈ZcU C i):n∈C:=by
 unfold ZcU at h
 rcases List.mem_append.1 h with h | h
 ·exact List.mem_of_mem_take h
 ·exact List.mem_of_mem_drop h
theorem Zsi{C:List Int}{i:Nat}{P:Int→Prop}(h:∀ n∈C,P n)(h0:P 0):P (C.getD i 0):=by
 by_cases e:i < C.length
 ·exact h _ (Zj e)
 ·rw[List.getD_eq_getElem?_getD,List.getElem?_eq_none (by omega)];exact h0
theorem Zjn{C:List Int}{i k:Nat}(h:k < C.length):ZcU (C.take (k+1)) i=if k=i then ZcU (C.take k) i else ZcU (C.take k) i++[C.getD k 0]:=by
 unfold ZcU
 rw[Zv 0 h]
 have hl:(C.take k).length=k:=by simp;omega
 by_cases e:k=i
 ·rw[if_pos e];subst e
  rw[List.take_append_of_le_length (by omega),List.drop_of_length_le (by simp;omega),List.drop_of_length_le (by omega)]
 ·rw[if_neg e]
  by_cases hk:k < i
  ·have t1:(List.take k C++[C.getD k 0]).take i=List.take k C++[C.getD k 0]:=List.take_of_length_le (by simp only[List.length_append,List.length_cons,List.length_nil];omega)
   have t2:(List.take k C++[C.getD k 0]).drop (i+1)=[]:=List.drop_of_length_le (by simp only[List.length_append,List.length_cons,List.length_nil];omega)
   have t3:(List.take k C).take i=List.take k C:=List.take_of_length_le (by omega)
   have t4:(List.take k C).drop (i+1)=[]:=List.drop_of_length_le (by omega)
   rw[t1,t2,t3,t4,List.append_nil,List.append_nil]
  ·rw[List.take_append_of_le_length (by omega),List.drop_append_of_le_length (by omega),List.append_assoc]
theorem Zm.spec(l:Lin)(i:Int)(hp:Zm.pre (l,i,())):Zm.wp l i (fun r=>r=Zm.fn (l,i,())):=by
 obtain⟨hl,h0,h1⟩:=hp
 simp only at hl h0 h1
 obtain⟨n,rfl⟩:∃ n:Nat,i=n:=⟨i.toNat,by omega⟩
 simp only[Zm.wp,Zm.fn,Int.toNat_natCast]
 refine Lp.iter l.1.length (fun k z=>z=((k:Int),l.2,ZcU (l.1.take k) n)) (by simp[ZcU]) ?_
 rintro k z hk rfl R hR
 by_cases e:k < l.1.length
 ·simp only[decide_eq_true (show (k:Int) < (l.1.length:Int) by omega),Int.toNat_natCast,cond_true]
  refine⟨⟨by omega,by omega⟩,?_⟩
  have hst:=Zjn (i:=n) e
  have hcl:(ZcU (l.1.take k) n).length≤k:=by unfold ZcU;simp;omega
  by_cases hkn:k=n
  ·rw[show (((k:Nat):Int) != (n:Int))=false by simp[hkn]]
   rw[if_pos hkn] at hst
   exact⟨⟨by omega,by omega⟩,hR e _ (by rw[hst];rfl)⟩
  ·rw[show (((k:Nat):Int) != (n:Int))=true by simp;omega]
   rw[if_neg hkn] at hst
   exact⟨⟨by simp only[List.length_cons,List.length_nil];omega,by simp only[List.length_cons,List.length_nil];omega⟩,⟨by omega,by omega⟩,hR e _ (by rw[hst];rfl)⟩
 ·have:k=l.1.length:=by omega
  subst this
  simp only[Int.lt_irrefl,decide_false,cond_false,List.take_length]
def atC(c:Zc)(x:List Int):Int:=c.2.2.2+Zfx c.2.2.1 x
theorem ZoS:∀ (C x:List Int),Zfx (Zb5 C) x=-Zfx C x
 | [],x=>by simp[Zb5,Zfx]
 | n::C,[]=>by simp[Zb5,Zfx]
 | n::C,y::x=>by
   have:=ZoS C x
   simp only[Zb5] at this
   simp only[Zb5,List.map_cons,Zfx,this,Int.neg_mul];omega
theorem Zoz(g:Int):∀ (C D x:List Int),C.length=D.length→(∀ i,i < C.length→C.getD i 0=g*D.getD i 0)→Zfx C x=g*Zfx D x
 | [],[],x,_,_=>by simp[Zfx]
 | [],_::_,_,h,_=>by simp at h
 | _::_,[],_,h,_=>by simp at h
 | n::C,m::D,[],_,_=>by simp[Zfx]
 | n::C,m::D,y::x,h,hi=>by
   have h0:=hi 0 (by simp)
   simp only[List.getD_cons_zero] at h0
   have ih:=Zoz g C D x (by simpa using h) (fun i hi'=>by have:=hi (i+1) (by simpa using hi');simpa using this)
   simp only[Zfx,h0,ih,Int.mul_add,Int.mul_assoc]
theorem Zen{g:Int}{C:List Int}(h:∀ n∈C,g ∣ n)(x:List Int):Zfx C x=g*Zfx (C.map (·.tdiv g)) x:=by
 refine Zoz g C _ x (by simp) fun i hi=>?_
 have hm:C.getD i 0∈C:=Zj hi
 have e:(C.map (·.tdiv g)).getD i 0=(C.getD i 0).tdiv g:=by simp[List.getD_eq_getElem?_getD,hi]
 rw[e,Int.mul_tdiv_cancel' (h _ hm)]
theorem ZmF{C:List Int}(h:∀ n∈C,n=0)(x:List Int):Zfx C x=0:=by
 have:=Zen (g:=0) (C:=C) (fun n hn=>by rw[h n hn];exact Int.dvd_refl _) x
 simpa using this
theorem ZoI(m:Int):∀ (C x:List Int),m ∣ Zfx C x - Zfx (C.map (· % m)) x
 | [],x=>by simp[Zfx]
 | n::C,[]=>by simp[Zfx]
 | n::C,y::x=>by
   obtain⟨k,hk⟩:=ZoI m C x
   refine⟨n / m*y+k,?_⟩
   have h1:=Int.mul_ediv_add_emod n m
   simp only[List.map_cons,Zfx]
   have e:n*y=m*(n / m)*y+n % m*y:=by rw[← Int.add_mul,h1]
   rw[e,Int.mul_add,← Int.mul_assoc]
   omega
theorem Zb4{l:List Int}{n:Int}(h:n∈l):(Za1 l:Int) ∣ n:=Int.ofNat_dvd_left.2 ((ZfX (l:=l) (g:=0)).2 n h)
theorem ZmP{v m:Int}:(v.tmod m == 0)=decide (m ∣ v):=by
 rw[Bool.eq_iff_iff];simp[Int.dvd_iff_tmod_eq_zero]
theorem Zum(c:Zc)(x:List Int)(h0:c.1=0):((geF c).2=0→isF (geF c).1 x=isF c x)∧(0 < (geF c).2→isF c x=true)∧((geF c).2 < 0→isF c x=false):=by
 have ht:isF c x=decide (0≤atC c x):=by unfold isF Zgu;rw[if_pos h0];rfl
 rw[ht]
 unfold geF
 split
 ·rename_i hg
  have hz:Zfx c.2.2.1 x=0:=ZmF (ZhT hg) x
  have:atC c x=c.2.2.2:=by simp[atC,hz]
  rw[this]
  unfold ZcI
  by_cases hk:0≤c.2.2.2<;>simp[hk]
 ·rename_i hg
  refine⟨fun _=>?_,fun h=>absurd h (by simp),fun h=>absurd h (by simp)⟩
  have hd:=Zen (g:=(Za1 c.2.2.1:Int)) (C:=c.2.2.1) (fun n hn=>Zb4 hn) x
  have hpos:(0:Int) < (Za1 c.2.2.1:Int):=by omega
  simp only[isF,Zgu,if_true,atC,hd]
  rw[Bool.eq_iff_iff,decide_eq_true_iff,decide_eq_true_iff]
  generalize Zfx (c.2.2.1.map (·.tdiv (Za1 c.2.2.1:Int))) x=d
  generalize (Za1 c.2.2.1:Int)=g at hpos
  generalize c.2.2.2=k
  have h1:-d≤k / g↔-d*g≤k:=Int.le_ediv_iff_mul_le hpos
  rw[Int.neg_mul,Int.mul_comm] at h1
  constructor
  ·intro h;have:=h1.1 (by omega);omega
  ·intro h;have:=h1.2 (by omega);omega
theorem ZuE(c:Zc)(x:List Int)(h1:c.1=1):((eqF c).2=0→isF (eqF c).1 x=isF c x)∧(0 < (eqF c).2→isF c x=true)∧((eqF c).2 < 0→isF c x=false):=by
 have ht:isF c x=(atC c x == 0):=by simp[isF,Zgu,h1,atC]
 rw[ht]
 unfold eqF
 split
 ·rename_i hg
  by_cases hz:Za1 c.2.2.1=0
  ·have hd:Zfx c.2.2.1 x=0:=ZmF (ZhT hz) x
   have:atC c x=c.2.2.2:=by simp[atC,hd]
   rw[this]
   unfold ZcI
   by_cases hk:c.2.2.2=0<;>simp[hk,hz]
  ·have hm:c.2.2.2.tmod (Za1 c.2.2.1)≠0:=hg.resolve_left hz
   have hne:atC c x≠0:=fun e=>hm (by
    have hd:=Zen (g:=(Za1 c.2.2.1:Int)) (C:=c.2.2.1) (fun n hn=>Zb4 hn) x
    unfold atC at e
    rw[← Int.dvd_iff_tmod_eq_zero]
    exact⟨-Zfx (c.2.2.1.map (·.tdiv (Za1 c.2.2.1:Int))) x,by rw[Int.mul_neg,← hd];omega⟩)
   unfold ZcI
   simp[hz,hne]
 ·rename_i hg
  simp only[not_or,ne_eq,Classical.not_not] at hg
  obtain⟨hz,hm⟩:=hg
  refine⟨fun _=>?_,fun h=>absurd h (by simp),fun h=>absurd h (by simp)⟩
  have hs:Zbg c=(Za1 c.2.2.1:Int)∨Zbg c=-(Za1 c.2.2.1:Int):=by unfold Zbg;split<;>simp
  have hdv:∀ n:Int,(Za1 c.2.2.1:Int) ∣ n→Zbg c ∣ n:=fun n hn=>by
   rcases hs with e | e<;>rw[e]
   ·exact hn
   ·exact Int.neg_dvd.2 hn
  have hne:Zbg c≠0:=by rcases hs with e | e<;>rw[e]<;>omega
  have hd:=Zen (g:=Zbg c) (C:=c.2.2.1) (fun n hn=>hdv n (Zb4 hn)) x
  have hk:Zbg c*c.2.2.2.tdiv (Zbg c)=c.2.2.2:=Int.mul_tdiv_cancel' (hdv _ (Int.dvd_iff_tmod_eq_zero.2 hm))
  simp only[isF,Zgu,show ¬ ((1:Int)=0) by omega,if_false,if_true,atC,hd]
  rw[Bool.eq_iff_iff,beq_iff_eq,beq_iff_eq]
  rw[show c.2.2.2+Zbg c*Zfx (c.2.2.1.map (·.tdiv (Zbg c))) x=Zbg c*(c.2.2.2.tdiv (Zbg c)+Zfx (c.2.2.1.map (·.tdiv (Zbg c))) x) by rw[Int.mul_add,hk]]
  constructor
  ·intro h;rw[h,Int.mul_zero]
  ·intro h;exact (Int.mul_eq_zero.1 h).resolve_left hne
theorem ZsF(c:Zc)(x:List Int)(h2:c.1=2)(hm:1≤c.2.1):((ZkX c).2=0→isF (ZkX c).1 x=isF c x)∧(0 < (ZkX c).2→isF c x=true)∧((ZkX c).2 < 0→isF c x=false):=by
 have ht:isF c x=decide (c.2.1 ∣ atC c x):=by
  simp only[isF,Zgu,h2,atC,show ¬ ((2:Int)=0) by omega,show ¬ ((2:Int)=1) by omega,if_false]
  exact ZmP
 have hmod:c.2.1 ∣ atC c x↔c.2.1 ∣ c.2.2.2 % c.2.1+Zfx (c.2.2.1.map (· % c.2.1)) x:=by
  obtain⟨k,hk⟩:=ZoI c.2.1 c.2.2.1 x
  have e:=Int.mul_ediv_add_emod c.2.2.2 c.2.1
  have:atC c x=(c.2.2.2 % c.2.1+Zfx (c.2.2.1.map (· % c.2.1)) x)+c.2.1*(c.2.2.2 / c.2.1+k):=by
   unfold atC;rw[Int.mul_add];omega
  rw[this]
  exact Int.dvd_add_left (Int.dvd_mul_right _ _)
 have hgm:(Zb8 c:Int) ∣ c.2.1:=Zb4 (l:=c.2.1::c.2.2.1.map (· % c.2.1)) (by simp)
 have hgc:∀ n∈c.2.2.1.map (· % c.2.1),(Zb8 c:Int) ∣ n:=fun n hn=>Zb4 (l:=c.2.1::c.2.2.1.map (· % c.2.1)) (by simp only[List.mem_cons];exact .inr hn)
 have hg0:0 < Zb8 c:=Zf6 hm _
 have hd:=Zen (g:=(Zb8 c:Int)) (C:=c.2.2.1.map (· % c.2.1)) hgc x
 rw[ht]
 unfold ZkX
 split
 ·rename_i hk
  have hn:¬ c.2.1 ∣ atC c x:=fun h=>hk (by
   have h3:=Int.dvd_trans hgm (hmod.1 h)
   rw[← Int.dvd_iff_tmod_eq_zero]
   exact (Int.dvd_add_left (by rw[hd];exact Int.dvd_mul_right _ _)).1 h3)
  simp[ZcI,hn]
 ·rename_i hk
  simp only[ne_eq,Classical.not_not] at hk
  have hk':=Int.dvd_iff_tmod_eq_zero.2 hk
  split
  ·rename_i he
   have hn:c.2.1 ∣ atC c x:=hmod.2 (by
    have hd':c.2.1 ∣ Zfx (c.2.2.1.map (· % c.2.1)) x:=by rw[hd,← he];exact Int.dvd_mul_right _ _
    exact Int.dvd_add (by have:=hk';rwa [← he] at this) hd')
   simp[ZcI,hn]
  ·refine⟨fun _=>?_,fun h=>absurd h (by simp),fun h=>absurd h (by simp)⟩
   simp only[isF,Zgu,show ¬ ((2:Int)=0) by omega,show ¬ ((2:Int)=1) by omega,if_false]
   rw[ZmP,Bool.eq_iff_iff,decide_eq_true_iff,decide_eq_true_iff,hmod,hd]
   have e1:(Zb8 c:Int)*c.2.1.tdiv (Zb8 c)=c.2.1:=Int.mul_tdiv_cancel' hgm
   have e2:(Zb8 c:Int)*(c.2.2.2 % c.2.1).tdiv (Zb8 c)=c.2.2.2 % c.2.1:=Int.mul_tdiv_cancel' hk'
   have hne:(Zb8 c:Int)≠0:=by omega
   generalize Zfx ((c.2.2.1.map (· % c.2.1)).map (·.tdiv (Zb8 c:Int))) x=d
   rw[← Int.mul_dvd_mul_iff_left hne,Int.mul_add,e1,e2]
theorem ZhB{c:Zc}(hb:ZpM c)(x:List Int):((ZbD c).2=0→isF (ZbD c).1 x=isF c x)∧(0 < (ZbD c).2→isF c x=true)∧((ZbD c).2 < 0→isF c x=false):=by
 unfold ZbD
 rcases hb with h | h | ⟨h,h2,_⟩
 ·rw[if_pos h];exact Zum c x h
 ·rw[if_neg (by omega),if_pos h];exact ZuE c x h
 ·rw[if_neg (by omega),if_neg (by omega)];exact ZsF c x h h2
def inP(p:List Zc)(x:List Int):Bool:=p.all fun c=>isF c x
theorem ZkR{p:List Zc}{x:List Int}:inP p x=true↔∀ c∈p,isF c x=true:=by simp[inP]
theorem ZpF{p:List Zc}(hb:ZaD p)(x:List Int)(h:ZaF p=true):inP p x=false:=by
 simp only[ZaF,List.any_map,List.any_eq_true,Function.comp_apply,decide_eq_true_iff] at h
 obtain⟨c,hc,h⟩:=h
 have:=(ZhB (hb.2 c hc).1 x).2.2 h
 simp only[inP,List.all_eq_false]
 exact⟨c,hc,by rw[this];simp⟩
theorem ZuI{p:List Zc}(hb:ZaD p)(x:List Int)(h:ZaF p=false):inP (ZbN p) x=inP p x:=by
 rw[Bool.eq_iff_iff,ZkR,ZkR]
 have hn:∀ c∈p,¬ (ZbD c).2 < 0:=fun c hc hlt=>by
  have:ZaF p=true:=by
   simp only[ZaF,List.any_map,List.any_eq_true,Function.comp_apply,decide_eq_true_iff]
   exact⟨c,hc,hlt⟩
  rw[h] at this;cases this
 constructor
 ·intro ha c hc
  have hs:=ZhB (hb.2 c hc).1 x
  rcases Int.lt_trichotomy (ZbD c).2 0 with h0 | h0 | h0
  ·exact absurd h0 (hn c hc)
  ·rw[← hs.1 h0]
   refine ha _ ?_
   simp only[ZbN,List.mem_map,List.mem_filter]
   exact⟨ZbD c,⟨⟨c,hc,rfl⟩,by simpa using h0⟩,rfl⟩
  ·exact hs.2.1 h0
 ·intro ha c hc
  simp only[ZbN,List.mem_map,List.mem_filter] at hc
  obtain⟨r,⟨⟨d,hd,rfl⟩,hr⟩,rfl⟩:=hc
  rw[(ZhB (hb.2 d hd).1 x).1 (by simpa using hr)]
  exact ha d hd
def Zub(L:Zc→Prop)(x:List Int):Prop:=∀ c,L c→isF c x=true
theorem Zfk{c:Zc}(h:c.1=0)(x:List Int):isF c x=true↔0≤atC c x:=by
 unfold isF Zgu;rw[if_pos h,decide_eq_true_iff];rfl
theorem ZgA{c:Zc}(h:c.1=1)(x:List Int):isF c x=true↔atC c x=0:=by
 unfold isF Zgu;rw[if_neg (by omega),if_pos h,beq_iff_eq];rfl
theorem Zke(f:Zc→Int):∀ {l:List Zc},l≠[]→∃ c∈l,∀ d∈l,f c≤f d
 | [],h=>absurd rfl h
 | [c],_=>⟨c,by simp,fun d hd=>by simp only[List.mem_singleton] at hd;subst hd;exact Int.le_refl _⟩
 | c::d::l,_=>by
   obtain⟨e,he,hm⟩:=Zke f (l:=d::l) (by simp)
   by_cases h:f c≤f e
   ·refine⟨c,by simp,fun y hy=>?_⟩
    rcases List.mem_cons.1 hy with rfl | hy
    ·exact Int.le_refl _
    ·exact Int.le_trans h (hm y hy)
   ·refine⟨e,List.mem_cons_of_mem _ he,fun y hy=>?_⟩
    rcases List.mem_cons.1 hy with rfl | hy
    ·omega
    ·exact hm y hy
theorem ZwT{l:List Zc}{x:List Int}:Zub (Lm l) x↔∀ c∈l,isF c x=true:=by
 refine⟨fun h d hd=>?_,fun h c hc=>h c hc.1⟩
 by_cases h0:d.1=0
 ·obtain⟨c,hc,hm⟩:=Zke (fun c=>c.2.2.2) (l:=l.filter fun c=>decide (c.1=0∧c.2.2.1=d.2.2.1)) (List.ne_nil_of_mem (List.mem_filter.2 ⟨hd,by simp[h0]⟩))
  obtain⟨hcl,hcp⟩:=List.mem_filter.1 hc
  simp only[decide_eq_true_iff] at hcp
  have hL:Lm l c:=⟨hcl,fun _ e he h1 h2=>hm e (List.mem_filter.2 ⟨he,by simp[h1,h2,hcp.2]⟩)⟩
  have h1:=(Zfk hcp.1 x).1 (h c hL)
  have h2:=hm d (List.mem_filter.2 ⟨hd,by simp[h0]⟩)
  rw[Zfk h0]
  unfold atC at h1 ⊢
  rw[hcp.2] at h1
  omega
 ·exact h d ⟨hd,fun e=>absurd e h0⟩
theorem Zq7{n:Nat}{c:Zc}(h:Mk n c)(h0:c.1=0)(x:List Int):isF (Zlv c) x=true↔atC c x=0:=by
 have hs:=(ZhB (c:=(1,0,c.2.2)) (.inr (.inl rfl)) x).1 (by
  have hg:=h.gcd h0
  simp[ZbD,eqF,hg,Int.tmod_one])
 rw[show Zlv c=(ZbD (1,0,c.2.2)).1 from rfl,hs,ZgA rfl]
 rfl
theorem ZoG{c d:Zc}(h:d.2.2.1=Zb5 c.2.2.1)(x:List Int):atC d x=d.2.2.2+c.2.2.2 - atC c x:=by
 unfold atC;rw[h,ZoS];omega
theorem Zwu{n:Nat}{L:Zc→Prop}(hm:∀ c,L c→Mk n c){x:List Int}:Zub (MM L) x↔Zub L x:=by
 constructor
 ·intro h c hc
  by_cases hO:c.1=0∧Opp L c
  ·have:=(Zq7 (hm c hc) hO.1 x).1 (h _ (.inr ⟨c,hc,hO.1,hO.2,rfl⟩))
   rw[Zfk hO.1];omega
  ·exact h c (.inl ⟨hc,fun h0 ho=>hO ⟨h0,ho⟩⟩)
 ·rintro h c (⟨hc,_⟩ | ⟨d,hd,h0,⟨e,he,h1,h2,h3⟩,rfl⟩)
  ·exact h c hc
  ·rw[Zq7 (hm d hd) h0]
   have a1:=(Zfk h0 x).1 (h d hd)
   have a2:=(Zfk h1 x).1 (h e he)
   rw[ZoG h2] at a2
   omega
theorem Zta{L:Zc→Prop}{x:List Int}(h:Zg1 L):¬ Zub L x:=fun ha=>by
 obtain⟨c,d,hc,hd,h0,h1,h2,h3⟩:=h
 have a1:=(Zfk h0 x).1 (ha c hc)
 have a2:=(Zfk h1 x).1 (ha d hd)
 rw[ZoG h2] at a2
 omega
theorem ZnT{c d:Zc}(h:d.2.2.1=c.2.2.1)(x:List Int):atC d x=d.2.2.2 - c.2.2.2+atC c x:=by
 unfold atC;rw[h];omega
theorem Zs1{M:Zc→Prop}{x:List Int}(h:ZfO M):¬ Zub M x:=fun ha=>by
 rcases h with ⟨e,f,he,hf,h1,h2,h3,h4⟩ | ⟨c,e,hc,he,h0,h1,⟨h2,h3⟩ | ⟨h2,h3⟩⟩
 ·have a1:=(ZgA h1 x).1 (ha e he)
  have a2:=(ZgA h2 x).1 (ha f hf)
  rw[ZnT h3] at a1
  omega
 ·have a1:=(Zfk h0 x).1 (ha c hc)
  have a2:=(ZgA h1 x).1 (ha e he)
  rw[ZnT h2] at a2
  omega
 ·have a1:=(Zfk h0 x).1 (ha c hc)
  have a2:=(ZgA h1 x).1 (ha e he)
  rw[ZoG h2] at a2
  omega
theorem ZuP{M:Zc→Prop}{x:List Int}(hv:¬ ZfO M):Zub (Zt0 M) x↔Zub M x:=by
 refine⟨fun h c hc=>?_,fun h c hc=>h c hc.1⟩
 by_cases hf:Zt0 M c
 ·exact h c hf
 ·have h0:c.1=0:=Classical.byContradiction fun h0=>hf ⟨hc,fun e=>absurd e h0⟩
  have:∃ e,M e∧e.1=1∧(e.2.2.1=c.2.2.1∨e.2.2.1=Zb5 c.2.2.1):=Classical.byContradiction fun hn=>hf ⟨hc,fun _ e he h1=>⟨fun h2=>hn ⟨e,he,h1,.inl h2⟩,fun h2=>hn ⟨e,he,h1,.inr h2⟩⟩⟩
  obtain⟨e,he,h1,h2⟩:=this
  have a2:=(ZgA h1 x).1 (h e ⟨he,fun e0=>by omega⟩)
  rw[Zfk h0]
  rcases h2 with h2 | h2
  ·have:¬ c.2.2.2 < e.2.2.2:=fun h3=>hv (.inr ⟨c,e,hc,he,h0,h1,.inl ⟨h2,h3⟩⟩)
   rw[ZnT h2] at a2
   omega
  ·have:¬ c.2.2.2+e.2.2.2 < 0:=fun h3=>hv (.inr ⟨c,e,hc,he,h0,h1,.inr ⟨h2,h3⟩⟩)
   rw[ZoG h2] at a2
   omega
theorem ZiB{p:List Zc}{n:Nat}(hb:ZaD p)(hd:Zek p n)(hv:ZaF p=false)(h1:¬ Zg1 (Lm (ZbN p)))(h2:¬ ZfO (MM (Lm (ZbN p)))):∃ m:List Zc,∀ x,x∈m↔Zt0 (MM (Lm (ZbN p))) x:=by
 have hl:=Zjh hb hd
 have e:(fun x=>x∈Zbu (ZbN p))=Lm (ZbN p):=funext fun x=>propext (ZcZ hl x)
 have hL:∀ c∈Zbu (ZbN p),Mk n c:=Zhz (fun d c hd _=>Zry hd) hl
 have hu:ZwL (Zbu (ZbN p)):=fun c hc d hd h0 h1 h=>Lm.uniq hl ((ZcZ hl c).1 hc) ((ZcZ hl d).1 hd) h0 h1 h
 obtain⟨hp1,hp2⟩:=Zmo hL hu
 rw[e] at hp1 hp2
 rcases Z9 (Zew (Zbu (ZbN p))) with h3 | ⟨M,h3⟩
 ·exact absurd (hp1 h3) h1
 ·obtain⟨hnv,hM⟩:=hp2 M h3
  have eM:(fun x=>x∈M)=MM (Lm (ZbN p)):=funext fun x=>propext (hM x)
  have hMk:∀ c∈M,Mk n c:=ZmV (fun c h0 hc=>(Zdc hc h0).1) hL h3
  obtain⟨hs1,hs2⟩:=Zh4 hMk
  rw[eM] at hs1 hs2
  rcases Z9 (Zb2 M) with h4 | ⟨out,h4⟩
  ·exact absurd (hs1 h4) h2
  ·exact⟨out,(hs2 out h4).2⟩
theorem ZsY{p:List Zc}{n:Nat}(hb:ZaD p)(hd:Zek p n)(x:List Int)(h3:(Zac p).2.2=0):((Zac p).2.1=true→inP p x=false)∧((Zac p).2.1=false→inP (Zac p).1 x=inP p x):=by
 by_cases hv:ZaF p=true
 ·have e:Zac p=([],true,0):=by have:=Zca p;rw[hv] at this;simpa using this
  rw[e]
  exact⟨fun _=>ZpF hb x hv,fun h=>by cases h⟩
 ·have hv:ZaF p=false:=by simpa using hv
  obtain⟨s1,s2⟩:=ZdK hb hd hv
  have hl:=Zjh hb hd
  have hLm:∀ c,Lm (ZbN p) c→Mk n c:=fun c hc=>hl c hc.1
  have base:Zub (MM (Lm (ZbN p))) x↔inP p x=true:=by rw[Zwu hLm,ZwT,← ZkR,ZuI hb x hv]
  by_cases hw:Zg1 (Lm (ZbN p))∨ZfO (MM (Lm (ZbN p)))
  ·rw[s1 hw]
   refine⟨fun _=>?_,fun h=>(by cases h)⟩
   rw[← Bool.not_eq_true,← base]
   rcases hw with h | h
   ·rw[Zwu hLm];exact Zta h
   ·exact Zs1 h
  ·have hw1:¬ Zg1 (Lm (ZbN p)):=fun h=>hw (.inl h)
   have hw2:¬ ZfO (MM (Lm (ZbN p))):=fun h=>hw (.inr h)
   obtain⟨m,hm⟩:=ZiB hb hd hv hw1 hw2
   have hk3:K3 m:=fun c hc=>(by
    rcases ((hm c).1 hc).1 with ⟨h,_⟩ | ⟨d,h,h0,_,rfl⟩
    ·exact (hLm c h).2.1
    ·exact (Zdc (hLm d h) h0).1.2.1)
   rw[s2 hw1 hw2 m hm] at h3 ⊢
   split at h3
   ·cases h3
   ·rename_i hc
    rw[if_neg hc]
    refine⟨fun h=>(by cases h),fun _=>?_⟩
    rw[Bool.eq_iff_iff,← base,← ZuP hw2,ZkR]
    constructor
    ·intro h c hc;exact h c ((ZcL hk3 c).2 ((hm c).2 hc))
    ·intro h c hc;exact h c ((hm c).1 ((ZcL hk3 c).1 hc))
def inS(l:List (List Zc))(x:List Int):Bool:=l.any fun p=>inP p x
theorem Zu4{l:List (List Zc)}{x:List Int}:inS l x=true↔∃ p∈l,inP p x=true:=by simp[inS]
theorem Zpd(a b:List (List Zc))(x:List Int):inS (a++b) x=(inS a x||inS b x):=by simp[inS]
theorem ZpA{out out':List (List Zc)}{p:List Zc}{n:Nat}(hb:ZaD p)(hd:Zek p n)(x:List Int)(h:Zaa out p=some out'):inS out' x=(inS out x||inP p x):=by
 unfold Zaa at h
 split at h
 ·cases h
 ·rename_i h3
  have h3:(Zac p).2.2=0:=by simpa using h3
  obtain⟨t1,t2⟩:=ZsY hb hd x h3
  split at h
  ·rename_i h4
   cases h
   by_cases hv:(Zac p).2.1=true
   ·rw[t1 hv,Bool.or_false]
   ·have hv:(Zac p).2.1=false:=by simpa using hv
    have hm:=h4.resolve_left (by rw[hv];simp)
    rw[← t2 hv]
    cases hq:inP (Zac p).1 x with
    | false=>rw[Bool.or_false]
    | true=>rw[Bool.or_true];exact Zu4.2 ⟨_,hm,hq⟩
  ·rename_i h4
   split at h
   ·cases h
   ·cases h
    have hv:(Zac p).2.1=false:=by
     cases hv:(Zac p).2.1 with
     | false=>rfl
     | true=>exact absurd (.inl hv) h4
    rw[Zpd,← t2 hv];simp[inS]
theorem ZqB{n:Nat}(x:List Int):∀ {l out out':List (List Zc)},(∀ p∈l,ZaD p∧Zek p n)→l.foldlM Zaa out=some out'→inS out' x=(inS out x||inS l x)
 | [],out,out',_,h=>by cases h;simp[inS]
 | p::l,out,out',hl,h=>by
   rw[List.foldlM_cons] at h
   obtain⟨o1,h1,h2⟩:=Option.bind_eq_some_iff.1 h
   obtain⟨hb,hd⟩:=hl p (by simp)
   rw[ZqB x (fun q hq=>hl q (List.mem_cons_of_mem _ hq)) h2,ZpA hb hd x h1,Bool.or_assoc]
   congr 1
theorem Zur{n:Nat}(x:List Int){l out:List (List Zc)}(hl:∀ p∈l,ZaD p∧Zek p n)(h:ZfG l=some out):inS out x=inS l x:=by
 rw[ZqB x hl h];simp[inS]
theorem ZpR{n:Int}{o:Option (List (List Zc))}(h:(ZgW n o).2=0):∃ out,o=some out∧(ZgW n o).1=(n,out):=by
 cases o with
 | none=>simp[ZgW] at h
 | some out=>exact⟨out,rfl,rfl⟩
theorem ZsM{s:ZbK}(x:List Int)(h:(Zaz s).2=0):inS (Zaz s).1.2 x=inS s.2 x∧(Zaz s).1.1=s.1∧Zl s=true:=by
 unfold Zaz at h ⊢
 split at h
 ·simp at h
 ·rename_i hv
  have hv:Zl s=true:=by simpa using hv
  rw[if_neg (by rw[hv];simp)]
  obtain⟨out,h1,h2⟩:=ZpR h
  rw[h2]
  exact⟨Zur x (fun p hp=>Zl.D hv hp) h1,rfl,hv⟩
def PD(n:Nat)(l:List (List Zc)):Prop:=PP l∧∀ p∈l,Zek p n
theorem PD.at{n:Nat}{l:List (List Zc)}(h:PD n l){p:List Zc}(hp:p∈l):Zg2 p∧Zek p n:=⟨h.1.v hp,h.2 p hp⟩
theorem Zlu{s:ZbK}(h:(Zaz s).2=0):PD s.1.toNat (Zaz s).1.2:=⟨(Zty h).1,ZpS (ZsM [] h).2.2 h⟩
def Nf(c:Zc):Prop:=ZbD c=(c,0)
theorem Zw6{c:Zc}(h0:c.1=0)(h1:c.2.1=0)(hg:Za1 c.2.2.1=1):Nf c:=by
 obtain⟨a,b,C,K⟩:=c
 simp only at h0 h1 hg
 subst h0 h1
 unfold Nf ZbD geF
 simp only[hg,if_true]
 simp
theorem ZvN{c:Zc}(h0:c.1=1)(h1:c.2.1=0)(hg:Za1 c.2.2.1=1)(hf:ZaT c.2.2.1=false):Nf c:=by
 obtain⟨a,b,C,K⟩:=c
 simp only at h0 h1 hg hf
 subst h0 h1
 have hs:Zbg (1,0,C,K)=1:=by unfold Zbg;simp[hf,hg]
 unfold Nf ZbD eqF
 rw[if_neg (by simp),if_pos rfl,hs]
 simp[hg,Int.tmod_one]
theorem ZvO{c:Zc}(h0:c.1=2)(hm:2≤c.2.1)(hC:∀ n∈c.2.2.1,0≤n∧n < c.2.1)(hK:0≤c.2.2.2∧c.2.2.2 < c.2.1)(hg:Za1 (c.2.1::c.2.2.1)=1):Nf c:=by
 obtain⟨a,M,C,K⟩:=c
 simp only at h0 hm hC hK hg
 subst h0
 have e1:C.map (· % M)=C:=by
  conv=>rhs;rw[← List.map_id C]
  exact List.map_congr_left fun n hn=>Int.emod_eq_of_lt (hC n hn).1 (hC n hn).2
 have e2:K % M=K:=Int.emod_eq_of_lt hK.1 hK.2
 have hd:Zb8 (2,M,C,K)=1:=by unfold Zb8;simp only[e1,hg]
 unfold Nf ZbD ZkX
 rw[if_neg (by simp),if_neg (by simp),hd]
 simp only[e1,e2]
 rw[if_neg (by simp[Int.tmod_one]),if_neg (by show ¬ M=((1:Nat):Int);omega)]
 simp
theorem Zoo{g:Nat}:∀ {l:List Int},Za1 (l.map fun n=>(g:Int)*n)=g*Za1 l
 | []=>by simp[Za1]
 | n::l=>by
   rw[List.map_cons,Zgs,Zoo (l:=l),Zgs,Int.natAbs_mul,Int.natAbs_natCast,Nat.gcd_mul_left]
theorem Zwd{c:Zc}(hb:condB c)(h:(ZbD c).2=0):Nf (ZbD c).1:=by
 obtain⟨hn,hk1⟩:=Zl6 hb h
 obtain⟨hk,_⟩:=hb
 have hs:∀ b,(ZcI b).2≠0:=fun b=>by cases b<;>simp[ZcI]
 rcases hk with hk | hk | ⟨hk,hm1,hm2⟩
 ·exact Zw6 (by omega) (ZlW h (by omega)) (hn.2.1 (by omega))
 ·refine ZvN (by omega) ?_ (hn.2.1 (by omega)) (hn.2.2 (by omega))
  have hr:ZbD c=eqF c:=by simp[ZbD,hk]
  rw[hr] at h ⊢
  unfold eqF at h ⊢
  split at h
  ·exact absurd h (hs _)
  ·rename_i ha;rw[if_neg ha]
 ·have hr:ZbD c=ZkX c:=by simp[ZbD,hk]
  rw[hr] at h ⊢
  unfold ZkX at h ⊢
  split at h
  ·exact absurd h (hs _)
  split at h
  ·exact absurd h (hs _)
  rename_i ha hb
  rw[if_neg ha,if_neg hb]
  have hgm:(Zb8 c:Int) ∣ c.2.1:=Zb4 (l:=c.2.1::c.2.2.1.map (· % c.2.1)) (by simp)
  have hgc:∀ n∈c.2.2.1.map (· % c.2.1),(Zb8 c:Int) ∣ n:=fun n hn=>Zb4 (l:=c.2.1::c.2.2.1.map (· % c.2.1)) (by simp only[List.mem_cons];exact .inr hn)
  have hgk:(Zb8 c:Int) ∣ c.2.2.2 % c.2.1:=Int.dvd_iff_tmod_eq_zero.2 (by simpa using ha)
  have hg0:0 < Zb8 c:=Zf6 hm1 _
  obtain⟨M,hM⟩:=hgm
  have e1:c.2.1.tdiv (Zb8 c)=M:=by rw[hM];exact Int.mul_tdiv_cancel_left _ (by omega)
  have hdv:∀ x:Int,(Zb8 c:Int) ∣ x→(Zb8 c:Int)*x.tdiv (Zb8 c)=x:=fun x hx=>Int.mul_tdiv_cancel' hx
  have hMp:0 < M:=by
   rcases Int.lt_or_le 0 M with h | h
   ·exact h
   ·have:(Zb8 c:Int)*M≤0:=Int.mul_nonpos_of_nonneg_of_nonpos (by omega) h
    omega
  have hM1:M≠1:=fun e=>hb (by rw[hM,e,Int.mul_one])
  have small:∀ x:Int,0≤x→x < c.2.1→(Zb8 c:Int) ∣ x→0≤x.tdiv (Zb8 c)∧x.tdiv (Zb8 c) < M:=fun x h0 h1 hx=>by
   have hx':=hdv x hx
   refine⟨Int.tdiv_nonneg h0 (by omega),?_⟩
   rcases Int.lt_or_le (x.tdiv (Zb8 c)) M with h | h
   ·exact h
   ·have:=Int.mul_le_mul_of_nonneg_left h (show (0:Int)≤(Zb8 c:Int) by omega)
    omega
  have hmod:∀ x:Int,0≤x % c.2.1∧x % c.2.1 < c.2.1:=fun x=>⟨Int.emod_nonneg _ (by omega),Int.emod_lt_of_pos _ (by omega)⟩
  refine ZvO rfl (by show 2≤c.2.1.tdiv (Zb8 c);rw[e1];omega) (fun n hn=>?_) ?_ ?_
  ·show 0≤n∧n < c.2.1.tdiv (Zb8 c)
   rw[e1]
   obtain⟨x,hx,rfl⟩:=List.mem_map.1 hn
   have hx2:=hgc x hx
   obtain⟨y,hy,rfl⟩:=List.mem_map.1 hx
   exact small _ (hmod y).1 (hmod y).2 hx2
  ·show 0≤(c.2.2.2 % c.2.1).tdiv (Zb8 c)∧(c.2.2.2 % c.2.1).tdiv (Zb8 c) < c.2.1.tdiv (Zb8 c)
   rw[e1]
   exact small _ (hmod _).1 (hmod _).2 hgk
  ·show Za1 (c.2.1.tdiv (Zb8 c)::(c.2.2.1.map (· % c.2.1)).map (·.tdiv (Zb8 c)))=1
   have h1:=Zoo (g:=Zb8 c) (l:=c.2.1.tdiv (Zb8 c)::(c.2.2.1.map (· % c.2.1)).map (·.tdiv (Zb8 c)))
   have e:(c.2.1.tdiv (Zb8 c)::(c.2.2.1.map (· % c.2.1)).map (·.tdiv (Zb8 c))).map (fun n=>(Zb8 c:Int)*n)=c.2.1::c.2.2.1.map (· % c.2.1):=by
    rw[List.map_cons,e1,← hM,List.map_map]
    congr 1
    conv=>rhs;rw[← List.map_id (c.2.2.1.map (· % c.2.1))]
    exact List.map_congr_left fun n hn=>hdv n (hgc n hn)
   rw[e] at h1
   have h2:Zb8 c=Zb8 c*Za1 (c.2.1.tdiv (Zb8 c)::(c.2.2.1.map (· % c.2.1)).map (·.tdiv (Zb8 c))):=h1
   exact (Nat.eq_of_mul_eq_mul_left hg0 (by rw[Nat.mul_one];exact h2)).symm
theorem ZuN{p:List Zc}(hb:ZaD p){c:Zc}(h:c∈ZbN p):Nf c:=by
 simp only[ZbN,List.mem_map,List.mem_filter] at h
 obtain⟨r,⟨⟨d,hd,rfl⟩,hr⟩,rfl⟩:=h
 exact Zwd (hb.2 d hd) (by simpa using hr)
theorem ZuH{n:Nat}{c:Zc}(h:Mk n c)(h0:c.1=0):Nf (Zlv c):=by
 have hk:=Zdc h h0
 refine ZvN hk.2 ?_ (hk.1.1.2.1 (by rw[hk.2];omega)) (hk.1.1.2.2 hk.2)
 have hg:=h.gcd h0
 simp[Zlv,ZbD,eqF,hg,Int.tmod_one]
theorem Ztm{q:List Zc}(h:∀ c∈q,Nf c):ZaF q=false∧ZbN q=q:=by
 have e:q.map ZbD=q.map fun c=>(c,(0:Int)):=List.map_congr_left fun c hc=>h c hc
 constructor
 ·unfold ZaF;rw[e,List.any_map];simp
 ·unfold ZbN
  rw[e,List.filter_eq_self.2 (fun r hr=>by obtain⟨c,_,rfl⟩:=List.mem_map.1 hr;rfl),List.map_map]
  exact List.map_id q
def Fx(q:List Zc):Prop:=Zac q=(q,false,0)
theorem Zpf{p:List Zc}{n:Nat}(hb:ZaD p)(hd:Zek p n)(h0:(Zac p).2.2=0)(h1:(Zac p).2.1=false):Fx (Zac p).1:=by
 have hv:ZaF p=false:=by
  cases hv:ZaF p with
  | false=>rfl
  | true =>
    have e:Zac p=([],true,0):=by have:=Zca p;rw[hv] at this;simpa using this
    rw[e] at h1;cases h1
 have hok:=Zoh hb
 have hdq:=Zjw hb hd
 obtain⟨s1,s2⟩:=ZdK hb hd hv
 have hl:=Zjh hb hd
 have hLm:∀ c,Lm (ZbN p) c→Mk n c:=fun c hc=>hl c hc.1
 have hw1:¬ Zg1 (Lm (ZbN p)):=fun h=>by rw[s1 (.inl h)] at h1;cases h1
 have hw2:¬ ZfO (MM (Lm (ZbN p))):=fun h=>by rw[s1 (.inr h)] at h1;cases h1
 obtain⟨m,hm⟩:=ZiB hb hd hv hw1 hw2
 have hMM:∀ c,MM (Lm (ZbN p)) c→Mk n c∧Nf c:=fun c hc=>by
  rcases hc with ⟨h,_⟩ | ⟨d,h,hd0,_,rfl⟩
  ·exact⟨hLm c h,ZuN hb h.1⟩
  ·exact⟨(Zdc (hLm d h) hd0).1,ZuH (hLm d h) hd0⟩
 have hk3:K3 m:=fun c hc=>(hMM c ((hm c).1 hc).1).1.2.1
 have hs:=s2 hw1 hw2 m hm
 have hlen:=ZiL p
 have hq:(Zac p).1=ZaU m:=by
  rw[hs] at h0 ⊢
  split at h0
  ·cases h0
  ·rename_i hc;rw[if_neg hc]
 generalize (Zac p).1=q at *
 subst hq
 have hmem:∀ x,x∈ZaU m↔Zt0 (MM (Lm (ZbN p))) x:=fun x=>by rw[ZcL hk3,hm]
 have hnf:∀ c∈ZaU m,Nf c:=fun c hc=>(hMM c ((hmem c).1 hc).1).2
 obtain⟨v2,r2⟩:=Ztm hnf
 have hL:∀ {x},x∈ZaU m→x.1=0→Lm (ZbN p) x∧¬ Opp (Lm (ZbN p)) x:=fun {x} hx h0=>by
  rcases ((hmem x).1 hx).1 with ⟨h,h'⟩ | ⟨d,h,hd0,_,rfl⟩
  ·exact⟨h,h' h0⟩
  ·have:=(Zdc (hLm d h) hd0).2;omega
 have a1:∀ x,Lm (ZaU m) x↔x∈ZaU m:=fun x=>⟨fun h=>h.1,fun h=>⟨h,fun h0 d hd hd0 he=>by
  have:=Lm.uniq hl (hL h h0).1 (hL hd hd0).1 h0 hd0 he.symm
  rw[this];exact Int.le_refl _⟩⟩
 have a1e:Lm (ZaU m)=(· ∈ ZaU m):=funext fun x=>propext (a1 x)
 have opp:∀ c,c.1=0→c∈ZaU m→¬ Opp (· ∈ ZaU m) c:=fun c h0 hc ⟨d,hd,hd0,h2,h3⟩=>(hL hc h0).2 ⟨d,(hL hd hd0).1,hd0,h2,h3⟩
 have a2:∀ x,MM (· ∈ ZaU m) x↔x∈ZaU m:=fun x=>⟨fun h=>by
  rcases h with ⟨h,_⟩ | ⟨c,hc,h0,ho,_⟩
  ·exact h
  ·exact absurd ho (opp c h0 hc),fun h=>.inl ⟨h,fun h0=>opp x h0 h⟩⟩
 have a2e:MM (· ∈ ZaU m)=(· ∈ ZaU m):=funext fun x=>propext (a2 x)
 have a3:∀ x,Zt0 (· ∈ ZaU m) x↔x∈ZaU m:=fun x=>⟨fun h=>h.1,fun h=>⟨h,fun h0 e he h1=>((hmem x).1 h).2 h0 e ((hmem e).1 he).1 h1⟩⟩
 obtain⟨_,t2⟩:=ZdK hok.B hdq v2
 rw[r2,a1e,a2e] at t2
 have hv1:¬ Zg1 (· ∈ ZaU m):=fun ⟨c,d,hc,hd,h0,h1,h2,h3⟩=>hw1 ⟨c,d,(hL hc h0).1,(hL hd h1).1,h0,h1,h2,h3⟩
 have hsub:∀ {x},x∈ZaU m→MM (Lm (ZbN p)) x:=fun {x} hx=>((hmem x).1 hx).1
 have hv2:¬ ZfO (· ∈ ZaU m):=fun h=>by
  rcases h with ⟨e,f,he,hf,h1,h2,h3,h4⟩ | ⟨c,e,hc,he,h0,h1,h2⟩
  ·exact hw2 (.inl ⟨e,f,hsub he,hsub hf,h1,h2,h3,h4⟩)
  ·exact hw2 (.inr ⟨c,e,hsub hc,hsub he,h0,h1,h2⟩)
 have hfin:=t2 hv1 hv2 (ZaU m) (fun x=>(a3 x).symm)
 have hself:ZaU (ZaU m)=ZaU m:=(ZjU (fun c hc=>hk3 c ((ZcL hk3 c).1 hc)) (ZhH hk3) (fun c=>Iff.rfl)).symm
 unfold Fx
 rw[hfin,hself,if_neg]
 rw[Bool.or_eq_true,decide_eq_true_iff]
 rintro (h | h)
 ·rw[List.any_eq_true] at h
  obtain⟨c,hc,h⟩:=h
  rw[hok.2 c hc] at h;cases h
 ·omega
def Nm(l:List (List Zc)):Prop:=l.Nodup∧∀ q∈l,Fx q
theorem Zpj{out out':List (List Zc)}{p:List Zc}{n:Nat}(hb:ZaD p)(hd:Zek p n)(h:Zaa out p=some out')(ho:Nm out):Nm out':=by
 unfold Zaa at h
 split at h
 ·cases h
 ·rename_i h3
  split at h
  ·cases h;exact ho
  ·rename_i h4
   split at h
   ·cases h
   ·cases h
    rw[not_or] at h4
    have hf:Fx (Zac p).1:=Zpf hb hd (by simpa using h3) (by simpa using h4.1)
    refine⟨List.nodup_append.2 ⟨ho.1,by simp,fun a ha b hb'=>?_⟩,fun q hq=>?_⟩
    ·simp only[List.mem_singleton] at hb'
     subst hb'
     exact fun e=>h4.2 (by rw[← e];exact ha)
    ·rcases List.mem_append.1 hq with h | h
     ·exact ho.2 q h
     ·simp only[List.mem_singleton] at h;subst h;exact hf
theorem ZqZ{n:Nat}:∀ {l out out':List (List Zc)},(∀ p∈l,ZaD p∧Zek p n)→l.foldlM Zaa out=some out'→Nm out→Nm out'
 | [],out,out',_,h,ho=>by cases h;exact ho
 | p::l,out,out',hl,h,ho=>by
   rw[List.foldlM_cons] at h
   obtain⟨o1,h1,h2⟩:=Option.bind_eq_some_iff.1 h
   obtain⟨hb,hd⟩:=hl p (by simp)
   exact ZqZ (fun q hq=>hl q (List.mem_cons_of_mem _ hq)) h2 (Zpj hb hd h1 ho)
theorem Nm.nil:Nm []:=⟨List.nodup_nil,fun q hq=>by cases hq⟩
theorem PD.of_tid{n:Nat}{l out:List (List Zc)}(hl:∀ p∈l,ZaD p∧Zek p n)(h:ZfG l=some out):PD n out∧Nm out :=
 ⟨⟨Znl h PP.nil (fun p hp=>(hl p hp).1),Zi6 h (by simp) hl⟩,ZqZ hl h Nm.nil⟩
abbrev Part:=Zc×Int×Lin
abbrev Pc:=Int×List Zc×List Part×Int×List Part×List Part×List Part
abbrev ZbX:Part:=(Za,0,[],0)
def Za6(n:Int):Int:=max n (-n)
def Zd(v:Nat)(c:Zc):Int:=c.2.2.1.getD v 0
def ZaC(v:Nat)(c:Zc):Lin:=(ZcU c.2.2.1 v,c.2.2.2)
def Zc1(v:Nat)(c:Zc):Zc:=(c.1,c.2.1,ZaC v c)
def Zaw(v:Nat)(c:Zc):Part:=(c,Zd v c,ZaC v c)
def Zbv{α:Type}(d:α)(l:List α):List (Nat×α):=(List.range l.length).map fun i=>(i,l.getD i d)
abbrev ZJ.fn(x:Int×Lin×Int×Lin×Unit):Lin:=Zck x.1 x.2.1 x.2.2.1 x.2.2.2.1
abbrev ZJ.pre(x:Int×Lin×Int×Lin×Unit):Prop:=ZB.pre x
abbrev Zah.fn(x:Lin×Int×Unit):Lin:=(x.1.1,x.1.2+x.2.1)
abbrev Zah.pre(x:Lin×Int×Unit):Prop:=ZcR x.1∧-1048576≤x.2.1∧x.2.1≤1048576
abbrev Zq.fn(x:Int×Unit):Int:=Za6 x.1
abbrev Zq.pre(x:Int×Unit):Prop:=Zfb x.1
abbrev ZR.fn(x:Int×Int×Unit):Lin:=(List.replicate x.1.toNat 0,x.2.1)
abbrev ZR.pre(x:Int×Int×Unit):Prop:=0≤x.1∧x.1≤1048576
def ZfR(l:List Int):Nat:=l.foldl (fun m n=>Nat.lcm m n.natAbs) 1
def ZiH(l:List Int):Int×Int:=if (l.any fun n=>decide (n < 1))=true then (0,1) else if 512 < ZfR l then (0,3) else ((ZfR l:Nat),0)
abbrev Zau.fn(x:Int×Int×Unit):Int:=if (decide ((512:Int) < x.1)||decide ((512:Int) < IntKind.wrap IntKind.u64 x.2.1))=true then 513 else IntKind.wrap IntKind.u64 ((IntKind.wrap IntKind.u64 (Int.tdiv x.1 (Z8.fn (x.1,IntKind.wrap IntKind.u64 x.2.1,()))))*IntKind.wrap IntKind.u64 x.2.1)
abbrev Zau.pre(x:Int×Int×Unit):Prop:=1≤x.2.1∧x.2.1≤9223372036854775807
abbrev ZI.fn(x:List Int×Unit):Int×Int:=ZiH x.1
abbrev ZI.pre(x:List Int×Unit):Prop:=ZcO x.1
abbrev Zat.fn(x:List Int×Unit):Int×Int:=ZiH x.1
abbrev Zat.pre(x:List Int×Unit):Prop:=ZcO x.1
def Zuz(l:List Int)(st:Int×Int):Int×Int:=(Zbv 0 l).foldl (fun st ia=>if ia.2=0 then st else (if ia.2=1∨ia.2=-1 then max st.1 (ia.1:Int) else st.1,max st.2 (ia.1:Int))) st
def Zir(p:List Zc):Int×Int:=p.foldl (fun st c=>if c.1=1 then Zuz c.2.2.1 st else st) (-1,-1)
def ZmS(p:List Zc)(v:Nat):Nat:=(p.filter fun c=>decide (c.1=0∧0 < Zd v c)).length
def upN(p:List Zc)(v:Nat):Nat:=(p.filter fun c=>decide (c.1=0∧Zd v c < 0)).length
def ZkW(p:List Zc)(v:Nat):Nat:=ZmS p v*upN p v
def ZfE(p:List Zc)(n:Nat):Nat:=(List.range n).foldl (fun b v=>if ZkW p v≤ZkW p b then v else b) 0
def ZbP(p:List Zc)(n:Int):Int:=if 0≤(Zir p).1 then (Zir p).1 else if 0≤(Zir p).2 then (Zir p).2 else (ZfE p n.toNat:Nat)
def pieceN(p:List Zc)(n:Int):Prop:=p.length≤400∧(∀ c∈p,Zi c=true∧(c.2.2.1.length:Int)=n)∧0≤n∧n≤12
abbrev Zan.fn(x:List Zc×Int×Unit):Int:=ZbP x.1 x.2.1
abbrev Zan.pre(x:List Zc×Int×Unit):Prop:=pieceN x.1 x.2.1
def Zeb(v:Nat)(p:List Zc)(e:Int)(i:Nat):Int :=
 if Zd v (p.getD i Za)≠0∧(p.getD i Za).1=1∧(e < 0∨Za6 (Zd v (p.getD i Za)) < Za6 (Zd v (p.getD e.toNat Za))) then (i:Int) else e
def eqI(v:Nat)(p:List Zc):Int:=(List.range p.length).foldl (Zeb v p) (-1)
def ZlV(v:Nat)(e c:Zc):Zc:=(c.1,c.2.1*Za6 (Zd v e),Zck (Za6 (Zd v e)) (ZaC v c) (Zd v c*(if Zd v e < 0 then 1 else -1)) (ZaC v e))
def Zcz(v:Nat)(p:List Zc)(i:Nat):List Zc :=
 ((Zbv Za p).filter fun jc=>decide (jc.1≠i)).map (fun jc=>if Zd v jc.2=0 then Zc1 v jc.2 else ZlV v (p.getD i Za) jc.2) ++
   (if 1 < Za6 (Zd v (p.getD i Za)) then [(2,Za6 (Zd v (p.getD i Za)),ZaC v (p.getD i Za))] else [])
def ZbJ(v:Nat)(p:List Zc):List Zc:=(p.filter fun c=>decide (Zd v c=0)).map (Zc1 v)
def Zr(v:Nat)(p:List Zc):List Zc:=p.filter fun c=>decide (Zd v c≠0)
def ZbQ(v:Nat)(p:List Zc):List Zc:=p.filter fun c=>decide (Zd v c≠0∧c.1≠1∧c.1≠2∧0 < Zd v c)
def upP(v:Nat)(p:List Zc):List Zc:=p.filter fun c=>decide (Zd v c≠0∧c.1≠1∧c.1≠2∧¬ 0 < Zd v c)
def Zf5(v:Nat)(p:List Zc):List Zc:=p.filter fun c=>decide (Zd v c≠0∧c.1=2)
def Zg3(v:Nat)(p:List Zc):Bool:=(Zf5 v p).isEmpty&&(ZbQ v p).all fun x=>(upP v p).all fun y=>decide (Zd v x=1∨Zd v y=-1)
def ZlZ(v:Nat)(x y:Zc):Zc:=(0,0,Zck (Zd v x) (ZaC v y) (-Zd v y) (ZaC v x))
def Zjm(v:Nat)(p:List Zc):List Zc:=ZbJ v p++(ZbQ v p).flatMap fun x=>(upP v p).map (ZlZ v x)
def Zbs(v:Nat)(p:List Zc):Int×Int:=ZiH ((Zr v p).map fun c=>Za6 (Zd v c))
def ZbS(v:Nat)(l:Int)(c:Zc):Int:=l.tdiv (Za6 (Zd v c))
def ZeS(v:Nat)(p:List Zc)(l:Int):Int×Int:=ZiH (l::((Zr v p).filter fun c=>decide (c.1=2)).map fun c=>c.2.1*ZbS v l c)
def ZmR(n:Int):Int:=if n < 0 then -1 else 1
def Zjj(v:Nat)(l:Int)(c:Zc):Lin:=((ZaC v c).1.map fun n=>ZbS v l c*n,ZbS v l c*(ZaC v c).2)
def Zvm(v:Nat)(l:Int)(w:Lin)(c:Zc):Zc:=(c.1,c.2.1*ZbS v l c,Zck 1 (Zjj v l c) (ZmR (Zd v c)) w)
def Ze5(v:Nat)(p:List Zc)(l:Int)(w:Lin)(all:Bool):List Zc:=ZbJ v p++((Zr v p).filter fun c=>all||decide (c.1=2)).map (Zvm v l w)++[(2,l,w)]
def Zgw(v:Nat)(p:List Zc):Bool:=decide ((ZbQ v p).length≤(upP v p).length)
def ZdB(v:Nat)(l:Int)(c:Zc)(low:Bool)(j:Nat):Lin:=if low then ((Zjj v l c).1.map fun n=>-1*n,-1*(Zjj v l c).2+j) else ((Zjj v l c).1,(Zjj v l c).2+-j)
def ZlP(v:Nat)(p:List Zc):List Zc:=(Zr v p).filter fun c=>decide (c.1≠2∧decide (0 < Zd v c)=Zgw v p)
def Zb1(v:Nat)(p:List Zc)(n:Nat)(l:Int)(d:Nat):List (List Zc) :=
 if ZbQ v p=[]∨upP v p=[] then (List.range d).map fun (j:Nat)=>Ze5 v p l (List.replicate n 0,(j:Int)) false
 else (ZlP v p).flatMap fun c=>(List.range d).map fun j=>Ze5 v p l (ZdB v l c (Zgw v p) j) true
def ZcQ(p:List Zc)(n v:Nat):Option (List (List Zc)) :=
 if 0≤eqI v p then some [Zcz v p (eqI v p).toNat]
 else if Zf5 v p=[]∧(ZbQ v p=[]∨upP v p=[]) then some [ZbJ v p]
 else if Zg3 v p=true then some [Zjm v p]
 else if (Zbs v p).2≠0 then none
 else if (ZeS v p (Zbs v p).1).2≠0 then none
 else some (Zb1 v p (n - 1) (Zbs v p).1 (ZeS v p (Zbs v p).1).1.toNat)
def Zed(l:List (List Zc)):List (List Zc)×Int:=match ZfG l with
 | none=>([],3)
 | some out=>(out,0)
def ZS(p:List Zc)(n v:Int):List (List Zc)×Int:=match ZcQ p n.toNat v.toNat with
 | none=>([],3)
 | some l=>Zed l
abbrev ZQ.fn(x:List Zc×Int×Int×Unit):List (List Zc)×Int:=ZS x.1 x.2.1 x.2.2.1
abbrev ZQ.pre(x:List Zc×Int×Int×Unit):Prop:=pieceN x.1 x.2.1∧0≤x.2.2.1∧x.2.2.1 < x.2.1
abbrev Z1.fn(x:List Zc×Int×Int×Unit):List (List Zc)×Int:=ZS x.1 x.2.1 x.2.2.1
abbrev Z1.pre(x:List Zc×Int×Int×Unit):Prop:=ZQ.pre x
abbrev ZH.fn(x:List (List Zc)×Unit):List (List Zc)×Int:=Zed x.1
abbrev ZH.pre(x:List (List Zc)×Unit):Prop:=ZN.pre x
def Zwz(n:Nat)(c:Zc):Prop:=(-1048576≤c.2.1∧c.2.1≤1048576)∧ZcR c.2.2∧c.2.2.1.length=n
abbrev Z6.fn(x:Zc×Int×Int×Int×Lin×Unit):Zc:=(x.1.1,x.1.2.1*x.2.2.1,Zck x.2.2.1 (ZaC x.2.1.toNat x.1) (Zd x.2.1.toNat x.1*x.2.2.2.1) x.2.2.2.2.1)
abbrev Z6.pre(x:Zc×Int×Int×Int×Lin×Unit):Prop:=(∃ n,Zwz n x.1∧n≤4096∧x.2.2.2.2.1.1.length+1=n∧0≤x.2.1∧x.2.1 < (n:Int))∧(-1048576≤Zd x.2.1.toNat x.1∧Zd x.2.1.toNat x.1≤1048576)∧(-1048576≤x.2.2.1∧x.2.2.1≤1048576)∧(x.2.2.2.1=1∨x.2.2.2.1=-1)∧ZcR x.2.2.2.2.1
abbrev Z2.fn(x:List Zc×Int×Int×Unit):List Zc:=Zcz x.2.2.1.toNat x.1 x.2.1.toNat
abbrev Z2.pre(x:List Zc×Int×Int×Unit):Prop:=(∃ n,pieceN x.1 n∧0≤x.2.2.1∧x.2.2.1 < n)∧0≤x.2.1∧x.2.1 < (x.1.length:Int)∧Zd x.2.2.1.toNat (x.1.getD x.2.1.toNat Za)≠0
def ZvB(p free:List Zc)(v:Nat):List (List Zc)×Int :=
 if (Zbs v p).2≠0 then ([],3) else if (ZeS v p (Zbs v p).1).2≠0 then ([],3)
 else Zed (Zb1 v p ((p.getD 0 Za).2.2.1.length - 1) (Zbs v p).1 (ZeS v p (Zbs v p).1).1.toNat)
abbrev Zu.fn(x:List Zc×List Zc×Int×Unit):List (List Zc)×Int:=ZvB x.1 x.2.1 x.2.2.1.toNat
abbrev Zu.pre(x:List Zc×List Zc×Int×Unit):Prop:=(∃ n,pieceN x.1 n∧0≤x.2.2.1∧x.2.2.1 < n)∧x.2.1=ZbJ x.2.2.1.toNat x.1∧Zr x.2.2.1.toNat x.1≠[]∧∀ c∈Zr x.2.2.1.toNat x.1,c.1≠1
def Zpr(k:Nat)(q:Part):Prop:=(-1048576≤q.1.2.1∧q.1.2.1≤1048576)∧(-1048576≤q.2.1∧q.2.1≤1048576)∧ZcR q.2.2∧q.2.2.1.length=k
def PcB(k:Nat)(x:Pc):Prop:=x.2.1.length≤400∧(x.2.2.1.length≤400∧∀ q∈x.2.2.1,Zpr k q)∧(x.2.2.2.2.1.length≤400∧∀ q∈x.2.2.2.2.1,Zpr k q)∧(x.2.2.2.2.2.1.length≤400∧∀ q∈x.2.2.2.2.2.1,Zpr k q)
def Zug(e q:Part):Zc:=(q.1.1,Za6 e.2.1*q.1.2.1,Zck (Za6 e.2.1) q.2.2 ((if e.2.1 < 0 then 1 else -1)*q.2.1) e.2.2)
def Zez(x:Pc):List Zc:=x.2.1++((Zbv ZbX x.2.2.1).filter fun jq=>decide ((jq.1:Int)≠x.2.2.2.1)).map (fun jq=>Zug (x.2.2.1.getD x.2.2.2.1.toNat ZbX) jq.2) ++
 (if 1 < Za6 (x.2.2.1.getD x.2.2.2.1.toNat ZbX).2.1 then [(2,Za6 (x.2.2.1.getD x.2.2.2.1.toNat ZbX).2.1,(x.2.2.1.getD x.2.2.2.1.toNat ZbX).2.2)] else [])
abbrev Zz.fn(x:Pc×Unit):List (List Zc):=[Zez x.1]
abbrev Zz.pre(x:Pc×Unit):Prop:=(∃ k,PcB k x.1)∧0≤x.1.2.2.2.1∧x.1.2.2.2.1 < (x.1.2.2.1.length:Int)
abbrev Zw.fn(x:Pc×Unit):List (List Zc):=[x.1.2.1++x.1.2.2.2.2.1.flatMap fun l=>x.1.2.2.2.2.2.1.map fun u=>(0,0,Zck l.2.1 u.2.2 (-u.2.1) l.2.2)]
abbrev Zw.pre(x:Pc×Unit):Prop:=∃ k,PcB k x.1
abbrev Zn.fn(x:Pc×Int×Lin×Bool×Unit):List Zc:=x.1.2.1++(x.1.2.2.1.filter fun q=>x.2.2.2.1||decide (q.1.1=2)).map (fun q=>(q.1.1,q.1.2.1,Zck 1 q.2.2 (q.2.1.tdiv x.2.1) x.2.2.1))++[(2,x.2.1,x.2.2.1)]
abbrev Zn.pre(x:Pc×Int×Lin×Bool×Unit):Prop:=(∃ k,PcB k x.1∧x.2.2.1.1.length=k)∧x.2.1≠0∧ZcR x.2.2.1
def ZhS(n v:Int)(l:List (List Zc)):Option (List (List Zc)):=l.foldlM (fun all p=>if (ZS p n v).2≠0 then none else some (all++(ZS p n v).1)) []
def Zci(s:ZbK)(v:Int):ZbK×Int:=if Zl s=false then ((0,[]),1) else if v < 0∨s.1≤v then ((0,[]),6) else if (Zaz s).2≠0 then ((0,[]),(Zaz s).2) else match ZhS s.1 v (Zaz s).1.2 with
 | none=>((0,[]),3)
 | some all=>ZgW (s.1 - 1) (ZfG all)
abbrev Za4.fn(x:ZbK×Int×Unit):ZbK×Int:=Zci x.1 x.2.1
abbrev Za5.fn(x:ZbK×Int×Unit):ZbK×Int:=Zci x.1 x.2.1
def Zfd(f:List Zc→Bool×Int):List (List Zc)→Bool×Int
 | []=>(false,0)
 | p::l=>if (f p).1=true∨(f p).2≠0 then f p else Zfd f l
def Zcu:Nat→List Zc→Bool×Int
 | 0,_=>(true,0)
 | n+1,p=>if (ZS p (n+1:Nat) (ZbP p (n+1:Nat))).2≠0 then (false,(ZS p (n+1:Nat) (ZbP p (n+1:Nat))).2) else Zfd (Zcu n) (ZS p (n+1:Nat) (ZbP p (n+1:Nat))).1
def Zhe(s:ZbK):Bool×Int:=if Zl s=false then (false,1) else if (Zaz s).2≠0 then (false,(Zaz s).2) else
 if (Zfd (Zcu s.1.toNat) (Zaz s).1.2).1=true∨(Zfd (Zcu s.1.toNat) (Zaz s).1.2).2≠0 then (false,(Zfd (Zcu s.1.toNat) (Zaz s).1.2).2) else (true,0)
abbrev ZaZ.fn(x:ZbK×Unit):Bool×Int:=Zhe x.1
def Zr7(m:ByteArray→Option Bool):Prop:=∀ p n b,m (ZbV (Zcs p))=some b→pieceN p n→1≤n→Zcu n.toNat p=(b,0)
def Zj7(a:List Zc×Int)(m:ByteArray→Option Bool):Prop:=pieceN a.1 a.2∧Zr7 m
def ZdV(N:Nat)(a:List Zc×Int)(m:ByteArray→Option Bool):Prop:=Zj7 a m∧a.2 < (N:Int)
def Zc3(a:List Zc×Int)(m:ByteArray→Option Bool)(r:Bool×Int)(m':ByteArray→Option Bool):Prop:=r=(if (Zcu a.2.toNat a.1).2≠0 then (false,(Zcu a.2.toNat a.1).2) else Zcu a.2.toNat a.1)∧Zr7 m'
end Go.Proofs.YtgpdnmfpgkkgcaaGreatDoor
