/- Part of a proof that a law of the program holds for every input: what the functions answer, in plain Lean. No conditions. -/
import Derived.Test.YtgpdnmfpgkkgcaaGreatDoorP11
namespace Go.Proofs.YtgpdnmfpgkkgcaaGreatDoor
open Go
set_option linter.unusedVariables false
set_option maxRecDepth 4000
def Zac.wp (x0:Bool) (Q:Zc×Int→Prop):Prop:=cond x0 (Q (Zb,(1:Int))) (Q (Zb,(-(1:Int))))
def ZP.wp (x0:Lin) (x1:Int) (x2:Int) (Q:Lin→Prop):Prop:=(((0:Int)≤((List.length x0.1:Nat):Int)∧(((List.length x0.1:Nat):Int)≤((List.length x0.1:Nat):Int)∧((((List.length x0.1:Nat):Int)*((8:Nat):Int))≤(140737488355328:Int)∧((List.length x0.1:Nat):Int)≤(9223372036854775807:Int))))∧Lp (σ:=Int×List Int) (fun y4 R4=>let v2:=List.getD x0.1 (Int.toNat y4.1) (0:Int);cond (decide (y4.1 < ((List.length x0.1:Nat):Int))) (((0:Int)≤y4.1∧y4.1 < ((List.length x0.1:Nat):Int))∧((x1≠(0:Int)∧Zw IntKind.i64 (Int.tdiv v2 x1))∧(((0:Int)≤y4.1∧y4.1 < ((List.length y4.2:Nat):Int))∧(Int.toNat y4.1 < List.length y4.2∧(Zw IntKind.i64 (y4.1+(1:Int))∧R4 ((y4.1+(1:Int)),(List.set y4.2 (Int.toNat y4.1) (Int.tdiv v2 x1)))))))) (Q (y4.2,x2))) ((0:Int),(List.replicate (Int.toNat ((List.length x0.1:Nat):Int)) (0:Int))))
def ZF.wp (x0:Zc) (Q:Zc×Int→Prop):Prop:=let v0:=Zay.fn (x0.2.2.1,());let v2:=ZW.fn (x0.2.2.2,(v0.1,()));let v5:=Zac.fn (false,());let v7:=Int.tdiv x0.2.2.2 (-v0.1);let v9:=ZP.fn (x0.2.2,(v0.1,(Int.tdiv x0.2.2.2 v0.1,())));let v15:=List.length ([]:List Int);let v18:=Zai.fn (x0.2.2.2,(x0.2.1,()));(Zay.pre (x0.2.2.1,())∧cond (x0.1 == (0:Int)) (cond (v0.1 == (0:Int)) (Q (Zac.fn (decide ((0:Int)≤x0.2.2.2),()))) (ZW.pre (x0.2.2.2,(v0.1,()))∧(ZP.pre (x0.2.2,(v0.1,(v2.1,())))∧Q (((0:Int),((0:Int),(ZP.fn (x0.2.2,(v0.1,(v2.1,())))))),(0:Int))))) (cond (x0.1 == (1:Int)) (cond (v0.1 == (0:Int)) (Q (Zac.fn ((x0.2.2.2 == (0:Int)),()))) (v0.1≠(0:Int)∧cond (Int.tmod x0.2.2.2 v0.1 != (0:Int)) (Q v5) (Lp (σ:=Int) (fun y2 R2=>let v6:=List.getD x0.2.2.1 (Int.toNat y2) (0:Int);cond (decide (y2 < ((List.length x0.2.2.1:Nat):Int))) (((0:Int)≤y2∧y2 < ((List.length x0.2.2.1:Nat):Int))∧cond (v6 != (0:Int)) (cond (decide (v6 < (0:Int))) (Zw IntKind.i64 (-v0.1)∧(((-v0.1)≠(0:Int)∧Zw IntKind.i64 v7)∧(ZP.pre (x0.2.2,((-v0.1),(v7,())))∧Q (((1:Int),((0:Int),(ZP.fn (x0.2.2,((-v0.1),(v7,())))))),(0:Int))))) ((v0.1≠(0:Int)∧Zw IntKind.i64 (Int.tdiv x0.2.2.2 v0.1))∧(ZP.pre (x0.2.2,(v0.1,(Int.tdiv x0.2.2.2 v0.1,())))∧Q (((1:Int),((0:Int),v9)),(0:Int))))) (Zw IntKind.i64 (y2+(1:Int))∧R2 (y2+(1:Int)))) ((v0.1≠(0:Int)∧Zw IntKind.i64 (Int.tdiv x0.2.2.2 v0.1))∧(ZP.pre (x0.2.2,(v0.1,(Int.tdiv x0.2.2.2 v0.1,())))∧Q (((1:Int),((0:Int),v9)),(0:Int))))) (0:Int)))) (((0:Int)≤((List.length x0.2.2.1:Nat):Int)∧(((List.length x0.2.2.1:Nat):Int)≤((List.length x0.2.2.1:Nat):Int)∧((((List.length x0.2.2.1:Nat):Int)*((8:Nat):Int))≤(140737488355328:Int)∧((List.length x0.2.2.1:Nat):Int)≤(9223372036854775807:Int))))∧Lp (σ:=Int×List Int) (fun y2 R2=>let v12:=List.getD x0.2.2.1 (Int.toNat y2.1) (0:Int);let v16:=List.length (([]:List Int)++y2.2);let v17:=Zay.fn (((([]:List Int)++y2.2)++[x0.2.1]),());cond (decide (y2.1 < ((List.length x0.2.2.1:Nat):Int))) (((0:Int)≤y2.1∧y2.1 < ((List.length x0.2.2.1:Nat):Int))∧(Zai.pre (v12,(x0.2.1,()))∧(((0:Int)≤y2.1∧y2.1 < ((List.length y2.2:Nat):Int))∧(Int.toNat y2.1 < List.length y2.2∧(Zw IntKind.i64 (y2.1+(1:Int))∧R2 ((y2.1+(1:Int)),(List.set y2.2 (Int.toNat y2.1) (Zai.fn (v12,(x0.2.1,()))).1))))))) (Zai.pre (x0.2.2.2,(x0.2.1,()))∧((((v15+List.length y2.2)*8)≤140737488355328∧(v15+List.length y2.2)≤9223372036854775807)∧((((v16+List.length [x0.2.1])*8)≤140737488355328∧(v16+List.length [x0.2.1])≤9223372036854775807)∧(Zay.pre (((([]:List Int)++y2.2)++[x0.2.1]),())∧(v17.1≠(0:Int)∧cond (Int.tmod v18.1 v17.1 != (0:Int)) (Q v5) (cond (x0.2.1 == v17.1) (Q (Zac.fn (true,()))) ((v17.1≠(0:Int)∧Zw IntKind.i64 (Int.tdiv x0.2.1 v17.1))∧((v17.1≠(0:Int)∧Zw IntKind.i64 (Int.tdiv v18.1 v17.1))∧(ZP.pre ((y2.2,v18.1),(v17.1,(Int.tdiv v18.1 v17.1,())))∧Q (((2:Int),(Int.tdiv x0.2.1 v17.1,(ZP.fn ((y2.2,v18.1),(v17.1,(Int.tdiv v18.1 v17.1,())))))),(0:Int)))))))))))) ((0:Int),(List.replicate (Int.toNat ((List.length x0.2.2.1:Nat):Int)) (0:Int))))))
def ZA.wp (x0:Zc) (x1:Zc) (Q:Int→Prop):Prop:=Lp (σ:=Int×Bool×Bool) (fun y3 R3=>let v0:=List.getD x1.2.2.1 (Int.toNat y3.1) (0:Int);let v1:=List.getD x0.2.2.1 (Int.toNat y3.1) (0:Int);cond (decide (y3.1 < ((List.length x0.2.2.1:Nat):Int))) ((y3.2.2=true→(y3.2.2=true∧True))∧((y3.2.2=true→(y3.2.2=true∧True))∧((y3.2.2=true→(y3.2.2=true∧(y3.2.2=true∧((0:Int)≤y3.1∧y3.1 < ((List.length x0.2.2.1:Nat):Int)))))∧((y3.2.2=true→(y3.2.2=true∧True))∧((y3.2.2=true→(y3.2.2=true∧True))∧((y3.2.2=true→(y3.2.2=true∧True))∧((y3.2.2=true→(y3.2.2=true∧(y3.2.2=true∧((0:Int)≤y3.1∧y3.1 < ((List.length x1.2.2.1:Nat):Int)))))∧((y3.2.2=true→(y3.2.2=true∧True))∧((y3.2.2=true→(y3.2.2=true∧(y3.2.2=true∧True)))∧((y3.2.2=true→y3.2.2=true)∧((y3.2.1=true→(y3.2.1=true∧True))∧((y3.2.1=true→(y3.2.1=true∧True))∧((y3.2.1=true→(y3.2.1=true∧(y3.2.1=true∧((0:Int)≤y3.1∧y3.1 < ((List.length x0.2.2.1:Nat):Int)))))∧((y3.2.1=true→(y3.2.1=true∧True))∧((y3.2.1=true→(y3.2.1=true∧True))∧((y3.2.1=true→(y3.2.1=true∧True))∧((y3.2.1=true→(y3.2.1=true∧(y3.2.1=true∧((0:Int)≤y3.1∧y3.1 < ((List.length x1.2.2.1:Nat):Int)))))∧((y3.2.1=true→(y3.2.1=true∧True))∧((y3.2.1=true→(y3.2.1=true∧Zw IntKind.i64 (-v0)))∧((y3.2.1=true→(y3.2.1=true∧(y3.2.1=true∧True)))∧((y3.2.1=true→y3.2.1=true)∧(Zw IntKind.i64 (y3.1+(1:Int))∧R3 ((y3.1+(1:Int)),((y3.2.1&&(v1 == (-v0))),(y3.2.2&&(v1 == v0)))))))))))))))))))))))))) (cond y3.2.2 (Q (1:Int)) (cond y3.2.1 (Q (-(1:Int))) (Q (0:Int))))) ((0:Int),(true,true))
def ZQ.wp (x0:List Int) (x1:List Int) (Q:Int→Prop):Prop:=Lp (σ:=Int) (fun y3 R3=>let v0:=List.getD x0 (Int.toNat y3) (0:Int);let v1:=List.getD x1 (Int.toNat y3) (0:Int);cond (decide (y3 < ((List.length x0:Nat):Int))) (((0:Int)≤y3∧y3 < ((List.length x0:Nat):Int))∧(((0:Int)≤y3∧y3 < ((List.length x1:Nat):Int))∧cond (decide (v0 < v1)) (Q (-(1:Int))) (((0:Int)≤y3∧y3 < ((List.length x0:Nat):Int))∧(((0:Int)≤y3∧y3 < ((List.length x1:Nat):Int))∧cond (decide (v1 < v0)) (Q (1:Int)) (Zw IntKind.i64 (y3+(1:Int))∧R3 (y3+(1:Int))))))) (Q (0:Int))) (0:Int)
def Zav.wp (x0:Int) (Q:Int→Prop):Prop:=cond (x0 == (1:Int)) (Q (0:Int)) (cond (x0 == (0:Int)) (Q (1:Int)) (Q (2:Int)))
def ZaK.wp (x0:Lin) (x1:Lin) (Q:Int→Prop):Prop:=let v0:=List.length ([]:List Int);let v1:=List.length (([]:List Int)++x0.1);let v2:=List.length (([]:List Int)++x1.1);((((v0+List.length x0.1)*8)≤140737488355328∧(v0+List.length x0.1)≤9223372036854775807)∧((((v1+List.length [x0.2])*8)≤140737488355328∧(v1+List.length [x0.2])≤9223372036854775807)∧((((v0+List.length x1.1)*8)≤140737488355328∧(v0+List.length x1.1)≤9223372036854775807)∧((((v2+List.length [x1.2])*8)≤140737488355328∧(v2+List.length [x1.2])≤9223372036854775807)∧(ZQ.pre (((([]:List Int)++x0.1)++[x0.2]),(((([]:List Int)++x1.1)++[x1.2]),()))∧Q (ZQ.fn (((([]:List Int)++x0.1)++[x0.2]),(((([]:List Int)++x1.1)++[x1.2]),()))))))))
def Zaz.wp (x0:Zc) (x1:Zc) (Q:Int→Prop):Prop:=let v0:=Zav.fn (x0.1,());let v1:=Zav.fn (x1.1,());let v2:=ZQ.fn ([v0,x0.2.1],([v1,x1.2.1],()));(ZQ.pre ([v0,x0.2.1],([v1,x1.2.1],()))∧cond (v2 != (0:Int)) (Q v2) (ZaK.pre (x0.2.2,(x1.2.2,()))∧Q (ZaK.fn (x0.2.2,(x1.2.2,())))))
def ZL.wp (x0:List Zc) (Q:(List Zc)→Prop):Prop:=let v4:=List.length ([]:List (Zc));Lp (σ:=Int×List (Zc)) (fun y2 R2=>let v1:=List.getD x0 (Int.toNat y2.1) Zb;cond (decide (y2.1 < ((List.length x0:Nat):Int))) (((0:Int)≤y2.1∧y2.1 < ((List.length x0:Nat):Int))∧Lp (σ:=Int) (fun y4 R4=>let v0:=List.getD y2.2 (Int.toNat y4) Zb;let v5:=List.take (Int.toNat y4) y2.2;let v6:=List.length (([]:List (Zc))++v5);let v7:=List.length ((([]:List (Zc))++v5)++[v1]);let v8:=List.drop (Int.toNat y4) y2.2;((decide (y4 < ((List.length y2.2:Nat):Int))=true→(decide (y4 < ((List.length y2.2:Nat):Int))=true∧(decide (y4 < ((List.length y2.2:Nat):Int))=true∧((0:Int)≤y4∧y4 < ((List.length y2.2:Nat):Int)))))∧((decide (y4 < ((List.length y2.2:Nat):Int))=true→(decide (y4 < ((List.length y2.2:Nat):Int))=true∧True))∧((decide (y4 < ((List.length y2.2:Nat):Int))=true→(decide (y4 < ((List.length y2.2:Nat):Int))=true∧(decide (y4 < ((List.length y2.2:Nat):Int))=true∧Zaz.pre (v0,(v1,())))))∧((decide (y4 < ((List.length y2.2:Nat):Int))=true→(decide (y4 < ((List.length y2.2:Nat):Int))=true∧True))∧((decide (y4 < ((List.length y2.2:Nat):Int))=true→decide (y4 < ((List.length y2.2:Nat):Int))=true)∧cond (decide (y4 < ((List.length y2.2:Nat):Int))&&decide ((Zaz.fn (v0,(v1,()))) < (0:Int))) (Zw IntKind.i64 (y4+(1:Int))∧R4 (y4+(1:Int))) ((decide (y4 < ((List.length y2.2:Nat):Int))=true→(decide (y4 < ((List.length y2.2:Nat):Int))=true∧(decide (y4 < ((List.length y2.2:Nat):Int))=true∧((0:Int)≤y4∧y4 < ((List.length y2.2:Nat):Int)))))∧((decide (y4 < ((List.length y2.2:Nat):Int))=true→(decide (y4 < ((List.length y2.2:Nat):Int))=true∧True))∧((decide (y4 < ((List.length y2.2:Nat):Int))=true→(decide (y4 < ((List.length y2.2:Nat):Int))=true∧(decide (y4 < ((List.length y2.2:Nat):Int))=true∧True)))∧((decide (y4 < ((List.length y2.2:Nat):Int))=true→decide (y4 < ((List.length y2.2:Nat):Int))=true)∧cond (decide (y4 < ((List.length y2.2:Nat):Int))&&(Zal.fn (v0,(v1,())))) (Zw IntKind.i64 (y2.1+(1:Int))∧R2 ((y2.1+(1:Int)),y2.2)) (((0:Int)≤y4∧y4≤((List.length y2.2:Nat):Int))∧((((v4+List.length v5)*48)≤140737488355328∧(v4+List.length v5)≤9223372036854775807)∧((((v6+List.length [v1])*48)≤140737488355328∧(v6+List.length [v1])≤9223372036854775807)∧(((0:Int)≤y4∧y4≤((List.length y2.2:Nat):Int))∧((((v7+List.length v8)*48)≤140737488355328∧(v7+List.length v8)≤9223372036854775807)∧(Zw IntKind.i64 (y2.1+(1:Int))∧R2 ((y2.1+(1:Int)),(((([]:List (Zc))++v5)++[v1])++v8)))))))))))))))))) (0:Int)) (Q y2.2)) ((0:Int),([]:List (Zc)))
def ZU.wp (x0:List Zc) (Q:(List Zc)×Bool×Int→Prop):Prop:=Lp (σ:=Int×Bool×(List (Zc))×(List (Zc))×List (Zc)) (fun y2 R2=>let v0:=List.getD x0 (Int.toNat y2.1) Zb;let v1:=[(((ZF.fn (v0,())).1).1,((((ZF.fn (v0,())).1).2).1,((((ZF.fn (v0,())).1).2).2)))];let v2:=Z5.fn ((((ZF.fn (v0,())).1).1,((((ZF.fn (v0,())).1).2).1,((((ZF.fn (v0,())).1).2).2))),());cond (decide (y2.1 < ((List.length x0:Nat):Int))) (((0:Int)≤y2.1∧y2.1 < ((List.length x0:Nat):Int))∧(ZF.pre (v0,())∧cond ((ZF.fn (v0,())).2 == (-(1:Int))) (Q (([]:List (Zc)),(true,(0:Int)))) (cond ((ZF.fn (v0,())).2 == (1:Int)) (Zw IntKind.i64 (y2.1+(1:Int))∧R2 ((y2.1+(1:Int)),y2.2)) (((!y2.2.1)=true→((!y2.2.1)=true∧True))∧(((!y2.2.1)=true→((!y2.2.1)=true∧True))∧((y2.2.1=false→(!y2.2.1)=true)∧cond (((ZF.fn (v0,())).1).1 == (0:Int)) ((((List.length y2.2.2.1+List.length v1)*48)≤140737488355328∧(List.length y2.2.2.1+List.length v1)≤9223372036854775807)∧(Zw IntKind.i64 (y2.1+(1:Int))∧R2 ((y2.1+(1:Int)),((y2.2.1||(!v2)),((y2.2.2.1++v1),y2.2.2.2))))) (cond (((ZF.fn (v0,())).1).1 == (1:Int)) ((((List.length y2.2.2.2.1+List.length v1)*48)≤140737488355328∧(List.length y2.2.2.2.1+List.length v1)≤9223372036854775807)∧(Zw IntKind.i64 (y2.1+(1:Int))∧R2 ((y2.1+(1:Int)),((y2.2.1||(!v2)),(y2.2.2.1,((y2.2.2.2.1++v1),y2.2.2.2.2)))))) ((((List.length y2.2.2.2.2+List.length v1)*48)≤140737488355328∧(List.length y2.2.2.2.2+List.length v1)≤9223372036854775807)∧(Zw IntKind.i64 (y2.1+(1:Int))∧R2 ((y2.1+(1:Int)),((y2.2.1||(!v2)),(y2.2.2.1,(y2.2.2.2.1,(y2.2.2.2.2++v1)))))))))))))) (Lp (σ:=Int×List (Zc)) (fun y4 R4=>let v4:=List.getD y2.2.2.1 (Int.toNat y4.1) Zb;cond (decide (y4.1 < ((List.length y2.2.2.1:Nat):Int))) (((0:Int)≤y4.1∧y4.1 < ((List.length y2.2.2.1:Nat):Int))∧(Int.toNat y4.1 < List.length y2.2.2.1∧Lp (σ:=Int×Bool×List (Zc)) (fun y6 R6=>let v3:=List.getD y6.2.2 (Int.toNat y6.1) Zb;cond (decide (y6.1 < ((List.length y4.2:Nat):Int))) (((0:Int)≤y6.1∧y6.1 < ((List.length y6.2.2:Nat):Int))∧(Int.toNat y6.1 < List.length y6.2.2∧(ZA.pre (v3,(v4,()))∧cond ((ZA.fn (v3,(v4,()))) == (1:Int)) (((0:Int)≤y6.1∧y6.1 < ((List.length y6.2.2:Nat):Int))∧(Int.toNat y6.1 < List.length y6.2.2∧(((0:Int)≤y6.1∧y6.1 < ((List.length y6.2.2:Nat):Int))∧(Int.toNat y6.1 < List.length y6.2.2∧(Zw IntKind.i64 (y6.1+(1:Int))∧R6 ((y6.1+(1:Int)),(true,(List.set y6.2.2 (Int.toNat y6.1) (v3.1,(v3.2.1,(v3.2.2.1,(Min.min v3.2.2.2 v4.2.2.2)))))))))))) (Zw IntKind.i64 (y6.1+(1:Int))∧R6 ((y6.1+(1:Int)),y6.2))))) (cond (!y6.2.1) ((((List.length y6.2.2+List.length [v4])*48)≤140737488355328∧(List.length y6.2.2+List.length [v4])≤9223372036854775807)∧(Zw IntKind.i64 (y4.1+(1:Int))∧R4 ((y4.1+(1:Int)),(y6.2.2++[v4])))) (Zw IntKind.i64 (y4.1+(1:Int))∧R4 ((y4.1+(1:Int)),y6.2.2)))) ((0:Int),(false,y4.2)))) (((0:Int)≤((List.length y4.2:Nat):Int)∧(((List.length y4.2:Nat):Int)≤((List.length y4.2:Nat):Int)∧((((List.length y4.2:Nat):Int)*((1:Nat):Int))≤(140737488355328:Int)∧((List.length y4.2:Nat):Int)≤(9223372036854775807:Int))))∧Lp (σ:=Int×(List (Zc))×List Bool) (fun y6 R6=>let v10:=List.getD y4.2 (Int.toNat y6.1) Zb;let v14:=ZF.fn (((1:Int),((0:Int),v10.2.2)),());cond (decide (y6.1 < ((List.length y4.2:Nat):Int))) (((0:Int)≤y6.1∧y6.1 < ((List.length y4.2:Nat):Int))∧(Int.toNat y6.1 < List.length y4.2∧(Zw IntKind.i64 (y6.1+(1:Int))∧Lp (σ:=Int×(List (Zc))×List Bool) (fun y8 R8=>let v11:=List.getD y4.2 (Int.toNat y8.1) Zb;let v13:=List.set y8.2.2 (Int.toNat y6.1) true;cond (decide (y8.1 < ((List.length y4.2:Nat):Int))) (((0:Int)≤y8.1∧y8.1 < ((List.length y4.2:Nat):Int))∧(Int.toNat y8.1 < List.length y4.2∧(ZA.pre (v10,(v11,()))∧cond ((ZA.fn (v10,(v11,()))) != (-(1:Int))) (Zw IntKind.i64 (y8.1+(1:Int))∧R8 ((y8.1+(1:Int)),y8.2)) (Zw IntKind.i64 (v10.2.2.2+v11.2.2.2)∧cond (decide ((v10.2.2.2+v11.2.2.2) < (0:Int))) (Q (([]:List (Zc)),(true,(0:Int)))) (Zw IntKind.i64 (v10.2.2.2+v11.2.2.2)∧cond ((v10.2.2.2+v11.2.2.2) == (0:Int)) (((0:Int)≤y6.1∧y6.1 < ((List.length y8.2.2:Nat):Int))∧(Int.toNat y6.1 < List.length y8.2.2∧(((0:Int)≤y8.1∧y8.1 < ((List.length v13:Nat):Int))∧(Int.toNat y8.1 < List.length v13∧(ZF.pre (((1:Int),((0:Int),v10.2.2)),())∧((((List.length y8.2.1+List.length [v14.1])*48)≤140737488355328∧(List.length y8.2.1+List.length [v14.1])≤9223372036854775807)∧(Zw IntKind.i64 (y8.1+(1:Int))∧R8 ((y8.1+(1:Int)),((y8.2.1++[v14.1]),(List.set v13 (Int.toNat y8.1) true)))))))))) (Zw IntKind.i64 (y8.1+(1:Int))∧R8 ((y8.1+(1:Int)),y8.2))))))) (Zw IntKind.i64 (y6.1+(1:Int))∧R6 ((y6.1+(1:Int)),y8.2))) ((y6.1+(1:Int)),y6.2)))) (Lp (σ:=Int×List Bool) (fun y8 R8=>let v16:=List.getD y6.2.1 (Int.toNat y8.1) Zb;cond (decide (y8.1 < ((List.length y6.2.1:Nat):Int))) (((0:Int)≤y8.1∧y8.1 < ((List.length y6.2.1:Nat):Int))∧(Int.toNat y8.1 < List.length y6.2.1∧(((0:Int)≤y8.1∧y8.1≤((List.length y6.2.1:Nat):Int))∧Lp (σ:=Int) (fun y10 R10=>let v17:=List.getD y6.2.1 (0+Int.toNat y10) Zb;let v18:=ZA.fn (v16,(v17,()));cond (decide (y10 < ((Int.toNat y8.1:Nat):Int))) (((0:Int)≤y10∧(y10 < ((Int.toNat y8.1:Nat):Int)∧(0+Int.toNat y8.1)≤List.length y6.2.1))∧((0+Int.toNat y10) < List.length y6.2.1∧(ZA.pre (v16,(v17,()))∧(((v18 == (1:Int))=true→((v18 == (1:Int))=true∧True))∧(((v18 == (1:Int))=true→((v18 == (1:Int))=true∧True))∧(((v18 == (1:Int))=true→((v18 == (1:Int))=true∧True))∧(((v18 == (1:Int))=true→((v18 == (1:Int))=true∧True))∧(((v18 == (1:Int))=true→((v18 == (1:Int))=true∧((v18 == (1:Int))=true∧True)))∧(((v18 == (1:Int))=true→(v18 == (1:Int))=true)∧cond ((v18 == (1:Int))&&(v16.2.2.2 != v17.2.2.2)) (Q (([]:List (Zc)),(true,(0:Int)))) (Zw IntKind.i64 (y10+(1:Int))∧R10 (y10+(1:Int)))))))))))) (Lp (σ:=Int×List Bool) (fun y12 R12=>let v19:=List.getD y12.2 (Int.toNat y12.1) false;let v20:=List.getD y4.2 (Int.toNat y12.1) Zb;let v21:=ZA.fn (v16,(v20,()));cond (decide (y12.1 < ((List.length y4.2:Nat):Int))) (((0:Int)≤y12.1∧y12.1 < ((List.length y4.2:Nat):Int))∧(Int.toNat y12.1 < List.length y4.2∧(((0:Int)≤y12.1∧y12.1 < ((List.length y12.2:Nat):Int))∧(Int.toNat y12.1 < List.length y12.2∧(((!v19)=true→((!v19)=true∧((!v19)=true∧ZA.pre (v16,(v20,())))))∧(((!v19)=true→((!v19)=true∧True))∧((v19=false→(!v19)=true)∧cond (v19||(v21 == (0:Int))) (Zw IntKind.i64 (y12.1+(1:Int))∧R12 ((y12.1+(1:Int)),y12.2)) (ZA.pre (v16,(v20,()))∧(Zw IntKind.i64 (v21*v16.2.2.2)∧(Zw IntKind.i64 (v20.2.2.2 - (v21*v16.2.2.2))∧cond (decide ((v20.2.2.2 - (v21*v16.2.2.2)) < (0:Int))) (Q (([]:List (Zc)),(true,(0:Int)))) (((0:Int)≤y12.1∧y12.1 < ((List.length y12.2:Nat):Int))∧(Int.toNat y12.1 < List.length y12.2∧(Zw IntKind.i64 (y12.1+(1:Int))∧R12 ((y12.1+(1:Int)),(List.set y12.2 (Int.toNat y12.1) true))))))))))))))) (Zw IntKind.i64 (y8.1+(1:Int))∧R8 ((y8.1+(1:Int)),y12.2))) ((0:Int),y8.2))) (0:Int)))) (Lp (σ:=Int×List (Zc)) (fun y10 R10=>let v24:=List.getD y4.2 (Int.toNat y10.1) Zb;let v25:=ZL.fn ((y10.2++y2.2.2.2.2),());cond (decide (y10.1 < ((List.length y4.2:Nat):Int))) (((0:Int)≤y10.1∧y10.1 < ((List.length y4.2:Nat):Int))∧(Int.toNat y10.1 < List.length y4.2∧(((0:Int)≤y10.1∧y10.1 < ((List.length y8.2:Nat):Int))∧(Int.toNat y10.1 < List.length y8.2∧cond (!(List.getD y8.2 (Int.toNat y10.1) false)) ((((List.length y10.2+List.length [v24])*48)≤140737488355328∧(List.length y10.2+List.length [v24])≤9223372036854775807)∧(Zw IntKind.i64 (y10.1+(1:Int))∧R10 ((y10.1+(1:Int)),(y10.2++[v24])))) (Zw IntKind.i64 (y10.1+(1:Int))∧R10 ((y10.1+(1:Int)),y10.2)))))) ((((List.length y10.2+List.length y2.2.2.2.2)*48)≤140737488355328∧(List.length y10.2+List.length y2.2.2.2.2)≤9223372036854775807)∧(ZL.pre ((y10.2++y2.2.2.2.2),())∧(((!y2.2.1)=true→((!y2.2.1)=true∧True))∧(((!y2.2.1)=true→((!y2.2.1)=true∧True))∧((y2.2.1=false→(!y2.2.1)=true)∧cond (y2.2.1||decide ((96:Int) < ((List.length v25:Nat):Int))) (Q (([]:List (Zc)),(false,(3:Int)))) (Q (v25,(false,(0:Int)))))))))) ((0:Int),y6.2.1))) ((0:Int),y6.2.2))) ((0:Int),(y2.2.2.2.1,(List.replicate (Int.toNat ((List.length y4.2:Nat):Int)) false))))) ((0:Int),([]:List (Zc))))) ((0:Int),(false,(([]:List (Zc)),(([]:List (Zc)),([]:List (Zc))))))
def ZbL.wp (x0:Int) (x1:Lin) (x2:Int) (x3:Lin) (Q:Lin→Prop):Prop:=(((0:Int)≤((List.length x1.1:Nat):Int)∧(((List.length x1.1:Nat):Int)≤((List.length x1.1:Nat):Int)∧((((List.length x1.1:Nat):Int)*((8:Nat):Int))≤(140737488355328:Int)∧((List.length x1.1:Nat):Int)≤(9223372036854775807:Int))))∧(Zw IntKind.i64 (x0*x1.2)∧(Zw IntKind.i64 (x2*x3.2)∧(Zw IntKind.i64 ((x0*x1.2)+(x2*x3.2))∧Lp (σ:=Int×List Int) (fun y5 R5=>let v2:=List.getD x1.1 (Int.toNat y5.1) (0:Int);let v3:=List.getD x3.1 (Int.toNat y5.1) (0:Int);cond (decide (y5.1 < ((List.length x1.1:Nat):Int))) (((0:Int)≤y5.1∧y5.1 < ((List.length x1.1:Nat):Int))∧(Zw IntKind.i64 (x0*v2)∧(((0:Int)≤y5.1∧y5.1 < ((List.length x3.1:Nat):Int))∧(Zw IntKind.i64 (x2*v3)∧(Zw IntKind.i64 ((x0*v2)+(x2*v3))∧(((0:Int)≤y5.1∧y5.1 < ((List.length y5.2:Nat):Int))∧(Int.toNat y5.1 < List.length y5.2∧(Zw IntKind.i64 (y5.1+(1:Int))∧R5 ((y5.1+(1:Int)),(List.set y5.2 (Int.toNat y5.1) ((x0*v2)+(x2*v3)))))))))))) (Q (y5.2,((x0*x1.2)+(x2*x3.2))))) ((0:Int),(List.replicate (Int.toNat ((List.length x1.1:Nat):Int)) (0:Int)))))))
def Z8.wp (x0:List Zc) (x1:Int) (Q:(List Zc)×Bool×Int→Prop):Prop:=(((!(decide (x1 < (0:Int))))=true→((!(decide (x1 < (0:Int))))=true∧True))∧((decide (x1 < (0:Int))=false→(!(decide (x1 < (0:Int))))=true)∧cond (decide (x1 < (0:Int))||decide ((12:Int) < x1)) (Q (([]:List (Zc)),(false,(6:Int)))) (cond (decide ((384:Int) < ((List.length x0:Nat):Int))) (Q (([]:List (Zc)),(false,(3:Int)))) (Lp (σ:=Int×Int) (fun y3 R3=>let v0:=List.getD x0 (Int.toNat y3.1) Zb;cond (decide (y3.1 < ((List.length x0:Nat):Int))) (((0:Int)≤y3.1∧y3.1 < ((List.length x0:Nat):Int))∧cond (!(Z5.fn (v0,()))) (Q (([]:List (Zc)),(false,(1:Int)))) (cond (((List.length v0.2.2.1:Nat):Int) != x1) (Zw IntKind.i64 (y3.1+(1:Int))∧R3 ((y3.1+(1:Int)),(2:Int))) (Zw IntKind.i64 (y3.1+(1:Int))∧R3 ((y3.1+(1:Int)),y3.2)))) (cond (y3.2 != (0:Int)) (Q (([]:List (Zc)),(false,y3.2))) (ZU.pre (x0,())∧Q ((ZU.fn (x0,())).1,((ZU.fn (x0,())).2))))) ((0:Int),(0:Int))))))
theorem Zac.spec (b:Bool):Zac.wp b (fun r=>r=Zac.fn (b,())):=by cases b<;>rfl
theorem ZP.spec (l:Lin) (g k:Int) (hp:ZP.pre (l,g,k,())):ZP.wp l g k (fun r=>r=ZP.fn (l,g,k,())):=by
 obtain ⟨h1,h2,h3⟩:=hp
 simp only at h1 h2 h3
 simp only [ZP.wp,Int.toNat_natCast]
 refine ⟨⟨by omega,by omega,by omega,by omega⟩,?_⟩
 refine Lp.fill l.1 0 0 (·.tdiv g) (by omega) (fun i out R hi hi' hf ho hR=>?_) (fun R=>?_)
 ·simp only [decide_eq_true hi',Int.toNat_natCast]
  have hn:=h3 _ (Zl (d:=0) hi)
  exact ⟨⟨by omega,hi'⟩,⟨h1,Zcn hn.1 hn.2⟩,⟨by omega,by omega⟩,by omega,hf,hR⟩
 ·simp only [Int.lt_irrefl,decide_false,cond_false]
  rfl
theorem Zav.spec (k:Int):Zav.wp k (fun r=>r=Zav.fn (k,())):=by
 simp only [Zav.wp,Zav.fn,ZbP]
 by_cases h:k=0
 ·subst h;rfl
 ·by_cases h2:k=1
  ·subst h2;rfl
  ·simp [h,h2]
theorem Zl8 (l:List Int):∀ g:Nat,l.foldl (fun g n=>Nat.gcd g n.natAbs) g=Nat.gcd g (ZaZ l):=by
 induction l with
 | nil=>intro g;simp [ZaZ]
 | cons m l ih =>
   intro g
   simp only [List.foldl_cons,ZaZ]
   rw [ih,ih (Nat.gcd 0 m.natAbs),Nat.gcd_zero_left,Nat.gcd_assoc]
theorem ZfO (m:Int) (l:List Int):ZaZ (m::l)=Nat.gcd m.natAbs (ZaZ l):=by
 simp only [ZaZ,List.foldl_cons]
 rw [Zl8,Nat.gcd_zero_left];rfl
theorem ZpW (m:Int) (l:List Int):ZaZ (l++[m])=Nat.gcd (ZaZ l) m.natAbs:=by
 simp only [ZaZ,List.foldl_append,List.foldl_cons,List.foldl_nil]
theorem ZpE (m:Int) (l:List Int):ZaZ (l++[m])=ZaZ (m::l):=by rw [ZfO,ZpW,Nat.gcd_comm]
theorem ZF.spec (c:Zc) (hp:ZF.pre (c,())):ZF.wp c (fun r=>r=ZF.fn (c,())):=by
 obtain ⟨hk,hb⟩:condB c:=hp
 obtain ⟨h1,h2,h3⟩:=id hb
 unfold ZeP at h3
 have hgl:ZaZ c.2.2.1≤9223372036854775807:=ZkC hb.ints
 have hfn:ZF.fn (c,())=Zbm c:=rfl
 simp only [ZF.wp,Zay.fn,ZaV.fn,Zac.fn,hfn]
 refine ⟨hb.ints,?_⟩
 have hov:∀ g k:Int,g≠0→ZP.pre (c.2.2,g,k,()):=fun g k hg=>⟨hg,h1,hb.ints⟩
 have hkf:∀ g:Int,Zw .i64 (c.2.2.2.tdiv g):=fun g=>Zcn (by omega) (by omega)
 rcases hk with hk | hk | ⟨hk,hm1,hm2⟩
 ·have hr:Zbm c=geF c:=by simp [Zbm,hk]
  simp only [hk,beq_self_eq_true,cond_true,hr]
  unfold geF
  by_cases hg:ZaZ c.2.2.1=0
  ·rw [if_pos hg,hg];rfl
  ·rw [beq_eq_false_iff_ne.2 (show ((ZaZ c.2.2.1:Nat):Int)≠0 by omega),if_neg hg]
   have hf:ZW.fn (c.2.2.2,((ZaZ c.2.2.1:Nat):Int),())=(c.2.2.2 / ((ZaZ c.2.2.1:Nat):Int),0):=by
    simp only [ZW.fn,Zab.fn]
    rw [if_neg (show ¬ ((ZaZ c.2.2.1:Nat):Int) < 1 by omega)]
   rw [hf]
   exact ⟨⟨by show -9223372036854775807≤c.2.2.2;omega,by show c.2.2.2≤9223372036854775807;omega⟩,hov _ _ (by omega),rfl⟩
 ·have hr:Zbm c=eqF c:=by simp [Zbm,hk]
  simp only [hk,show ((1:Int) == 0)=false from rfl,beq_self_eq_true,cond_true,cond_false,hr]
  unfold eqF
  by_cases hz:ZaZ c.2.2.1=0
  ·rw [if_pos (.inl hz),hz]
   simp
  ·have hzi:((ZaZ c.2.2.1:Nat):Int)≠0:=by omega
   rw [beq_eq_false_iff_ne.2 hzi]
   refine ⟨hzi,?_⟩
   by_cases hm:c.2.2.2.tmod (ZaZ c.2.2.1)≠0
   ·rw [bne_iff_ne.2 hm,if_pos (.inr hm)]
    simp [hz]
   ·have hm':c.2.2.2.tmod (ZaZ c.2.2.1)=0:=by simpa using hm
    rw [hm',bne_self_eq_false,cond_false,if_neg (by simp [hz])]
    refine Lp.iter c.2.2.1.length (fun i y=>y=(i:Int)∧∀ j,j < i→c.2.2.1.getD j 0=0) ⟨rfl,fun j hj=>absurd hj (by omega)⟩ ?_
    rintro i y hle ⟨rfl,hi⟩ R hR
    by_cases e:i < c.2.2.1.length
    ·rw [decide_eq_true (show (i:Int) < (c.2.2.1.length:Int) by omega)]
     refine ⟨⟨by omega,by omega⟩,?_⟩
     simp only [Int.toNat_natCast]
     by_cases hn:c.2.2.1.getD i 0=0
     ·simp only [hn,bne_self_eq_false,cond_false]
      refine ⟨⟨by omega,by omega⟩,hR e _ ⟨by omega,fun j hj=>?_⟩⟩
      by_cases ej:j=i
      ·subst ej;exact hn
      ·exact hi j (by omega)
     ·simp only [bne_iff_ne.2 hn,cond_true]
      have hfn:ZaW c.2.2.1=decide (c.2.2.1.getD i 0 < 0):=by
       rw [Zct hi,List.drop_eq_getElem_cons e]
       rw [ZT e] at hn
       simp only [ZaW,if_neg hn,ZT e]
      by_cases hneg:c.2.2.1.getD i 0 < 0
      ·rw [decide_eq_true hneg] at hfn
       simp only [decide_eq_true hneg,cond_true]
       have hs:Za5 c=-((ZaZ c.2.2.1:Nat):Int):=by simp [Za5,hfn]
       rw [hs]
       exact ⟨⟨by omega,by omega⟩,⟨by omega,hkf _⟩,hov _ _ (by omega),rfl⟩
      ·rw [decide_eq_false hneg] at hfn
       simp only [decide_eq_false hneg,cond_false]
       have hs:Za5 c=((ZaZ c.2.2.1:Nat):Int):=by simp [Za5,hfn]
       rw [hs]
       exact ⟨⟨hzi,hkf _⟩,hov _ _ hzi,rfl⟩
    ·have:i=c.2.2.1.length:=by omega
     subst this
     simp only [Int.lt_irrefl,decide_false,cond_false]
     have hfn:ZaW c.2.2.1=false:=by
      rw [Zct hi,List.drop_length];rfl
     have hs:Za5 c=((ZaZ c.2.2.1:Nat):Int):=by simp [Za5,hfn]
     rw [hs]
     exact ⟨⟨hzi,hkf _⟩,hov _ _ hzi,rfl⟩
 ·have hr:Zbm c=ZjR c:=by simp [Zbm,hk]
  simp only [hk,show ((2:Int) == 0)=false from rfl,show ((2:Int) == 1)=false from rfl,cond_false,hr,Int.toNat_natCast]
  refine ⟨⟨by omega,by omega,by omega,by omega⟩,?_⟩
  have hmod:∀ n,Zai.fn (n,c.2.1,())=(n % c.2.1,0):=fun n=>by
   simp only [Zai.fn,ZaT.fn];rw [if_neg (by omega)]
  have hmp:∀ n,Zai.pre (n,c.2.1,()):=fun n=>by show c.2.1≤9223372036854775807;omega
  have hr:∀ n:Int,0≤n % c.2.1∧n % c.2.1 < c.2.1:=fun n=>⟨Int.emod_nonneg _ (by omega),Int.emod_lt_of_pos _ (by omega)⟩
  simp only [hmod]
  refine Lp.fill c.2.2.1 0 0 (· % c.2.1) (by omega) (fun i out R hi hi' hf ho hR=>?_) (fun R=>?_)
  ·simp only [decide_eq_true hi',Int.toNat_natCast]
   exact ⟨⟨by omega,hi'⟩,hmp _,⟨by omega,by omega⟩,by omega,hf,hR⟩
  ·simp only [Int.lt_irrefl,decide_false,cond_false,List.nil_append,ZpE]
   have hdg:ZbM c=ZaZ (c.2.1::c.2.2.1.map (· % c.2.1)):=rfl
   have hpos:=ZfR hm1 (c.2.2.1.map (· % c.2.1))
   have hle:=ZdQ hm1 (c.2.2.1.map (· % c.2.1))
   rw [← hdg] at hpos hle ⊢
   have hq:=hr c.2.2.2
   refine ⟨hmp _,⟨by simp;omega,by simp;omega⟩,⟨by simp;omega,by simp;omega⟩,fun n hn=>?_,by omega,?_⟩
   ·rcases List.mem_append.1 hn with hn | hn
    ·obtain ⟨a,_,rfl⟩:=List.mem_map.1 hn
     have:=hr a;omega
    ·simp only [List.mem_singleton] at hn;omega
   ·unfold ZjR
    by_cases ht:(c.2.2.2 % c.2.1).tmod (ZbM c)≠0
    ·rw [bne_iff_ne.2 ht,if_pos ht];rfl
    ·rw [if_neg ht]
     have ht:(c.2.2.2 % c.2.1).tmod (ZbM c)=0:=by simpa using ht
     rw [ht,bne_self_eq_false]
     by_cases he:c.2.1=ZbM c
     ·rw [if_pos he]
      simp only [beq_iff_eq.2 he,cond_true,cond_false]
     ·rw [if_neg he,beq_eq_false_iff_ne.2 he]
      refine ⟨⟨by omega,Zcn (by omega) (by omega)⟩,⟨by omega,Zcn (by omega) (by omega)⟩,⟨by show ((ZbM c:Nat):Int)≠0;omega,by simpa using h1,fun n hn=>?_⟩,rfl⟩
      obtain ⟨a,_,rfl⟩:=List.mem_map.1 hn
      have:=hr a
      constructor<;>omega
local macro "gh" : tactic => `(tactic| (intro h; first | exact ⟨h, trivial⟩ | exact ⟨h, h, trivial⟩ | exact h | exact ⟨h, h, by omega, by omega⟩))
theorem ZrD (C:List Int):(ZbK C).length=C.length:=by simp [ZbK]
theorem Zqt {α:Type} [DecidableEq α] {u v:List α} {x y:α} (h:u.length=v.length):decide (u++[x]=v++[y])=(decide (u=v)&&decide (x=y)):=by
 by_cases h1:u=v
 ·subst h1
  by_cases h2:x=y
  ·subst h2;simp
  ·simp [h2]
 ·have:¬ u++[x]=v++[y]:=fun e=>h1 (List.append_inj e h).1
  simp [this,h1]
theorem ZA.spec (a b:Zc) (hp:ZA.pre (a,b,())):ZA.wp a b (fun r=>r=ZA.fn (a,b,())):=by
 obtain ⟨hl,hm,hi⟩:=hp
 simp only at hl hm hi
 have hfn:ZA.fn (a,b,())=Za9 a b:=rfl
 simp only [ZA.wp,hfn]
 refine Lp.iter a.2.2.1.length (fun i y=>y=((i:Int),decide (a.2.2.1.take i=ZbK (b.2.2.1.take i)),decide (a.2.2.1.take i=b.2.2.1.take i))) (by simp [ZbK]) ?_
 rintro i y hle rfl R hR
 by_cases e:i < a.2.2.1.length
 ·have hn:=hi _ (Zl (d:=0) (show i < b.2.2.1.length by omega))
  have ha:=ZH 0 e
  have hb:=ZH 0 (show i < b.2.2.1.length by omega)
  simp only [decide_eq_true (show (i:Int) < (a.2.2.1.length:Int) by omega),Int.toNat_natCast,cond_true]
  refine ⟨by gh,by gh,by gh,by gh,by gh,by gh,by gh,by gh,by gh,by gh,by gh,by gh,by gh,by gh,by gh,by gh,by gh,by gh,fun h=>⟨h,by omega,by omega⟩,by gh,by gh,⟨by omega,by omega⟩,hR e _ ?_⟩
  have hnb:ZbK (b.2.2.1.take i++[b.2.2.1.getD i 0])=ZbK (b.2.2.1.take i)++[-b.2.2.1.getD i 0]:=by simp [ZbK]
  rw [ha,hb,hnb,Zqt (by rw [ZrD];simp;omega),Zqt (by simp;omega)]
  rfl
 ·have:i=a.2.2.1.length:=by omega
  subst this
  simp only [Int.lt_irrefl,decide_false,cond_false,List.take_length]
  rw [hl,List.take_length]
  unfold Za9
  by_cases h1:a.2.2.1=b.2.2.1
  ·rw [if_pos h1,decide_eq_true h1];rfl
  ·rw [if_neg h1,decide_eq_false h1]
   by_cases h2:a.2.2.1=ZbK b.2.2.1
   ·rw [if_pos h2,decide_eq_true h2];rfl
   ·rw [if_neg h2,decide_eq_false h2];rfl
theorem ZQ.spec (a b:List Int) (hla:a.length≤9223372036854775807) (hp:ZQ.pre (a,b,())):ZQ.wp a b (fun r=>r=ZQ.fn (a,b,())):=by
 have hl:a.length=b.length:=hp
 have hfn:ZQ.fn (a,b,())=Zcx a b:=rfl
 simp only [ZQ.wp,hfn]
 refine Lp.iter a.length (fun i y=>y=(i:Int)∧Zcx a b=Zcx (a.drop i) (b.drop i)) ⟨rfl,rfl⟩ ?_
 rintro i y hle ⟨rfl,hd⟩ R hR
 by_cases e:i < a.length
 ·have hb:i < b.length:=by omega
  simp only [decide_eq_true (show (i:Int) < (a.length:Int) by omega),Int.toNat_natCast,cond_true]
  rw [List.drop_eq_getElem_cons e,List.drop_eq_getElem_cons hb] at hd
  simp only [Zcx] at hd
  simp only [ZT e,ZT hb]
  refine ⟨⟨by omega,by omega⟩,⟨by omega,by omega⟩,?_⟩
  unfold Zgx at hd
  by_cases h1:a[i] < b[i]
  ·rw [if_pos h1,if_neg (by decide)] at hd
   rw [decide_eq_true h1]
   exact hd.symm
  ·rw [if_neg h1] at hd
   rw [decide_eq_false h1]
   refine ⟨⟨by omega,by omega⟩,⟨by omega,by omega⟩,?_⟩
   by_cases h2:b[i] < a[i]
   ·rw [if_pos h2,if_neg (by decide)] at hd
    rw [decide_eq_true h2]
    exact hd.symm
   ·rw [if_neg h2,if_pos rfl] at hd
    rw [decide_eq_false h2]
    exact ⟨⟨by omega,by omega⟩,hR e _ ⟨rfl,hd⟩⟩
 ·have:i=a.length:=by omega
  subst this
  simp only [Int.lt_irrefl,decide_false,cond_false]
  rw [List.drop_length,hl,List.drop_length] at hd
  exact hd.symm
theorem ZaK.spec (l m:Lin) (hp:ZaK.pre (l,m,())):ZaK.wp l m (fun r=>r=ZaK.fn (l,m,())):=by
 obtain ⟨h1,h2⟩:=hp
 simp only at h1 h2
 simp only [ZaK.wp,List.nil_append]
 refine ⟨⟨by simp;omega,by simp;omega⟩,⟨by simp;omega,by simp;omega⟩,⟨by simp;omega,by simp;omega⟩,⟨by simp;omega,by simp;omega⟩,?_,?_⟩
 rotate_left
 ·trivial
 show (l.1++[l.2]).length=(m.1++[m.2]).length
 simp [h1]
theorem ZeW:∀ {a b:List Int} {x y:Int},a.length=b.length→Zcx (a++[x]) (b++[y])=if Zcx a b=0 then Zgx x y else Zcx a b
 | [],[],x,y,_=>by
   simp only [List.nil_append,Zcx]
   by_cases h:Zgx x y=0
   ·simp [h]
   ·simp [h]
 | [],_::_,x,y,h=>by simp at h
 | _::_,[],x,y,h=>by simp at h
 | u::a,v::b,x,y,h=>by
   simp only [List.cons_append,Zcx]
   by_cases h1:Zgx u v=0
   ·simp only [h1,if_true]
    exact ZeW (by simpa using h)
   ·simp only [if_neg h1]
theorem Zaz.spec (a b:Zc) (hp:Zaz.pre (a,b,())):Zaz.wp a b (fun r=>r=Zaz.fn (a,b,())):=by
 obtain ⟨h1,h2⟩:=hp
 simp only at h1 h2
 simp only [Zaz.wp,ZQ.fn,Zav.fn,ZaK.fn,Zaz.fn]
 refine ⟨rfl,?_⟩
 have e:ZgX a b=if Zcx [ZbP a.1,a.2.1] [ZbP b.1,b.2.1]=0 then Zcx (a.2.2.1++[a.2.2.2]) (b.2.2.1++[b.2.2.2]) else Zcx [ZbP a.1,a.2.1] [ZbP b.1,b.2.1]:=by
  rw [Zg4,ZeW h1]
  have e2:Zcx [ZbP a.1,a.2.1] [ZbP b.1,b.2.1]=if Zgx (ZbP a.1) (ZbP b.1)=0 then Zgx a.2.1 b.2.1 else Zgx (ZbP a.1) (ZbP b.1):=by
   have:=ZeW (a:=[ZbP a.1]) (b:=[ZbP b.1]) (x:=a.2.1) (y:=b.2.1) rfl
   simp only [List.singleton_append] at this
   rw [this]
   have e3:Zcx [ZbP a.1] [ZbP b.1]=Zgx (ZbP a.1) (ZbP b.1):=by
    simp only [Zcx];split
    ·rename_i h;exact h.symm
    ·rfl
   rw [e3]
  rw [e2]
  split
  ·split<;>rfl
  ·rfl
 by_cases h3:Zcx [ZbP a.1,a.2.1] [ZbP b.1,b.2.1]=0
 ·rw [if_pos h3] at e
  simp only [h3,bne_self_eq_false,cond_false]
  exact ⟨⟨h1,h2⟩,e.symm⟩
 ·rw [if_neg h3] at e
  simp only [bne_iff_ne.2 h3,cond_true]
  exact e.symm
theorem Zra {c:Zc}:∀ {l:List Zc} {j:Nat},(∀ i,i < j→ZgX (l.getD i Zb) c < 0)→j≤l.length→Zg7 c l=l.take j++Zg7 c (l.drop j)
 | l,0,_,_=>by simp
 | [],j+1,_,h=>by simp at h
 | d::l,j+1,h,h2=>by
   have h0:=h 0 (by omega)
   simp at h0
   simp only [Zg7,if_pos h0,List.take_succ_cons,List.drop_succ_cons,List.cons_append]
   rw [Zra (l:=l) (j:=j) (fun i hi=>by have:=h (i+1) (by omega);simpa using this) (by simpa using h2)]
theorem Znv (c:Zc):∀ l:List Zc,(Zg7 c l).length≤l.length+1
 | []=>by simp [Zg7]
 | d::l=>by
   have:=Znv c l
   simp only [Zg7]
   split
   ·simp only [List.length_cons];omega
   ·split
    ·simp
    ·simp
theorem Zo2 {l:List Zc} {i:Nat} (h:i < l.length):ZaX (l.take (i+1))=Zg7 (l.getD i Zb) (ZaX (l.take i)):=by
 rw [ZH Zb h,ZaX,List.foldl_append];rfl
theorem ZqZ:∀ (l:List Zc),(ZaX l).length≤l.length:=by
 have key:∀ (l out:List Zc),(l.foldl (fun out c=>Zg7 c out) out).length≤out.length+l.length:=by
  intro l
  induction l with
  | nil=>intro out;simp
  | cons c l ih =>
    intro out
    have:=ih (Zg7 c out)
    have:=Znv c out
    simp only [List.foldl_cons,List.length_cons];omega
 intro l
 have:=key l []
 simpa [ZaX] using this
theorem ZqD (l:List Zc):∀ x∈ZaX l,x∈l:=by
 have key:∀ (l out:List Zc),∀ x∈l.foldl (fun out c=>Zg7 c out) out,x∈l∨x∈out:=by
  intro l
  induction l with
  | nil=>intro out x hx;exact .inr hx
  | cons c l ih =>
    intro out x hx
    rcases ih _ x hx with h | h
    ·exact .inl (by simp [h])
    ·rcases Zft.1 h with rfl | h
     ·exact .inl (by simp)
     ·exact .inr h
 intro x hx
 exact (key l [] x hx).elim id (by simp)
theorem ZL.spec (l:List Zc) (hp:ZL.pre (l,())):ZL.wp l (fun r=>r=ZL.fn (l,())):=by
 obtain ⟨hl,n,hn,hd⟩:=hp
 simp only at hl hd
 have hfn:ZL.fn (l,())=ZaX l:=rfl
 simp only [ZL.wp,hfn,Zaz.fn,Zal.fn,List.nil_append]
 refine Lp.iter l.length (fun i y=>y=((i:Int),ZaX (l.take i))) (by simp [ZaX]) ?_
 rintro i y hle rfl R hR
 by_cases e:i < l.length
 ·simp only [decide_eq_true (show (i:Int) < (l.length:Int) by omega),Int.toNat_natCast,cond_true]
  refine ⟨⟨by omega,by omega⟩,?_⟩
  have hst:=Zo2 e
  have hol:=ZqZ (l.take i)
  have hdc:(l.getD i Zb).2.2.1.length=n:=hd _ (Zl e)
  have hds:∀ j,j < (ZaX (l.take i)).length→((ZaX (l.take i)).getD j Zb).2.2.1.length=n:=fun j hj=>hd _ (List.mem_of_mem_take (ZqD _ _ (Zl hj)))
  rw [List.length_take] at hol
  have hR':=hR e ((i:Int)+1,Zg7 (l.getD i Zb) (ZaX (l.take i))) (by rw [hst];rfl)
  clear hR hst
  refine Lp.iter (ZaX (l.take i)).length (fun j y=>y=(j:Int)∧∀ k,k < j→ZgX ((ZaX (l.take i)).getD k Zb) (l.getD i Zb) < 0) ⟨rfl,fun k hk=>absurd hk (by omega)⟩ ?_
  rintro j y hjl ⟨rfl,hj⟩ R' hR2
  have hins:=Zra hj hjl
  simp only [Int.toNat_natCast]
  by_cases e2:j < (ZaX (l.take i)).length
  ·have hds':=hds j e2
   simp only [decide_eq_true (show (j:Int) < ((ZaX (l.take i)).length:Int) by omega),Bool.true_and]
   refine ⟨fun h=>⟨h,h,by omega,by omega⟩,fun h=>⟨h,trivial⟩,fun h=>⟨h,h,⟨hds'.trans hdc.symm,by show ((ZaX (l.take i)).getD j Zb).2.2.1.length≤_;omega⟩⟩,fun h=>⟨h,trivial⟩,fun h=>h,?_⟩
   rw [List.drop_eq_getElem_cons e2] at hins
   by_cases h1:ZgX ((ZaX (l.take i)).getD j Zb) (l.getD i Zb) < 0
   ·simp only [decide_eq_true h1,cond_true]
    refine ⟨⟨by omega,by omega⟩,hR2 e2 _ ⟨rfl,fun k hk=>?_⟩⟩
    by_cases ek:k=j
    ·subst ek;exact h1
    ·exact hj k (by omega)
   ·simp only [decide_eq_false h1,cond_false]
    refine ⟨fun h=>⟨h,h,by omega,by omega⟩,fun h=>⟨h,trivial⟩,fun h=>⟨h,h,trivial⟩,fun h=>h,?_⟩
    rw [ZT e2] at h1
    by_cases h2:(ZaX (l.take i)).getD j Zb=l.getD i Zb
    ·rw [decide_eq_true h2]
     refine ⟨⟨by omega,by omega⟩,?_⟩
     rw [ZT e2] at h2
     simp only [Zg7,if_neg h1,if_pos h2] at hins
     rw [← List.drop_eq_getElem_cons e2,List.take_append_drop] at hins
     rw [hins] at hR'
     exact hR'
    ·rw [decide_eq_false h2]
     rw [ZT e2] at h2
     simp only [Zg7,if_neg h1,if_neg h2] at hins
     rw [← List.drop_eq_getElem_cons e2] at hins
     refine ⟨⟨by omega,by omega⟩,⟨by simp;omega,by simp;omega⟩,⟨by simp;omega,by simp;omega⟩,⟨by omega,by omega⟩,⟨by simp;omega,by simp;omega⟩,⟨by omega,by omega⟩,?_⟩
     rw [hins] at hR'
     simpa using hR'
  ·have:j=(ZaX (l.take i)).length:=by omega
   subst this
   simp only [Int.lt_irrefl,decide_false,Bool.false_and,cond_false]
   refine ⟨fun h=>(by cases h),fun h=>(by cases h),fun h=>(by cases h),fun h=>(by cases h),fun h=>(by cases h),fun h=>(by cases h),fun h=>(by cases h),fun h=>(by cases h),fun h=>(by cases h),⟨by omega,by omega⟩,⟨by simp;omega,by simp;omega⟩,⟨by simp;omega,by simp;omega⟩,⟨by omega,by omega⟩,⟨by simp;omega,by simp;omega⟩,⟨by omega,by omega⟩,?_⟩
   rw [List.drop_length] at hins ⊢
   simp only [Zg7] at hins
   rw [hins] at hR'
   simpa using hR'
 ·have:i=l.length:=by omega
  subst this
  simp only [Int.lt_irrefl,decide_false,cond_false,List.take_length]
theorem ZbO {α:Type} {l:List α} {d x:α} (h:x∈l):∃ i,i < l.length∧l.getD i d=x:=by
 obtain ⟨i,hi,rfl⟩:=List.mem_iff_getElem.1 h
 exact ⟨i,hi,ZT hi⟩
theorem Z1.D {s:Ze2} (h:Z1 s=true) {p:List Zc} (hp:p∈s.2):ZaG p∧ZdJ p s.1.toNat:=⟨Z1.B h hp,fun c hc=>by
 obtain ⟨h0,_,_,h4⟩:=Z1.b h
 have:=((h4 p hp).2 c hc).2
 omega⟩
theorem Z8.spec (p:List Zc) (n:Int):Z8.wp p n (fun r=>r=Z8.fn (p,n,())):=by
 have hfn:Z8.fn (p,n,())=Zbi p n:=rfl
 simp only [Z8.wp,hfn,Z5.fn,ZU.fn]
 refine ⟨fun h=>⟨h,trivial⟩,fun h=>by rw [h];rfl,?_⟩
 by_cases h1:n < 0∨12 < n
 ·have:(decide (n < 0)||decide (12 < n))=true:=by simpa using h1
  rw [this]
  simp [Zbi,h1]
 ·have:(decide (n < 0)||decide (12 < n))=false:=by
   rw [not_or] at h1;simp [h1]
  rw [this]
  have hs:Zbi p n=if 384 < p.length then ([],false,3) else if p.any (fun c=>!Zf c) then ([],false,1) else if Ze0 p n=false then ([],false,2) else ZaH p:=by
   unfold Zbi;exact if_neg h1
  simp only [cond_false]
  by_cases h2:384 < p.length
  ·rw [decide_eq_true (show (384:Int) < (p.length:Int) by omega)]
   rw [hs,if_pos h2];rfl
  ·rw [decide_eq_false (show ¬ (384:Int) < (p.length:Int) by omega)]
   rw [if_neg h2] at hs
   refine Lp.iter p.length (fun i y=>y=((i:Int),if (p.take i).all (fun c=>((c.2.2.1.length:Nat):Int) == n)=true then (0:Int) else 2)∧(p.take i).all Zf=true) ⟨by simp,by simp⟩ ?_
   rintro i y hle ⟨rfl,hv⟩ R hR
   by_cases e:i < p.length
   ·have hts:=ZH Zb e
    simp only [decide_eq_true (show (i:Int) < (p.length:Int) by omega),Int.toNat_natCast,cond_true]
    refine ⟨⟨by omega,by omega⟩,?_⟩
    by_cases h3:Zf (p.getD i Zb)=true
    ·simp only [h3,Bool.not_true,cond_false]
     have hv':(p.take (i+1)).all Zf=true:=by rw [hts,List.all_append,hv];simp only [List.all_cons,List.all_nil,h3];rfl
     by_cases h4:(((p.getD i Zb).2.2.1.length:Nat):Int)=n
     ·simp only [bne_eq_false_iff_eq.2 h4,cond_false]
      refine ⟨⟨by omega,by omega⟩,hR e _ ⟨?_,hv'⟩⟩
      rw [hts,List.all_append]
      simp only [List.all_cons,List.all_nil,beq_iff_eq.2 h4,Bool.and_true]
      rfl
     ·simp only [bne_iff_ne.2 h4,cond_true]
      refine ⟨⟨by omega,by omega⟩,hR e _ ⟨?_,hv'⟩⟩
      rw [hts,List.all_append]
      simp only [List.all_cons,List.all_nil,beq_eq_false_iff_ne.2 h4,Bool.and_true,Bool.and_false,Bool.false_eq_true,if_false]
      rfl
    ·rw [Bool.not_eq_true] at h3
     simp only [h3,Bool.not_false,cond_true]
     rw [hs,if_pos (List.any_eq_true.2 ⟨_,Zl (d:=Zb) e,by rw [h3];rfl⟩)]
   ·have:i=p.length:=by omega
    subst this
    rw [List.take_length] at hv ⊢
    simp only [Int.lt_irrefl,decide_false,cond_false]
    have hnv:p.any (fun c=>!Zf c)=false:=by
     rw [List.any_eq_false]
     intro c hc
     rw [List.all_eq_true.1 hv c hc];simp
    rw [hnv] at hs
    simp only [Bool.false_eq_true,if_false] at hs
    have ho:Ze0 p n=p.all (fun c=>((c.2.2.1.length:Nat):Int) == n):=by
     unfold Ze0
     rw [Bool.eq_iff_iff,List.all_eq_true,List.all_eq_true]
     constructor
     ·intro h c hc
      have:=h c hc
      simp only [Bool.and_eq_true] at this
      exact this.2
     ·intro h c hc
      rw [List.all_eq_true.1 hv c hc,h c hc];rfl
    by_cases h5:p.all (fun c=>((c.2.2.1.length:Nat):Int) == n)=true
    ·rw [ho,h5] at hs
     simp only [h5,if_true,bne_self_eq_false,cond_false]
     simp only [Bool.true_eq_false,if_false] at hs
     refine ⟨⟨⟨(by omega:p.length≤1048576),fun c hc=>Zf.condB (List.all_eq_true.1 hv c hc)⟩,n.toNat,fun c hc=>?_⟩,hs.symm⟩
     have:=List.all_eq_true.1 h5 c hc
     rw [beq_iff_eq] at this
     omega
    ·rw [ho] at hs
     simp only [if_neg h5]
     rw [Bool.not_eq_true] at h5
     rw [h5] at hs
     exact hs.symm
theorem ZhQ {g:Nat} (hg:0 < g):∀ {l:List Int} {s:Int},(s=g∨s=-(g:Int))→(∀ n∈l,g ∣ n.natAbs)→∀ a:Nat,(l.map (·.tdiv s)).foldl (fun g n=>Nat.gcd g n.natAbs) a*g=l.foldl (fun g n=>Nat.gcd g n.natAbs) (a*g)
 | [],s,_,_,a=>rfl
 | n::l,s,hs,h,a=>by
   simp only [List.map_cons,List.foldl_cons]
   rw [ZhQ hg hs fun m hm=>h m (by simp [hm])]
   congr 1
   have h1:=h n (by simp)
   have h2:(n.tdiv s).natAbs=n.natAbs / g:=by
    rw [Int.natAbs_tdiv]
    rcases hs with rfl | rfl<;>(simp;rfl)
   rw [h2,← Nat.gcd_mul_right,Nat.div_mul_cancel h1]
theorem ZlW {l:List Int} {s:Int} (hg:ZaZ l≠0) (hs:s=ZaZ l∨s=-(ZaZ l:Int)):ZaZ (l.map (·.tdiv s))=1:=by
 have h:=ZhQ (g:=ZaZ l) (by omega) (l:=l) hs (ZfI (l:=l) (g:=0)).2 0
 rw [Nat.zero_mul] at h
 have h2:ZaZ (l.map (·.tdiv s))*ZaZ l=1*ZaZ l:=by rw [Nat.one_mul];exact h
 exact Nat.eq_of_mul_eq_mul_right (by omega) h2
theorem ZgS {g:Nat} (hg:0 < g):∀ {l:List Int},(∀ n∈l,g ∣ n.natAbs)→ZaW (l.map (·.tdiv (g:Int)))=ZaW l∧(ZaW l=true→ZaW (l.map (·.tdiv (-(g:Int))))=false)
 | [],_=>⟨rfl,fun h=>by cases h⟩
 | n::l,h=>by
   obtain ⟨ih1,ih2⟩:=ZgS hg (l:=l) fun m hm=>h m (by simp [hm])
   obtain ⟨k,hk⟩:=h n (by simp)
   simp only [List.map_cons,ZaW,Int.tdiv_neg]
   by_cases h0:n=0
   ·subst h0
    simp only [Int.zero_tdiv,if_true,Int.neg_zero]
    refine ⟨ih1,fun hf=>?_⟩
    have:=ih2 hf
    simpa only [Int.tdiv_neg] using this
   ·have hk0:k≠0:=fun e=>by subst e;simp at hk;exact h0 hk
    have hq:n.tdiv g=k∧0 < n∨n.tdiv g=-(k:Int)∧n < 0:=by
     have e1:((g:Int)*k).tdiv g=k:=by rw [Int.mul_comm];exact Int.mul_tdiv_cancel _ (by omega)
     have e2:((g*k:Nat):Int)=(g:Int)*k:=Int.natCast_mul _ _
     rcases Int.lt_or_gt_of_ne h0 with h1 | h1
     ·refine .inr ⟨?_,h1⟩
      have:n=-((g:Int)*k):=by omega
      rw [this,Int.neg_tdiv,e1]
     ·refine .inl ⟨?_,h1⟩
      have:n=(g:Int)*k:=by omega
      rw [this,e1]
    have hq0:n.tdiv g≠0:=by omega
    have hq1:-n.tdiv g≠0:=by omega
    rw [if_neg h0,if_neg hq0,if_neg hq1]
    constructor
    ·exact decide_eq_decide.2 (by omega)
    ·intro h;simp only [decide_eq_true_eq] at h;exact decide_eq_false (by omega)
def Zln (n:Nat) (c:Zc):Prop:=c.2.2.1.length=n∧(c.1≠2→ZaZ c.2.2.1=1)∧(c.1=1→ZaW c.2.2.1=false)
theorem ZmZ {c:Zc} (h0:(eqF c).2=0):Zln c.2.2.1.length (eqF c).1∧(eqF c).1.1=1:=by
 have hs:∀ b,(Zcm b).2≠0:=fun b=>by cases b<;>simp [Zcm]
 unfold eqF at h0 ⊢
 by_cases hg:ZaZ c.2.2.1=0∨c.2.2.2.tmod (ZaZ c.2.2.1)≠0
 ·rw [if_pos hg] at h0;exact absurd h0 (hs _)
 ·rw [if_neg hg]
  rw [not_or] at hg
  have hd:=(ZfI (l:=c.2.2.1) (g:=0)).2
  have he:Za5 c=(ZaZ c.2.2.1:Int)∨Za5 c=-(ZaZ c.2.2.1:Int):=by
   unfold Za5;split<;>simp
  refine ⟨⟨by simp,fun _=>ZlW hg.1 he,fun _=>?_⟩,rfl⟩
  obtain ⟨h1,h2⟩:=ZgS (g:=ZaZ c.2.2.1) (by omega) hd
  show ZaW (c.2.2.1.map (·.tdiv (Za5 c)))=false
  unfold Za5
  cases hf:ZaW c.2.2.1 with
  | true=>simp only [if_true];exact h2 hf
  | false=>simp only [Bool.false_eq_true,if_false];rw [h1,hf]
theorem Zlw {c:Zc} (h:condB c) (h0:(Zbm c).2=0):Zln c.2.2.1.length (Zbm c).1∧(Zbm c).1.1=c.1:=by
 obtain ⟨hk,_⟩:=h
 have hs:∀ b,(Zcm b).2≠0:=fun b=>by cases b<;>simp [Zcm]
 rcases hk with hk | hk | ⟨hk,hm1,hm2⟩
 ·have hr:Zbm c=geF c:=by simp [Zbm,hk]
  rw [hr] at h0 ⊢
  unfold geF at h0 ⊢
  by_cases hg:ZaZ c.2.2.1=0
  ·rw [if_pos hg] at h0;exact absurd h0 (hs _)
  ·rw [if_neg hg,hk]
   exact ⟨⟨by simp,fun _=>ZlW hg (.inl rfl),fun h=>by cases h⟩,rfl⟩
 ·have hr:Zbm c=eqF c:=by simp [Zbm,hk]
  rw [hr] at h0 ⊢
  rw [hk]
  exact ZmZ h0
 ·have hr:Zbm c=ZjR c:=by simp [Zbm,hk]
  rw [hr] at h0 ⊢
  unfold ZjR at h0 ⊢
  split at h0
  ·exact absurd h0 (hs _)
  split at h0
  ·exact absurd h0 (hs _)
  rename_i ha hb
  rw [if_neg ha,if_neg hb,hk]
  exact ⟨⟨by simp,fun h=>absurd rfl h,fun h=>by cases h⟩,rfl⟩
theorem tmod_one (n:Int):n.tmod 1=0:=by rw [Int.tmod_eq_zero_of_dvd];exact Int.one_dvd _
theorem Znk {n:Nat} {c:Zc} (h:Zln n c) (h0:c.1=0):(Zbm (1,0,c.2.2)).2=0∧Zln n (Zbm (1,0,c.2.2)).1∧(Zbm (1,0,c.2.2)).1.1=1:=by
 have hg:=h.2.1 (by omega)
 have hr:Zbm (1,0,c.2.2)=eqF (1,0,c.2.2):=rfl
 have hz:(eqF (1,0,c.2.2)).2=0:=by
  unfold eqF
  have:¬ (ZaZ c.2.2.1=0∨c.2.2.2.tmod (ZaZ c.2.2.1)≠0):=by
   rw [hg]
   rintro (h | h)
   ·omega
   ·exact h (tmod_one _)
  show (if ZaZ c.2.2.1=0∨c.2.2.2.tmod (ZaZ c.2.2.1)≠0 then _ else _:Zc×Int).2=0
  rw [if_neg this]
 rw [hr]
 have:=ZmZ hz
 rw [show ((1,0,c.2.2):Zc).2.2.1.length=n from h.1] at this
 exact ⟨hz,this⟩
theorem Zk7 {p:List Zc} {n:Nat} (h:ZaG p) (hd:ZdJ p n):∀ c∈Zbv p,Zln n c:=by
 intro c hc
 simp only [Zbv,List.mem_map,List.mem_filter] at hc
 obtain ⟨r,⟨⟨d,hd2,rfl⟩,hr⟩,rfl⟩:=hc
 have:=(Zlw (h.2 d hd2) (by simpa using hr)).1
 rwa [hd d hd2] at this
theorem Zo3 {p:List Zc} {n:Nat} (h:ZaG p) (hd:ZdJ p n):∀ c∈(ZaH p).1,Zln n c :=
 Zqr (P:=Zln n) (fun d c hd hc=>hd) (fun c h0 hc=>(Znk hc h0).2.1) h (Zk7 h hd)
theorem Zjj {p:List Zc} {n:Nat} (h:ZaG p) (hd:ZdJ p n):ZdJ (ZaH p).1 n:=fun c hc=>(Zo3 h hd c hc).1
theorem Zlj {out out':List (List Zc)} {p:List Zc} {n:Nat} (h:Zap out p=some out') (hl:∀ q∈out,ZdJ q n) (hp:ZaG p) (hd:ZdJ p n):∀ q∈out',ZdJ q n:=by
 unfold Zap at h
 split at h
 ·cases h
 ·split at h
  ·cases h;exact hl
  ·split at h
   ·cases h
   ·cases h
    intro q hq
    rcases List.mem_append.1 hq with hq | hq
    ·exact hl q hq
    ·simp only [List.mem_singleton] at hq;subst hq
     exact Zjj hp hd
theorem ZhC {n:Nat}:∀ {l:List (List Zc)} {out out':List (List Zc)},l.foldlM Zap out=some out'→(∀ q∈out,ZdJ q n)→(∀ p∈l,ZaG p∧ZdJ p n)→∀ q∈out',ZdJ q n
 | [],out,out',h,hl,_=>by cases h;exact hl
 | p::l,out,out',h,hl,hb=>by
   simp only [List.foldlM_cons,Option.bind_eq_bind,Option.bind_eq_some_iff] at h
   obtain ⟨s,h1,h2⟩:=h
   have h3:=hb p (by simp)
   exact ZhC h2 (Zlj h1 hl h3.1 h3.2) fun q hq=>hb q (by simp [hq])
theorem Zot {x:Ze2} (hx:Z1 x=true) (h:(ZaY x).2=0):∀ q∈(ZaY x).1.2,ZdJ q x.1.toNat:=by
 unfold ZaY at h ⊢
 rw [if_neg (by rw [hx];simp)] at h ⊢
 unfold Zhx at h ⊢
 rcases ZaJ (ZfS x.2) with ho | ⟨out,ho⟩
 ·rw [ho] at h;cases h
 ·rw [ho]
  exact ZhC ho (by simp) fun p hp=>Z1.D hx hp
theorem ZbL.spec (a:Int) (l:Lin) (b:Int) (m:Lin) (hp:ZbL.pre (a,l,b,m,())):ZbL.wp a l b m (fun r=>r=ZbL.fn (a,l,b,m,())):=by
 obtain ⟨ha,⟨hl1,hl2,hl3⟩,hb,⟨hm1,hm2,hm3⟩,he⟩:=hp
 simp only at ha hl1 hl2 hl3 hb hm1 hm2 hm3 he
 have key:∀ x y:Int,(-1048576≤x∧x≤1048576)→(-4294967296≤y∧y≤4294967296)→-4503599627370496≤x*y∧x*y≤4503599627370496:=fun x y hx hy =>
  ZcA (n:=1048576) (m:=4294967296) (by omega) (by omega) hx.1 hx.2 hy.1 hy.2
 have k1:=key a l.2 ha hl3
 have k2:=key b m.2 hb hm3
 have hfn:ZbL.fn (a,l,b,m,())=Zd4 a l b m:=rfl
 simp only [ZbL.wp,Int.toNat_natCast,hfn]
 unfold Zd4
 refine ⟨⟨by omega,by omega,by omega,by omega⟩,⟨by omega,by omega⟩,⟨by omega,by omega⟩,⟨by omega,by omega⟩,?_⟩
 have hrl:(List.range l.1.length).length=l.1.length:=by simp
 have hF:=Lp.fill (body:=fun (y5:Int×List Int) R5=>let v2:=List.getD l.1 (Int.toNat y5.1) (0:Int);let v3:=List.getD m.1 (Int.toNat y5.1) (0:Int);cond (decide (y5.1 < ((List.length l.1:Nat):Int))) (((0:Int)≤y5.1∧y5.1 < ((List.length l.1:Nat):Int))∧(Zw IntKind.i64 (a*v2)∧(((0:Int)≤y5.1∧y5.1 < ((List.length m.1:Nat):Int))∧(Zw IntKind.i64 (b*v3)∧(Zw IntKind.i64 ((a*v2)+(b*v3))∧(((0:Int)≤y5.1∧y5.1 < ((List.length y5.2:Nat):Int))∧(Int.toNat y5.1 < List.length y5.2∧(Zw IntKind.i64 (y5.1+(1:Int))∧R5 ((y5.1+(1:Int)),(List.set y5.2 (Int.toNat y5.1) ((a*v2)+(b*v3)))))))))))) (((y5.2,((a*l.2)+(b*m.2))):Lin)=((List.range l.1.length).map fun i=>a*l.1.getD i 0+b*m.1.getD i 0,a*l.2+b*m.2))) (List.range l.1.length) 0 0 (fun i=>a*l.1.getD i 0+b*m.1.getD i 0) (by omega) (fun i out R hi hi' hf ho hR=>?_) (fun R=>?_)
 ·rw [hrl] at hF;exact hF
 ·rw [hrl] at hi hi' ho
  rw [ZoT hi] at hR
  have k3:=key a _ ha (hl2 _ (Zl (d:=0) hi))
  have k4:=key b _ hb (hm2 _ (Zl (d:=0) (show i < m.1.length by omega)))
  simp only [decide_eq_true hi',Int.toNat_natCast,cond_true]
  exact ⟨⟨by omega,by omega⟩,⟨by omega,by omega⟩,⟨by omega,by omega⟩,⟨by omega,by omega⟩,⟨by omega,by omega⟩,⟨by omega,by omega⟩,by omega,hf,hR⟩
 ·rw [hrl]
  simp only [Int.lt_irrefl,decide_false,cond_false]
theorem Zp4.of {σ:Type} {K:σ→Prop} {body:(σ→Prop)→Prop} {P:σ→Prop} (hK:∀ y,P y→K y) (hb:∀ R:σ→Prop,(∀ y,P y→R y)→body R):Zp4 K body:=hb K hK
theorem ZcC (C:List Int):ZbK (ZbK C)=C:=by
 unfold ZbK
 rw [List.map_map]
 conv=>rhs;rw [← List.map_id C]
 exact List.map_congr_left fun n _=>by simp
theorem Zlm (C:List Int):ZaZ (ZbK C)=ZaZ C:=by
 unfold ZaZ ZbK
 rw [List.foldl_map]
 simp
theorem Zc1:∀ {C:List Int},ZaZ C≠0→ZaW (ZbK C)=!ZaW C
 | [],h=>by simp [ZaZ] at h
 | n::C,h=>by
   simp only [ZbK,List.map_cons,ZaW]
   by_cases h0:n=0
   ·subst h0
    rw [ZfO] at h
    simp at h
    simp only [Int.neg_zero,if_true]
    exact Zc1 h
   ·rw [if_neg h0,if_neg (show -n≠0 by omega)]
    by_cases h1:n < 0
    ·rw [decide_eq_true h1,decide_eq_false (show ¬ -n < 0 by omega)];rfl
    ·rw [decide_eq_false h1,decide_eq_true (show -n < 0 by omega)];rfl
theorem Zq4 {C:List Int} (h:ZaZ C=1):ZbK C≠C:=fun e=>by
 have:=Zc1 (C:=C) (by omega)
 rw [e] at this
 cases h2:ZaW C<;>rw [h2] at this<;>cases this
abbrev Zkg (c:Zc):Zc:=(Zbm (1,0,c.2.2)).1
theorem Znn {c d:Zc} (h:ZaZ c.2.2.1=1) (h1:d.2.2.1=ZbK c.2.2.1) (h2:c.2.2.2+d.2.2.2=0):Zkg d=Zkg c:=by
 obtain ⟨k,m,C,K⟩:=c
 obtain ⟨k',m',C',K'⟩:=d
 simp only at h h1 h2
 subst h1
 have h3:K'=-K:=by omega
 subst h3
 have hf:=Zc1 (C:=C) (by omega)
 have hs:Za5 (1,0,ZbK C,-K)=-Za5 (1,0,C,K):=by
  simp only [Za5,Zlm,hf]
  cases ZaW C<;>simp
 have ha:∀ s K:Int,∀ C:List Int,ZaZ C=1→eqF (1,0,C,K)=((1,0,C.map (·.tdiv (Za5 (1,0,C,K))),K.tdiv (Za5 (1,0,C,K))),0):=fun s K C hC=>by
  have:¬ (ZaZ C=0∨K.tmod (ZaZ C)≠0):=by
   rw [hC]
   rintro (h | h)
   ·omega
   ·exact h (tmod_one _)
  unfold eqF
  exact if_neg this
 show (eqF (1,0,ZbK C,-K)).1=(eqF (1,0,C,K)).1
 rw [ha 0 _ _ h,ha 0 _ _ (by rw [Zlm];exact h),hs]
 simp only [ZbK,List.map_map,Int.tdiv_neg,Int.neg_tdiv,Int.neg_neg]
 congr 4
 funext n
 simp
def Mk (n:Nat) (c:Zc):Prop:=Zln n c∧Zfy c.1∧(c.1=0→c.2.1=0)
theorem Mk.gcd {n:Nat} {c:Zc} (h:Mk n c) (h0:c.1=0):ZaZ c.2.2.1=1:=h.1.2.1 (by omega)
theorem ZcK {n:Nat} {c:Zc} (h:Mk n c) (h0:c.1=0):Mk n (Zkg c)∧(Zkg c).1=1:=by
 obtain ⟨h1,h2,h3⟩:=Znk h.1 h0
 exact ⟨⟨h2,.inr (.inl h3),fun h=>by rw [h3] at h;cases h⟩,h3⟩
def Lm (l:List Zc) (c:Zc):Prop:=c∈l∧(c.1=0→∀ d∈l,d.1=0→d.2.2.1=c.2.2.1→c.2.2.2≤d.2.2.2)
theorem Lm.uniq {n:Nat} {l:List Zc} (hl:∀ c∈l,Mk n c) {c d:Zc} (hc:Lm l c) (hd:Lm l d) (h0:c.1=0) (h1:d.1=0) (h:c.2.2.1=d.2.2.1):c=d:=by
 have a:=hc.2 h0 d hd.1 h1 h.symm
 have b:=hd.2 h1 c hc.1 h0 h
 have e1:=(hl c hc.1).2.2 h0
 have e2:=(hl d hd.1).2.2 h1
 exact Prod.ext (by omega) (Prod.ext (by omega) (Prod.ext h (by omega)))
def Opp (L:Zc→Prop) (c:Zc):Prop:=∃ d,L d∧d.1=0∧d.2.2.1=ZbK c.2.2.1∧c.2.2.2+d.2.2.2=0
def Zgb (L:Zc→Prop):Prop:=∃ c d,L c∧L d∧c.1=0∧d.1=0∧d.2.2.1=ZbK c.2.2.1∧c.2.2.2+d.2.2.2 < 0
def MM (L:Zc→Prop) (x:Zc):Prop:=(L x∧(x.1=0→¬ Opp L x))∨∃ c,L c∧c.1=0∧Opp L c∧x=Zkg c
def Zfj (M:Zc→Prop):Prop:=(∃ e f,M e∧M f∧e.1=1∧f.1=1∧e.2.2.1=f.2.2.1∧e.2.2.2≠f.2.2.2)∨∃ c e,M c∧M e∧c.1=0∧e.1=1∧((e.2.2.1=c.2.2.1∧c.2.2.2 < e.2.2.2)∨(e.2.2.1=ZbK c.2.2.1∧c.2.2.2+e.2.2.2 < 0))
def ZsE (M:Zc→Prop) (x:Zc):Prop:=M x∧(x.1=0→∀ e,M e→e.1=1→e.2.2.1≠x.2.2.1∧e.2.2.1≠ZbK x.2.2.1)
theorem Zkv {l:List Zc} {c:Zc} (h:c.1≠0) (x:Zc):Lm (l++[c]) x↔Lm l x∨x=c:=by
 simp only [Lm,List.mem_append,List.mem_singleton]
 constructor
 ·rintro ⟨h1 | h1,h2⟩
  ·exact .inl ⟨h1,fun h0 d hd=>h2 h0 d (.inl hd)⟩
  ·exact .inr h1
 ·rintro (⟨h1,h2⟩ | rfl)
  ·refine ⟨.inl h1,fun h0 d hd hd0=>?_⟩
   rcases hd with hd | rfl
   ·exact h2 h0 d hd hd0
   ·exact absurd hd0 h
  ·exact ⟨.inr rfl,fun h0=>absurd h0 h⟩
theorem Zgs {n:Nat} {l:List Zc} {c:Zc} (hl:∀ d∈l,Mk n d) (hc:Mk n c) (h:c.1=0) (x:Zc):Lm (l++[c]) x↔(Lm l x∧¬ (x.1=0∧x.2.2.1=c.2.2.1))∨(x.1=0∧x.2.2.1=c.2.2.1∧((∃ d,Lm l d∧d.1=0∧d.2.2.1=c.2.2.1∧x=ZgC d c.2.2.2)∨(¬ (∃ d,Lm l d∧d.1=0∧d.2.2.1=c.2.2.1)∧x=c))):=by
 have hmem:∀ y,y∈l++[c]↔y∈l∨y=c:=fun y=>by simp
 have hmin:∀ (y:Zc),y∈l→y.1=0→∃ d,Lm l d∧d.1=0∧d.2.2.1=y.2.2.1∧d.2.2.2≤y.2.2.2:=by
  have key:∀ (m:List Zc),(∀ y∈m,y∈l)→∀ y∈m,y.1=0→∃ d∈m,d.1=0∧d.2.2.1=y.2.2.1∧d.2.2.2≤y.2.2.2∧∀ z∈m,z.1=0→z.2.2.1=y.2.2.1→d.2.2.2≤z.2.2.2:=by
   intro m
   induction m with
   | nil=>intro _ y hy;cases hy
   | cons a m ih =>
     intro hs y hy h0
     have ih':=ih fun z hz=>hs z (by simp [hz])
     rcases List.mem_cons.1 hy with rfl | hy
     ·by_cases hex:∃ z∈m,z.1=0∧z.2.2.1=y.2.2.1
      ·obtain ⟨z,hz,hz0,hz1⟩:=hex
       obtain ⟨d,hd,hd0,hd1,hd2,hd3⟩:=ih' z hz hz0
       by_cases hlt:d.2.2.2≤y.2.2.2
       ·refine ⟨d,by simp [hd],hd0,hd1.trans hz1,hlt,fun w hw hw0 hw1=>?_⟩
        rcases List.mem_cons.1 hw with rfl | hw
        ·exact hlt
        ·exact hd3 w hw hw0 (hw1.trans hz1.symm)
       ·refine ⟨y,by simp,h0,rfl,Int.le_refl _,fun w hw hw0 hw1=>?_⟩
        rcases List.mem_cons.1 hw with rfl | hw
        ·exact Int.le_refl _
        ·have:=hd3 w hw hw0 (hw1.trans hz1.symm);omega
      ·refine ⟨y,by simp,h0,rfl,Int.le_refl _,fun w hw hw0 hw1=>?_⟩
       rcases List.mem_cons.1 hw with rfl | hw
       ·exact Int.le_refl _
       ·exact absurd ⟨w,hw,hw0,hw1⟩ hex
     ·obtain ⟨d,hd,hd0,hd1,hd2,hd3⟩:=ih' y hy h0
      by_cases ha:a.1=0∧a.2.2.1=y.2.2.1∧a.2.2.2 < d.2.2.2
      ·refine ⟨a,by simp,ha.1,ha.2.1,by omega,fun w hw hw0 hw1=>?_⟩
       rcases List.mem_cons.1 hw with rfl | hw
       ·exact Int.le_refl _
       ·have:=hd3 w hw hw0 hw1;omega
      ·refine ⟨d,by simp [hd],hd0,hd1,hd2,fun w hw hw0 hw1=>?_⟩
       rcases List.mem_cons.1 hw with rfl | hw
       ·apply Int.le_of_not_gt
        intro hgt
        exact ha ⟨hw0,hw1,hgt⟩
       ·exact hd3 w hw hw0 hw1
  intro y hy h0
  obtain ⟨d,hd,hd0,hd1,hd2,hd3⟩:=key l (fun y h=>h) y hy h0
  exact ⟨d,⟨hd,fun _ z hz hz0 hz1=>hd3 z hz hz0 (hz1.trans hd1)⟩,hd0,hd1,hd2⟩
 have heq:∀ (y z:Zc),Mk n y→Mk n z→y.1=0→z.1=0→y.2.2.1=z.2.2.1→y.2.2.2=z.2.2.2→y=z:=fun y z hy hz h1 h2 h3 h4=>by
  have e1:=hy.2.2 h1
  have e2:=hz.2.2 h2
  exact Prod.ext (by omega) (Prod.ext (by omega) (Prod.ext h3 h4))
 constructor
 ·rintro ⟨hx,hx2⟩
  by_cases hxc:x.1=0∧x.2.2.1=c.2.2.1
  ·right
   refine ⟨hxc.1,hxc.2,?_⟩
   have hmin':=hx2 hxc.1
   have hcx:=hmin' c ((hmem c).2 (.inr rfl)) h hxc.2.symm
   by_cases hex:∃ d,Lm l d∧d.1=0∧d.2.2.1=c.2.2.1
   ·left
    obtain ⟨d,hd,hd0,hd1⟩:=hex
    have hdx:=hmin' d ((hmem d).2 (.inl hd.1)) hd0 (hd1.trans hxc.2.symm)
    have hmd:=hl d hd.1
    refine ⟨d,hd,hd0,hd1,?_⟩
    rcases (hmem x).1 hx with hxl | rfl
    ·have h3:=hd.2 hd0 x hxl hxc.1 (hxc.2.trans hd1.symm)
     refine heq x (ZgC d c.2.2.2) (hl x hxl) hmd hxc.1 hd0 (hxc.2.trans hd1.symm) ?_
     show x.2.2.2=min d.2.2.2 c.2.2.2
     omega
    ·refine heq x (ZgC d x.2.2.2) hc hmd hxc.1 hd0 hd1.symm ?_
     show x.2.2.2=min d.2.2.2 x.2.2.2
     omega
   ·right
    refine ⟨hex,?_⟩
    rcases (hmem x).1 hx with hxl | rfl
    ·obtain ⟨d,hd,hd0,hd1,_⟩:=hmin x hxl hxc.1
     exact absurd ⟨d,hd,hd0,hd1.trans hxc.2⟩ hex
    ·rfl
  ·left
   refine ⟨?_,hxc⟩
   rcases (hmem x).1 hx with hxl | rfl
   ·exact ⟨hxl,fun h0 d hd=>hx2 h0 d ((hmem d).2 (.inl hd))⟩
   ·exact absurd ⟨h,rfl⟩ hxc
 ·rintro (⟨hx,hxc⟩ | ⟨h0,hxc,⟨d,hd,hd0,hd1,rfl⟩ | ⟨hex,rfl⟩⟩)
  ·refine ⟨(hmem x).2 (.inl hx.1),fun h0 d hd hd0 hd1=>?_⟩
   rcases (hmem d).1 hd with hd | rfl
   ·exact hx.2 h0 d hd hd0 hd1
   ·exact absurd ⟨h0,hd1.symm⟩ hxc
  ·have hmd:=hl d hd.1
   refine ⟨?_,fun _ z hz hz0 hz1=>?_⟩
   ·by_cases hlt:d.2.2.2≤c.2.2.2
    ·have:ZgC d c.2.2.2=d:=heq _ _ hmd hmd hd0 hd0 rfl (by show min d.2.2.2 c.2.2.2=_;omega)
     rw [this];exact (hmem d).2 (.inl hd.1)
    ·have:ZgC d c.2.2.2=c:=heq _ _ hmd hc hd0 h hd1 (by show min d.2.2.2 c.2.2.2=_;omega)
     rw [this];exact (hmem c).2 (.inr rfl)
   ·show min d.2.2.2 c.2.2.2≤_
    rcases (hmem z).1 hz with hz | rfl
    ·have:=hd.2 hd0 z hz hz0 hz1;omega
    ·omega
  ·refine ⟨(hmem x).2 (.inr rfl),fun _ z hz hz0 hz1=>?_⟩
   rcases (hmem z).1 hz with hz | rfl
   ·obtain ⟨d,hd,hd0,hd1,_⟩:=hmin z hz hz0
    exact absurd ⟨d,hd,hd0,hd1.trans hz1⟩ hex
   ·exact Int.le_refl _
theorem Zoe {C:List Int} {out:List Zc} (h:ZdI C out=none):∀ d∈out,¬ (d.1=0∧d.2.2.1=C):=by
 intro d hd
 have:=List.findIdx?_eq_none_iff.1 h d hd
 simpa using this
def Zv9 (out:List Zc):Prop:=∀ i j,i < out.length→j < out.length→(out.getD i Zb).1=0→(out.getD j Zb).1=0→(out.getD i Zb).2.2.1=(out.getD j Zb).2.2.1→i=j
theorem Zcy {n:Nat}:∀ {l:List Zc},(∀ c∈l,Mk n c)→∀ x,x∈Zbf l↔Lm l x:=by
 intro l hl
 have key:∀ k,k≤l.length→(∀ x,x∈Zbf (l.take k)↔Lm (l.take k) x)∧Zv9 (Zbf (l.take k)):=by
  intro k
  induction k with
  | zero=>exact fun _=>⟨fun x=>by simp [Zbf,Lm],fun i j hi=>by simp [Zbf] at hi⟩
  | succ k ih =>
    intro hk
    obtain ⟨ih1,ih2⟩:=ih (by omega)
    have e:k < l.length:=by omega
    have hst:Zbf (l.take (k+1))=Za3 (Zbf (l.take k)) (l.getD k Zb):=by
     rw [ZH Zb e,Zbf,List.foldl_append];rfl
    rw [hst,ZH Zb e]
    have hc:=hl _ (Zl (d:=Zb) e)
    have hlk:∀ d∈l.take k,Mk n d:=fun d hd=>hl d (List.mem_of_mem_take hd)
    generalize l.getD k Zb=c at *
    generalize l.take k=m at *
    generalize Zbf m=out at *
    by_cases h0:c.1=0
    ·have hls : Za3 out c = match ZdI c.2.2.1 out with
      | some i=>out.set i (ZgC (out.getD i Zb) c.2.2.2)
      | none=>out++[c]:=by
      unfold Za3;exact if_neg fun h=>h h0
     rw [hls]
     rcases ZaJ (ZdI c.2.2.1 out) with hg | ⟨i,hg⟩
     ·rw [hg]
      have hno:=Zoe hg
      constructor
      ·intro x
       rw [Zgs hlk hc h0]
       simp only [List.mem_append,List.mem_singleton]
       constructor
       ·rintro (hx | rfl)
        ·exact .inl ⟨(ih1 x).1 hx,hno x hx⟩
        ·exact .inr ⟨h0,rfl,.inr ⟨fun ⟨d,hd,hd0,hd1⟩=>hno d ((ih1 d).2 hd) ⟨hd0,hd1⟩,rfl⟩⟩
       ·rintro (⟨hx,_⟩ | ⟨_,_,⟨d,hd,hd0,hd1,_⟩ | ⟨_,rfl⟩⟩)
        ·exact .inl ((ih1 x).2 hx)
        ·exact absurd ⟨hd0,hd1⟩ (hno d ((ih1 d).2 hd))
        ·exact .inr rfl
      ·intro i j hi hj hi0 hj0 hij
       simp only [List.length_append,List.length_cons,List.length_nil] at hi hj
       have hget:∀ i,i < out.length→(out++[c]).getD i Zb=out.getD i Zb:=fun i hi=>by
        rw [ZT (by simp;omega),ZT hi,List.getElem_append_left hi]
       have hlast:(out++[c]).getD out.length Zb=c:=by
        rw [ZT (by simp)];simp
       by_cases h1:i < out.length<;>by_cases h2:j < out.length
       ·rw [hget i h1] at hi0 hij
        rw [hget j h2] at hj0 hij
        exact ih2 i j h1 h2 hi0 hj0 hij
       ·have:j=out.length:=by omega
        subst this
        rw [hget i h1] at hi0 hij
        rw [hlast] at hij
        exact absurd ⟨hi0,hij⟩ (hno _ (Zl h1))
       ·have:i=out.length:=by omega
        subst this
        rw [hget j h2] at hj0 hij
        rw [hlast] at hij
        exact absurd ⟨hj0,hij.symm⟩ (hno _ (Zl h2))
       ·omega
     ·rw [hg]
      simp only
      obtain ⟨hi,hi0,hi1⟩:=Zf7 hg
      have hgi:=ZT (d:=Zb) hi
      rw [← hgi] at hi0 hi1
      have hdm:=Zl (d:=Zb) hi
      constructor
      ·intro x
       rw [Zgs hlk hc h0]
       constructor
       ·intro hx
        obtain ⟨j,hj,rfl⟩:=ZbO (d:=Zb) hx
        rw [List.length_set] at hj
        by_cases hij:i=j
        ·subst hij
         have e1:(out.set i (ZgC (out.getD i Zb) c.2.2.2)).getD i Zb=ZgC (out.getD i Zb) c.2.2.2:=by
          rw [ZT (by simpa using hj),List.getElem_set_self]
         rw [e1]
         exact .inr ⟨hi0,hi1,.inl ⟨_,(ih1 _).1 hdm,hi0,hi1,rfl⟩⟩
        ·have e1:(out.set i (ZgC (out.getD i Zb) c.2.2.2)).getD j Zb=out.getD j Zb:=by
          rw [ZT (by simpa using hj),List.getElem_set_ne hij,ZT hj]
         rw [e1]
         refine .inl ⟨(ih1 _).1 (Zl hj),fun h=>hij (ih2 i j hi hj hi0 h.1 (hi1.trans h.2.symm))⟩
       ·rintro (⟨hx,hxc⟩ | ⟨hx0,hxc,⟨d,hd,hd0,hd1,rfl⟩ | ⟨hex,rfl⟩⟩)
        ·obtain ⟨j,hj,rfl⟩:=ZbO (d:=Zb) ((ih1 x).2 hx)
         have hij:i≠j:=fun e=>by subst e;exact hxc ⟨hi0,hi1⟩
         have e1:(out.set i (ZgC (out.getD i Zb) c.2.2.2)).getD j Zb=out.getD j Zb:=by
          rw [ZT (by simpa using hj),List.getElem_set_ne hij,ZT hj]
         rw [← e1]
         exact Zl (by simpa using hj)
        ·have hdd:d=out.getD i Zb:=Lm.uniq hlk hd ((ih1 _).1 hdm) hd0 hi0 (hd1.trans hi1.symm)
         rw [hdd]
         exact List.mem_iff_getElem.2 ⟨i,by simpa using hi,by rw [List.getElem_set_self]⟩
        ·exact absurd ⟨_,(ih1 _).1 hdm,hi0,hi1⟩ hex
      ·intro a b ha hb ha0 hb0 hab
       rw [List.length_set] at ha hb
       have hget:∀ j,j < out.length→((out.set i (ZgC (out.getD i Zb) c.2.2.2)).getD j Zb).1=(out.getD j Zb).1∧((out.set i (ZgC (out.getD i Zb) c.2.2.2)).getD j Zb).2.2.1=(out.getD j Zb).2.2.1:=fun j hj=>by
        by_cases hij:i=j
        ·subst hij
         rw [ZT (show i < (out.set i (ZgC (out.getD i Zb) c.2.2.2)).length by simpa using hj),List.getElem_set_self]
         exact ⟨rfl,rfl⟩
        ·rw [ZT (show j < (out.set i (ZgC (out.getD i Zb) c.2.2.2)).length by simpa using hj),List.getElem_set_ne hij,ZT hj]
         exact ⟨rfl,rfl⟩
       rw [(hget a ha).1] at ha0
       rw [(hget b hb).1] at hb0
       rw [(hget a ha).2,(hget b hb).2] at hab
       exact ih2 a b ha hb ha0 hb0 hab
    ·have hls:Za3 out c=out++[c]:=by unfold Za3;exact if_pos h0
     rw [hls]
     constructor
     ·intro x
      rw [Zkv h0,List.mem_append,List.mem_singleton,ih1]
     ·intro i j hi hj hi0 hj0 hij
      simp only [List.length_append,List.length_cons,List.length_nil] at hi hj
      have hget:∀ i,i < out.length→(out++[c]).getD i Zb=out.getD i Zb:=fun i hi=>by
       rw [ZT (by simp;omega),ZT hi,List.getElem_append_left hi]
      have hlast:(out++[c]).getD out.length Zb=c:=by
       rw [ZT (by simp)];simp
      by_cases h1:i < out.length<;>by_cases h2:j < out.length
      ·rw [hget i h1] at hi0 hij
       rw [hget j h2] at hj0 hij
       exact ih2 i j h1 h2 hi0 hj0 hij
      ·have:j=out.length:=by omega
       subst this
       rw [hlast] at hj0
       exact absurd hj0 h0
      ·have:i=out.length:=by omega
       subst this
       rw [hlast] at hi0
       exact absurd hi0 h0
      ·omega
 have:=(key l.length (Nat.le_refl _)).1
 rwa [List.take_length] at this
theorem Zgd {α τ:Type} {V:Prop} {P:Nat→τ→Prop} (l:List α) (d:α) (f:τ→α→Option τ) (a:τ) (h0:P 0 a) (hs:∀ i t,i < l.length→P i t→(f t (l.getD i d)=none→V)∧∀ t',f t (l.getD i d)=some t'→P (i+1) t'):(l.foldlM f a=none→V)∧∀ t,l.foldlM f a=some t→P l.length t:=by
 have key:∀ k,k≤l.length→((l.take k).foldlM f a=none→V)∧∀ t,(l.take k).foldlM f a=some t→P k t:=by
  intro k
  induction k with
  | zero=>intro _;exact ⟨fun h=>(by have h':some a=none:=h;cases h'),fun t h=>by (have h':some a=some t:=h);cases h';exact h0⟩
  | succ k ih =>
    intro hk
    obtain ⟨ih1,ih2⟩:=ih (by omega)
    rcases ZaJ ((l.take k).foldlM f a) with h | ⟨t,h⟩
    ·have:(l.take (k+1)).foldlM f a=none:=by
      rw [ZH d (show k < l.length by omega),List.foldlM_append,h];rfl
     rw [this]
     exact ⟨fun _=>ih1 h,fun t h=>by cases h⟩
    ·have hs':=hs k t (by omega) (ih2 t h)
     rw [ZcM (d:=d) h (by omega)]
     exact hs'
 have:=key l.length (Nat.le_refl _)
 rwa [List.take_length] at this
theorem ZhU {C:List Int}:∀ {l:List Zc} {k:Nat},Zcr C l k=none→∀ d∈l,¬ (d.1=0∧d.2.2.1=C)
 | [],k,_=>by simp
 | e::l,k,h=>by
   simp only [Zcr] at h
   rcases ZaJ (Zcr C l (k+1)) with h1 | ⟨j,h1⟩
   ·rw [h1] at h
    simp only at h
    split at h
    ·cases h
    ·rename_i h2
     intro d hd
     rcases List.mem_cons.1 hd with rfl | hd
     ·exact h2
     ·exact ZhU h1 d hd
   ·rw [h1] at h;cases h
def Zvt (L:List Zc):Prop:=∀ c∈L,∀ d∈L,c.1=0→d.1=0→c.2.2.1=d.2.2.1→c=d
theorem ZlE {n:Nat} {L:List Zc} (hm:∀ c∈L,Mk n c) (hu:Zvt L):(ZdT L=none→Zgb (· ∈ L))∧∀ out,ZdT L=some out→¬ Zgb (· ∈ L)∧∀ x,x∈out↔MM (· ∈ L) x:=by
 let P:Nat→List Zc×(Int→Option Bool)→Prop:=fun i st =>
  (∀ k,k < i→k < L.length→((L.getD k Zb).1=0→(∀ d∈L,d.1=0→d.2.2.1=ZbK (L.getD k Zb).2.2.1→0≤(L.getD k Zb).2.2.2+d.2.2.2)∧(¬ Opp (· ∈ L) (L.getD k Zb)→L.getD k Zb∈st.1)∧(Opp (· ∈ L) (L.getD k Zb)→Zkg (L.getD k Zb)∈st.1))∧((L.getD k Zb).1≠0→L.getD k Zb∈st.1)) ∧
  (∀ x∈st.1,MM (· ∈ L) x) ∧
  (∀ k:Nat,st.2 (k:Int)=some true→k < L.length∧(L.getD k Zb).1=0∧Opp (· ∈ L) (L.getD k Zb)∧Zkg (L.getD k Zb)∈st.1)
 have hinv:=Zgd (V:=Zgb (· ∈ L)) (P:=P) (Zcp L) (0,Zb) (ZbE L) ([],fun _=>none) ⟨fun k hk=>absurd hk (by omega),by simp,fun k h=>by cases h⟩ (by
  rintro i ⟨out,gone⟩ hi ⟨hA,hB,hG⟩
  rw [ZbI] at hi
  rw [ZgF hi]
  have hcm:=Zl (d:=Zb) hi
  have hput : ∀ x, MM (· ∈ L) x → ∀ g : Int → Option Bool, (∀ k : Nat, g (k : Int) = some true → k < L.length ∧ (L.getD k Zb).1 = 0 ∧ Opp (· ∈ L) (L.getD k Zb) ∧ Zkg (L.getD k Zb) ∈ out ++ [x]) →
   (((L.getD i Zb).1=0→(∀ d∈L,d.1=0→d.2.2.1=ZbK (L.getD i Zb).2.2.1→0≤(L.getD i Zb).2.2.2+d.2.2.2)∧(¬ Opp (· ∈ L) (L.getD i Zb)→L.getD i Zb∈out++[x])∧(Opp (· ∈ L) (L.getD i Zb)→Zkg (L.getD i Zb)∈out++[x]))∧((L.getD i Zb).1≠0→L.getD i Zb∈out++[x]))→P (i+1) (out++[x],g):=by
   intro x hx g hg hi'
   refine ⟨fun k hk hkl=>?_,fun y hy=>?_,hg⟩
   ·by_cases hki:k=i
    ·subst hki;exact hi'
    ·obtain ⟨h1,h2⟩:=hA k (by omega) hkl
     exact ⟨fun h0=>⟨(h1 h0).1,fun h=>List.mem_append.2 (.inl ((h1 h0).2.1 h)),fun h=>List.mem_append.2 (.inl ((h1 h0).2.2 h))⟩,fun h=>List.mem_append.2 (.inl (h2 h))⟩
   ·rcases List.mem_append.1 hy with hy | hy
    ·exact hB y hy
    ·simp only [List.mem_singleton] at hy;subst hy;exact hx
  have hG':∀ x,∀ k:Nat,gone (k:Int)=some true→k < L.length∧(L.getD k Zb).1=0∧Opp (· ∈ L) (L.getD k Zb)∧Zkg (L.getD k Zb)∈out++[x]:=fun x k h=>by
   obtain ⟨h1,h2,h3,h4⟩:=hG k h
   exact ⟨h1,h2,h3,List.mem_append.2 (.inl h4)⟩
  have hlast:∀ x:Zc,x∈out++[x]:=fun x=>by simp
  simp only [ZbE]
  by_cases hg:(gone (i:Int)).getD false=true
  ·rw [if_pos hg]
   refine ⟨fun h=>(by cases h),fun t' ht'=>?_⟩
   cases ht'
   have hgs:gone (i:Int)=some true:=by
    rcases ZaJ (gone (i:Int)) with h | ⟨b,h⟩
    ·rw [h] at hg;cases hg
    ·rw [h] at hg ⊢;simp only [Option.getD_some] at hg;rw [hg]
   obtain ⟨h1,h2,h3,h4⟩:=hG i hgs
   refine ⟨fun k hk hkl=>?_,hB,hG⟩
   by_cases hki:k=i
   ·subst hki
    refine ⟨fun h0=>⟨fun d hd hd0 hd1=>?_,fun h=>absurd h3 h,fun _=>h4⟩,fun h=>absurd h2 h⟩
    obtain ⟨d',hd',hd0',hd1',hd2'⟩:=h3
    have:d=d':=hu d hd d' hd' hd0 hd0' (hd1.trans hd1'.symm)
    subst this
    omega
   ·exact hA k (by omega) hkl
  ·rw [if_neg hg]
   by_cases h0:(L.getD i Zb).1=0
   ·rw [if_neg (fun h=>h h0)]
    have hmk:=hm _ hcm
    rcases ZaJ (Zcr (ZbK (L.getD i Zb).2.2.1) L 0) with hj | ⟨j,hj⟩
    ·rw [hj]
     have hno:=ZhU hj
     have hnopp:¬ Opp (· ∈ L) (L.getD i Zb):=fun ⟨d,hd,hd0,hd1,_⟩=>hno d hd ⟨hd0,hd1⟩
     refine ⟨fun h=>(by cases h),fun t' ht'=>?_⟩
     cases ht'
     exact hput _ (.inl ⟨hcm,fun _=>hnopp⟩) _ (hG' _) ⟨fun _=>⟨fun d hd hd0 hd1=>absurd ⟨hd0,hd1⟩ (hno d hd),fun _=>hlast _,fun h=>absurd h hnopp⟩,fun h=>absurd h0 h⟩
    ·rw [hj]
     obtain ⟨_,hj1,hj2,hj3⟩:=Zfg hj
     simp only [Nat.sub_zero] at hj1 hj2 hj3
     rw [← ZT (d:=Zb) hj1] at hj2 hj3
     have hdm:=Zl (d:=Zb) hj1
     simp only
     have huj:∀ d∈L,d.1=0→d.2.2.1=ZbK (L.getD i Zb).2.2.1→d=L.getD j Zb:=fun d hd hd0 hd1=>hu d hd _ hdm hd0 hj2 (hd1.trans hj3.symm)
     by_cases h1:(L.getD i Zb).2.2.2+(L.getD j Zb).2.2.2 < 0
     ·rw [if_pos h1]
      exact ⟨fun _=>⟨_,_,hcm,hdm,h0,hj2,hj3,h1⟩,fun t' h=>by cases h⟩
     ·rw [if_neg h1]
      by_cases h2:(L.getD i Zb).2.2.2+(L.getD j Zb).2.2.2=0
      ·rw [if_pos h2]
       have hopp:Opp (· ∈ L) (L.getD i Zb):=⟨_,hdm,hj2,hj3,h2⟩
       have hteq:=Znn (hmk.gcd h0) hj3 h2
       refine ⟨fun h=>(by cases h),fun t' ht'=>?_⟩
       cases ht'
       refine hput (Zkg (L.getD i Zb)) (.inr ⟨_,hcm,h0,hopp,rfl⟩) _ (fun k hk=>?_) ⟨fun _=>⟨fun d hd hd0 hd1=>?_,fun h=>absurd hopp h,fun _=>hlast _⟩,fun h=>absurd h0 h⟩
       ·simp only [Zc6] at hk
        by_cases hkj:(k:Int)=(j:Int)
        ·have:k=j:=by omega
         subst this
         refine ⟨hj1,hj2,⟨_,hcm,h0,?_,by omega⟩,?_⟩
         ·rw [hj3,ZcC]
         ·rw [hteq];exact hlast _
        ·rw [if_neg hkj] at hk
         exact hG' _ k hk
       ·rw [huj d hd hd0 hd1];omega
      ·rw [if_neg h2]
       have hnopp:¬ Opp (· ∈ L) (L.getD i Zb):=fun ⟨d,hd,hd0,hd1,hd2⟩=>by
        rw [huj d hd hd0 hd1] at hd2;exact h2 hd2
       refine ⟨fun h=>(by cases h),fun t' ht'=>?_⟩
       cases ht'
       refine hput _ (.inl ⟨hcm,fun _=>hnopp⟩) _ (hG' _) ⟨fun _=>⟨fun d hd hd0 hd1=>?_,fun _=>hlast _,fun h=>absurd h hnopp⟩,fun h=>absurd h0 h⟩
       rw [huj d hd hd0 hd1];omega
   ·rw [if_pos h0]
    refine ⟨fun h=>(by cases h),fun t' ht'=>?_⟩
    cases ht'
    exact hput _ (.inl ⟨hcm,fun h=>absurd h h0⟩) _ (hG' _) ⟨fun h=>absurd h h0,fun _=>hlast _⟩)
 have hpf:ZdT L=((Zcp L).foldlM (ZbE L) ([],fun _=>none)).map (·.1):=rfl
 rw [hpf]
 rcases ZaJ ((Zcp L).foldlM (ZbE L) ([],fun _=>none)) with h | ⟨st,h⟩
 ·rw [h]
  exact ⟨fun _=>hinv.1 h,fun out h=>by cases h⟩
 ·rw [h]
  refine ⟨fun h=>(by cases h),fun out ho=>?_⟩
  cases ho
  obtain ⟨hA,hB,hG⟩:=hinv.2 st h
  rw [ZbI] at hA
  have hA':∀ c∈L,(c.1=0→(∀ d∈L,d.1=0→d.2.2.1=ZbK c.2.2.1→0≤c.2.2.2+d.2.2.2)∧(¬ Opp (· ∈ L) c→c∈st.1)∧(Opp (· ∈ L) c→Zkg c∈st.1))∧(c.1≠0→c∈st.1):=fun c hc=>by
   obtain ⟨k,hk,rfl⟩:=ZbO (d:=Zb) hc
   exact hA k hk hk
  refine ⟨?_,fun x=>⟨hB x,?_⟩⟩
  ·rintro ⟨c,d,hc,hd,h0,h1,h2,h3⟩
   have:=((hA' c hc).1 h0).1 d hd h1 h2
   omega
  ·rintro (⟨hx,hx2⟩ | ⟨c,hc,h0,ho,rfl⟩)
   ·by_cases h0:x.1=0
    ·exact ((hA' x hx).1 h0).2.1 (hx2 h0)
    ·exact (hA' x hx).2 h0
   ·exact ((hA' c hc).1 h0).2.2 ho
theorem Zj8 {C:List Int} {l:List Zc} (h:eqK C l=none):∀ e∈l,¬ (e.1=1∧e.2.2.1=C):=by
 intro e he
 simp only [eqK,Option.map_eq_none_iff,List.find?_eq_none,List.mem_reverse,decide_eq_true_eq] at h
 exact h e he
theorem ZeX {n:Nat} {e f:Zc} (he:Mk n e) (hf:Mk n f) (h1:e.1=1) (h2:f.1=1):f.2.2.1≠ZbK e.2.2.1:=fun h=>by
 have a:=he.1.2.2 h1
 have b:=hf.1.2.2 h2
 have g:=he.1.2.1 (by omega)
 rw [h,Zc1 (by omega),a] at b
 cases b
theorem ZhO {n:Nat} {M:List Zc} (hm:∀ c∈M,Mk n c):(ZbH M=none→Zfj (· ∈ M))∧∀ out,ZbH M=some out→¬ Zfj (· ∈ M)∧∀ x,x∈out↔ZsE (· ∈ M) x:=by
 have hmt:∀ {i:Nat} {e:Zc},e∈M.take i→e∈M:=fun h=>List.mem_of_mem_take h
 have h1:=Zgd (V:=Zfj (· ∈ M)) (P:=fun i seen=>seen=M.take i∧∀ e∈M.take i,∀ f∈M.take i,e.1=1→f.1=1→e.2.2.1=f.2.2.1→e.2.2.2=f.2.2.2) M Zb Zdl [] ⟨rfl,by simp⟩ (by
  rintro i seen hi ⟨rfl,hc⟩
  have hcm:=Zl (d:=Zb) hi
  have hts:=ZH Zb hi
  have hnew:∀ c:Zc,(∀ e∈M.take i,e.1=1→c.1=1→e.2.2.1=c.2.2.1→e.2.2.2=c.2.2.2)→∀ e∈M.take i++[c],∀ f∈M.take i++[c],e.1=1→f.1=1→e.2.2.1=f.2.2.1→e.2.2.2=f.2.2.2:=fun c h e he f hf e1 f1 ef=>by
   simp only [List.mem_append,List.mem_singleton] at he hf
   rcases he with he | rfl<;>rcases hf with hf | rfl
   ·exact hc e he f hf e1 f1 ef
   ·exact h e he e1 f1 ef
   ·exact (h f hf f1 e1 ef.symm).symm
   ·rfl
  rw [hts]
  unfold Zdl
  by_cases h0:(M.getD i Zb).1=1
  ·rw [if_neg (fun h=>h h0)]
   rcases ZaJ (eqK (M.getD i Zb).2.2.1 (M.take i)) with hq | ⟨k,hq⟩
   ·rw [hq]
    have hno:=Zj8 hq
    refine ⟨fun h=>(by cases h),fun t' ht'=>?_⟩
    cases ht'
    exact ⟨rfl,hnew _ fun e he e1 _ ee=>absurd ⟨e1,ee⟩ (hno e he)⟩
   ·rw [hq]
    obtain ⟨e,he,e1,e2,e3⟩:=Zr9 hq
    simp only
    by_cases hk:k=(M.getD i Zb).2.2.2
    ·rw [if_neg (fun h=>h hk)]
     refine ⟨fun h=>(by cases h),fun t' ht'=>?_⟩
     cases ht'
     refine ⟨rfl,hnew _ fun f hf f1 _ ff=>?_⟩
     rw [hc f hf e he f1 e1 (ff.trans e2.symm),e3,hk]
    ·rw [if_pos hk]
     exact ⟨fun _=>.inl ⟨e,_,hmt he,hcm,e1,h0,e2,by rw [e3];exact hk⟩,fun t' h=>by cases h⟩
  ·rw [if_pos h0]
   refine ⟨fun h=>(by cases h),fun t' ht'=>?_⟩
   cases ht'
   exact ⟨rfl,hnew _ fun e he _ h _=>absurd h h0⟩)
 unfold ZbH
 rcases ZaJ (M.foldlM Zdl []) with he | ⟨seen,he⟩
 ·rw [he]
  exact ⟨fun _=>h1.1 he,fun out h=>by cases h⟩
 ·rw [he]
  simp only
  obtain ⟨_,hcf⟩:=h1.2 seen he
  rw [List.take_length] at hcf
  clear h1 he
  have h2:=Zgd (V:=Zfj (· ∈ M)) (P:=fun i out=>(∀ x,x∈out↔x∈M.take i∧(x.1=0→∀ e∈M,e.1=1→e.2.2.1≠x.2.2.1∧e.2.2.1≠ZbK x.2.2.1))∧∀ c∈M.take i,c.1=0→∀ e∈M,e.1=1→(e.2.2.1=c.2.2.1→e.2.2.2≤c.2.2.2)∧(e.2.2.1=ZbK c.2.2.1→0≤c.2.2.2+e.2.2.2)) M Zb (Zdb M) [] ⟨by simp,by simp⟩ (by
   rintro i out hi ⟨hA,hB⟩
   have hcm:=Zl (d:=Zb) hi
   have hts:=ZH Zb hi
   have hput:((M.getD i Zb).1=0→∀ e∈M,e.1=1→e.2.2.1≠(M.getD i Zb).2.2.1∧e.2.2.1≠ZbK (M.getD i Zb).2.2.1)→(∀ x,x∈out++[M.getD i Zb]↔x∈M.take i++[M.getD i Zb]∧(x.1=0→∀ e∈M,e.1=1→e.2.2.1≠x.2.2.1∧e.2.2.1≠ZbK x.2.2.1)):=fun h x=>by
    simp only [List.mem_append,List.mem_singleton,hA]
    constructor
    ·rintro (⟨h1,h2⟩ | rfl)
     ·exact ⟨.inl h1,h2⟩
     ·exact ⟨.inr rfl,h⟩
    ·rintro ⟨h1 | h1,h2⟩
     ·exact .inl ⟨h1,h2⟩
     ·exact .inr h1
   have hdrop:((M.getD i Zb).1=0∧∃ e∈M,e.1=1∧(e.2.2.1=(M.getD i Zb).2.2.1∨e.2.2.1=ZbK (M.getD i Zb).2.2.1))→(∀ x,x∈out↔x∈M.take i++[M.getD i Zb]∧(x.1=0→∀ e∈M,e.1=1→e.2.2.1≠x.2.2.1∧e.2.2.1≠ZbK x.2.2.1)):=fun ⟨h0,e,he,he1,he2⟩ x=>by
    simp only [List.mem_append,List.mem_singleton,hA]
    constructor
    ·rintro ⟨h1,h2⟩;exact ⟨.inl h1,h2⟩
    ·rintro ⟨h1 | rfl,h2⟩
     ·exact ⟨h1,h2⟩
     ·have:=h2 h0 e he he1
      exact (he2.elim this.1 this.2).elim
   have hnew:((M.getD i Zb).1=0→∀ e∈M,e.1=1→(e.2.2.1=(M.getD i Zb).2.2.1→e.2.2.2≤(M.getD i Zb).2.2.2)∧(e.2.2.1=ZbK (M.getD i Zb).2.2.1→0≤(M.getD i Zb).2.2.2+e.2.2.2))→∀ c∈M.take i++[M.getD i Zb],c.1=0→∀ e∈M,e.1=1→(e.2.2.1=c.2.2.1→e.2.2.2≤c.2.2.2)∧(e.2.2.1=ZbK c.2.2.1→0≤c.2.2.2+e.2.2.2):=fun h c hc=>by
    simp only [List.mem_append,List.mem_singleton] at hc
    rcases hc with hc | rfl
    ·exact hB c hc
    ·exact h
   rw [hts]
   unfold Zdb
   by_cases h0:(M.getD i Zb).1=0
   ·rw [if_neg (fun h=>h h0)]
    rcases ZaJ (eqK (M.getD i Zb).2.2.1 M) with hq | ⟨k,hq⟩
    ·rw [hq]
     have hno:=Zj8 hq
     simp only
     rcases ZaJ (eqK (ZbK (M.getD i Zb).2.2.1) M) with hq2 | ⟨k,hq2⟩
     ·rw [hq2]
      have hno2:=Zj8 hq2
      refine ⟨fun h=>(by cases h),fun t' ht'=>?_⟩
      cases ht'
      exact ⟨hput fun _ e he e1=>⟨fun h=>hno e he ⟨e1,h⟩,fun h=>hno2 e he ⟨e1,h⟩⟩,hnew fun _ e he e1=>⟨fun h=>absurd ⟨e1,h⟩ (hno e he),fun h=>absurd ⟨e1,h⟩ (hno2 e he)⟩⟩
     ·rw [hq2]
      obtain ⟨e,he,e1,e2,e3⟩:=Zr9 hq2
      simp only
      by_cases hk:(M.getD i Zb).2.2.2+k < 0
      ·rw [if_pos hk]
       exact ⟨fun _=>.inr ⟨_,e,hcm,he,h0,e1,.inr ⟨e2,by rw [e3];exact hk⟩⟩,fun t' h=>by cases h⟩
      ·rw [if_neg hk]
       refine ⟨fun h=>(by cases h),fun t' ht'=>?_⟩
       cases ht'
       refine ⟨hdrop ⟨h0,e,he,e1,.inr e2⟩,hnew fun _ f hf f1=>⟨fun h=>absurd ⟨f1,h⟩ (hno f hf),fun h=>?_⟩⟩
       rw [hcf f hf e he f1 e1 (h.trans e2.symm),e3];omega
    ·rw [hq]
     obtain ⟨e,he,e1,e2,e3⟩:=Zr9 hq
     simp only
     by_cases hk:(M.getD i Zb).2.2.2 < k
     ·rw [if_pos hk]
      exact ⟨fun _=>.inr ⟨_,e,hcm,he,h0,e1,.inl ⟨e2,by rw [e3];exact hk⟩⟩,fun t' h=>by cases h⟩
     ·rw [if_neg hk]
      refine ⟨fun h=>(by cases h),fun t' ht'=>?_⟩
      cases ht'
      refine ⟨hdrop ⟨h0,e,he,e1,.inl e2⟩,hnew fun _ f hf f1=>⟨fun h=>?_,fun h=>?_⟩⟩
      ·rw [hcf f hf e he f1 e1 (h.trans e2.symm),e3];omega
      ·exact absurd (e2▸h) (ZeX (hm e he) (hm f hf) e1 f1)
   ·rw [if_pos h0]
    refine ⟨fun h=>(by cases h),fun t' ht'=>?_⟩
    cases ht'
    exact ⟨hput fun h=>absurd h h0,hnew fun h=>absurd h h0⟩)
  refine ⟨h2.1,fun out ho=>?_⟩
  obtain ⟨hA,hB⟩:=h2.2 out ho
  rw [List.take_length] at hA hB
  refine ⟨?_,fun x=>hA x⟩
  rintro (⟨e,f,he,hf,e1,f1,ef,hk⟩ | ⟨c,e,hc,he,c0,e1,⟨h3,h4⟩ | ⟨h3,h4⟩⟩)
  ·exact hk (hcf e he f hf e1 f1 ef)
  ·have:=(hB c hc c0 e he e1).1 h3;omega
  ·have:=(hB c hc c0 e he e1).2 h3;omega
theorem Zk0 {c:Zc} (h0:(Zbm c).2=0) (h1:(Zbm c).1.1=0):(Zbm c).1.2.1=0:=by
 have hs:∀ b,(Zcm b).2≠0:=fun b=>by cases b<;>simp [Zcm]
 unfold Zbm at *
 split at h0
 ·rename_i hk
  rw [if_pos hk]
  unfold geF at *
  split
  ·rfl
  ·rfl
 ·rename_i hk
  rw [if_neg hk] at h1 ⊢
  split at h0
  ·rename_i hk2
   rw [if_pos hk2] at h1 ⊢
   unfold eqF at *
   split
   ·rfl
   ·rfl
  ·rename_i hk2
   rw [if_neg hk2] at h1 ⊢
   unfold ZjR at *
   split at h1
   ·rename_i ha
    rw [if_pos ha];rfl
   ·rename_i ha
    rw [if_neg ha]
    split at h1
    ·rename_i hb
     rw [if_pos hb];rfl
    ·cases h1
theorem Zii {p:List Zc} {n:Nat} (h:ZaG p) (hd:ZdJ p n):∀ c∈Zbv p,Mk n c:=by
 intro c hc
 refine ⟨Zk7 h hd c hc,((Zn1 h).2 c hc).k3,fun h0=>?_⟩
 simp only [Zbv,List.mem_map,List.mem_filter] at hc
 obtain ⟨r,⟨⟨d,hd2,rfl⟩,hr⟩,rfl⟩:=hc
 exact Zk0 (by simpa using hr) h0
theorem Zmv {a b:List Zc} (h:K3 a) (hab:∀ x,x∈a↔x∈b):ZaX a=ZaX b:=by
 have hb:K3 b:=fun c hc=>h c ((hab c).2 hc)
 exact Zrb (Zg1 h) (Zg1 hb) fun c=>by rw [Zcl h,Zcl hb,hab]
theorem Zqs {n:Nat} {d c:Zc} (h:Mk n d):Mk n (ZgC d c.2.2.2):=h
theorem Zdf {p : List Zc} {n : Nat} (hb : ZaG p) (hd : ZdJ p n) (hv : ZaL p = false) :
 (Zgb (Lm (Zbv p))∨Zfj (MM (Lm (Zbv p)))→ZaH p=([],true,0)) ∧
 (¬ Zgb (Lm (Zbv p))→¬ Zfj (MM (Lm (Zbv p)))→∀ m,(∀ x,x∈m↔ZsE (MM (Lm (Zbv p))) x)→ZaH p=if ((Zbv p).any (fun c=>!Zf c)||decide (96 < (ZaX m).length))=true then ([],false,3) else (ZaX m,false,0)):=by
 have hl:=Zii hb hd
 have e:(fun x=>x∈Zbf (Zbv p))=Lm (Zbv p):=funext fun x=>propext (Zcy hl x)
 have hL:∀ c∈Zbf (Zbv p),Mk n c:=Zhe (fun d c hd _=>Zqs hd) hl
 have hu:Zvt (Zbf (Zbv p)):=fun c hc d hd h0 h1 h=>Lm.uniq hl ((Zcy hl c).1 hc) ((Zcy hl d).1 hd) h0 h1 h
 obtain ⟨hp1,hp2⟩:=ZlE hL hu
 rw [e] at hp1 hp2
 have ht:=ZbN p
 rw [hv] at ht
 simp only [Bool.false_eq_true,if_false] at ht
 rcases ZaJ (ZdT (Zbf (Zbv p))) with h1 | ⟨M,h1⟩
 ·rw [h1] at ht
  exact ⟨fun _=>ht,fun h=>absurd (hp1 h1) h⟩
 ·obtain ⟨hnv,hM⟩:=hp2 M h1
  have eM:(fun x=>x∈M)=MM (Lm (Zbv p)):=funext fun x=>propext (hM x)
  have hMk:∀ c∈M,Mk n c:=Zmd (fun c h0 hc=>(ZcK hc h0).1) hL h1
  obtain ⟨hs1,hs2⟩:=ZhO hMk
  rw [eM] at hs1 hs2
  rw [h1,Option.bind_some] at ht
  rcases ZaJ (ZbH M) with h2 | ⟨out,h2⟩
  ·rw [h2] at ht
   exact ⟨fun _=>ht,fun _ h=>absurd (hs1 h2) h⟩
  ·obtain ⟨hnv2,hO⟩:=hs2 out h2
   rw [h2] at ht
   refine ⟨fun h=>(h.elim hnv hnv2).elim,fun _ _ m hm=>?_⟩
   have hk3:K3 out:=fun c hc=>(ZlT (P:=Mk n) hMk h2 c hc).2.1
   have:ZaX out=ZaX m:=Zmv hk3 fun x=>by rw [hO,hm]
   rw [← this];exact ht
theorem ZnV {l:List Zc} {x:Zc} (h0:x.1≠0):Lm l x↔x∈l:=⟨fun h=>h.1,fun h=>⟨h,fun e=>absurd e h0⟩⟩
theorem Zdh {a b:Zc}:Za9 a b=1↔a.2.2.1=b.2.2.1:=by
 unfold Za9
 split
 ·rename_i h;exact ⟨fun _=>h,fun _=>rfl⟩
 ·rename_i h
  split
  ·exact ⟨fun h=>(by cases h),fun e=>absurd e h⟩
  ·exact ⟨fun h=>(by cases h),fun e=>absurd e h⟩
theorem Zfm {a b:Zc} (h:ZaZ a.2.2.1=1):Za9 a b=-1↔b.2.2.1=ZbK a.2.2.1:=by
 unfold Za9
 split
 ·rename_i h1
  exact ⟨fun h=>(by cases h),fun e=>absurd (e.symm.trans h1.symm) (Zq4 h)⟩
 ·split
  ·rename_i h2;exact ⟨fun _=>by rw [h2,ZcC],fun _=>rfl⟩
  ·rename_i h2;exact ⟨fun h=>(by cases h),fun e=>absurd (by rw [e,ZcC]) h2⟩
theorem ZeB {a b:Zc}:Za9 a b=0↔a.2.2.1≠b.2.2.1∧a.2.2.1≠ZbK b.2.2.1:=by
 unfold Za9
 split
 ·rename_i h1;exact ⟨fun h=>(by cases h),fun e=>absurd h1 e.1⟩
 ·rename_i h1
  split
  ·rename_i h2;exact ⟨fun h=>(by cases h),fun e=>absurd h2 e.2⟩
  ·rename_i h2;exact ⟨fun _=>⟨h1,h2⟩,fun _=>rfl⟩
def ZcY (out:List Zc) (c:Zc):List Zc:=out.map fun d=>if d.2.2.1=c.2.2.1 then ZgC d c.2.2.2 else d
def ZfA (out:List Zc) (c:Zc):Bool:=out.any fun d=>decide (d.2.2.1=c.2.2.1)
def ZkM (out:List Zc) (c:Zc):List Zc:=if ZfA out c=true then ZcY out c else out++[c]
theorem ZlA {n:Nat} {m out:List Zc} {c:Zc} (hm:∀ d∈m,Mk n d∧d.1=0) (hc:Mk n c) (h0:c.1=0) (ho:∀ x,x∈out↔Lm m x) (x:Zc):x∈ZkM out c↔Lm (m++[c]) x:=by
 rw [Zgs (fun d hd=>(hm d hd).1) hc h0]
 have hg:∀ d∈out,d.1=0:=fun d hd=>(hm d ((ho d).1 hd).1).2
 unfold ZkM
 by_cases hh:ZfA out c=true
 ·rw [if_pos hh]
  obtain ⟨e,he,he1⟩:=List.any_eq_true.1 hh
  simp only [decide_eq_true_eq] at he1
  simp only [ZcY,List.mem_map]
  constructor
  ·rintro ⟨d,hd,rfl⟩
   by_cases h1:d.2.2.1=c.2.2.1
   ·rw [if_pos h1]
    exact .inr ⟨hg d hd,h1,.inl ⟨d,(ho d).1 hd,hg d hd,h1,rfl⟩⟩
   ·rw [if_neg h1]
    exact .inl ⟨(ho d).1 hd,fun h=>h1 h.2⟩
  ·rintro (⟨hx,hxc⟩ | ⟨hx0,hxc,⟨d,hd,hd0,hd1,rfl⟩ | ⟨hex,rfl⟩⟩)
   ·refine ⟨x,(ho x).2 hx,if_neg fun h=>hxc ⟨hg x ((ho x).2 hx),h⟩⟩
   ·exact ⟨d,(ho d).2 hd,if_pos hd1⟩
   ·exact absurd ⟨e,(ho e).1 he,hg e he,he1⟩ hex
 ·rw [if_neg hh]
  have hno:∀ d∈out,d.2.2.1≠c.2.2.1:=fun d hd h=>hh (List.any_eq_true.2 ⟨d,hd,decide_eq_true h⟩)
  simp only [List.mem_append,List.mem_singleton]
  constructor
  ·rintro (hx | rfl)
   ·exact .inl ⟨(ho x).1 hx,fun h=>hno x hx h.2⟩
   ·exact .inr ⟨h0,rfl,.inr ⟨fun ⟨d,hd,hd0,hd1⟩=>hno d ((ho d).2 hd) hd1,rfl⟩⟩
  ·rintro (⟨hx,hxc⟩ | ⟨hx0,hxc,⟨d,hd,hd0,hd1,rfl⟩ | ⟨hex,rfl⟩⟩)
   ·exact .inl ((ho x).2 hx)
   ·exact absurd hd1 (hno d ((ho d).2 hd))
   ·exact .inr rfl
def ZkU (N i j a b:Nat):Prop:=a < b∧b < N∧(a < i∨(a=i∧b < j))
theorem ZcH {N i j a b:Nat} (h:i < j) (hj:j < N):ZkU N i (j+1) a b↔ZkU N i j a b∨(a=i∧b=j):=by
 unfold ZkU;omega
theorem ZjW {N i a b:Nat}:ZkU N i N a b↔ZkU N (i+1) (i+2) a b:=by
 unfold ZkU;omega
theorem ZkK {N a b:Nat}:¬ ZkU N 0 1 a b:=by unfold ZkU;omega
theorem ZrH {N i a b:Nat} (h:N≤i):ZkU N i (i+1) a b↔a < b∧b < N:=by unfold ZkU;omega
def Zs1 (G:List Zc) (a b:Nat):Prop:=Za9 (G.getD a Zb) (G.getD b Zb)=-1∧(G.getD a Zb).2.2.2+(G.getD b Zb).2.2.2=0
structure ZeJ (G eq:List Zc) (i j:Nat) (eqs:List Zc) (gone:List Bool):Prop where
 nn:∀ a b,ZkU G.length i j a b→Za9 (G.getD a Zb) (G.getD b Zb)=-1→0≤(G.getD a Zb).2.2.2+(G.getD b Zb).2.2.2
 ee:∀ x,x∈eqs↔x∈eq∨∃ a b,ZkU G.length i j a b∧Zs1 G a b∧x=Zkg (G.getD a Zb)
 gl:gone.length=G.length
 gg:∀ k,k < G.length→(gone.getD k false=true↔∃ a b,ZkU G.length i j a b∧Zs1 G a b∧(k=a∨k=b))
theorem ZeJ.nil (G eq:List Zc):ZeJ G eq 0 1 eq (List.replicate G.length false) :=
 ⟨fun a b h=>absurd h ZkK,fun x=>⟨.inl,fun h=>h.elim id fun ⟨a,b,h,_⟩=>absurd h ZkK⟩,by simp,fun k hk=>by
  rw [ZT (by simpa using hk)]
  simp only [List.getElem_replicate,Bool.false_eq_true,false_iff]
  rintro ⟨a,b,h,_⟩;exact ZkK h⟩
theorem ZeJ.row {G eq:List Zc} {i:Nat} {eqs:List Zc} {gone:List Bool} (h:ZeJ G eq i G.length eqs gone):ZeJ G eq (i+1) (i+2) eqs gone :=
 ⟨fun a b h1=>h.nn a b (ZjW.2 h1),fun x=>(h.ee x).trans (by simp only [ZjW]),h.gl,fun k hk=>(h.gg k hk).trans (by simp only [ZjW])⟩
theorem ZeJ.skip {G eq:List Zc} {i j:Nat} {eqs:List Zc} {gone:List Bool} (h:ZeJ G eq i j eqs gone) (hij:i < j) (hj:j < G.length) (hs:Za9 (G.getD i Zb) (G.getD j Zb)=-1→0 < (G.getD i Zb).2.2.2+(G.getD j Zb).2.2.2):ZeJ G eq i (j+1) eqs gone:=by
 have hno:¬ Zs1 G i j:=fun ⟨h1,h2⟩=>by have:=hs h1;omega
 have hex:∀ P:Nat→Nat→Prop,(∃ a b,ZkU G.length i (j+1) a b∧Zs1 G a b∧P a b)↔∃ a b,ZkU G.length i j a b∧Zs1 G a b∧P a b:=fun P=>by
  constructor
  ·rintro ⟨a,b,h1,h2,h3⟩
   rcases (ZcH hij hj).1 h1 with h1 | ⟨rfl,rfl⟩
   ·exact ⟨a,b,h1,h2,h3⟩
   ·exact absurd h2 hno
  ·rintro ⟨a,b,h1,h2,h3⟩
   exact ⟨a,b,(ZcH hij hj).2 (.inl h1),h2,h3⟩
 refine ⟨fun a b h1 h2=>?_,fun x=>(h.ee x).trans (or_congr Iff.rfl (hex _).symm),h.gl,fun k hk=>(h.gg k hk).trans (hex _).symm⟩
 rcases (ZcH hij hj).1 h1 with h1 | ⟨rfl,rfl⟩
 ·exact h.nn a b h1 h2
 ·have:=hs h2;omega
theorem ZeJ.put {G eq:List Zc} {i j:Nat} {eqs:List Zc} {gone:List Bool} (h:ZeJ G eq i j eqs gone) (hij:i < j) (hj:j < G.length) (hs:Zs1 G i j):ZeJ G eq i (j+1) (eqs++[Zkg (G.getD i Zb)]) ((gone.set i true).set j true):=by
 have hex:∀ P:Nat→Nat→Prop,(∃ a b,ZkU G.length i (j+1) a b∧Zs1 G a b∧P a b)↔(∃ a b,ZkU G.length i j a b∧Zs1 G a b∧P a b)∨P i j:=fun P=>by
  constructor
  ·rintro ⟨a,b,h1,h2,h3⟩
   rcases (ZcH hij hj).1 h1 with h1 | ⟨rfl,rfl⟩
   ·exact .inl ⟨a,b,h1,h2,h3⟩
   ·exact .inr h3
  ·rintro (⟨a,b,h1,h2,h3⟩ | h3)
   ·exact ⟨a,b,(ZcH hij hj).2 (.inl h1),h2,h3⟩
   ·exact ⟨i,j,(ZcH hij hj).2 (.inr ⟨rfl,rfl⟩),hs,h3⟩
 refine ⟨fun a b h1 h2=>?_,fun x=>?_,by simpa using h.gl,fun k hk=>?_⟩
 ·rcases (ZcH hij hj).1 h1 with h1 | ⟨rfl,rfl⟩
  ·exact h.nn a b h1 h2
  ·have:=hs.2;omega
 ·rw [hex,List.mem_append,List.mem_singleton,h.ee,or_assoc]
 ·rw [hex,← h.gg k hk]
  have hgl:=h.gl
  rw [ZT (by simp;omega)]
  by_cases h1:j=k
  ·subst h1
   rw [List.getElem_set_self]
   exact ⟨fun _=>.inr (.inr rfl),fun _=>rfl⟩
  ·rw [List.getElem_set_ne h1]
   by_cases h2:i=k
   ·subst h2
    rw [List.getElem_set_self]
    exact ⟨fun _=>.inr (.inl rfl),fun _=>rfl⟩
   ·rw [List.getElem_set_ne h2,ZT (show k < gone.length by omega)]
    exact ⟨.inl,fun h=>h.elim id fun h=>by omega⟩
structure Zk8 (L:Zc→Prop) (G eqs:List Zc) (gone:List Bool):Prop where
 nv:¬ Zgb L
 ee:∀ x,x∈eqs↔MM L x∧x.1=1
 gl:gone.length=G.length
 gg:∀ k,k < G.length→(gone.getD k false=true↔Opp L (G.getD k Zb))
theorem ZeJ.done {n:Nat} {l G eq:List Zc} {eqs:List Zc} {gone:List Bool} (hl:∀ c∈l,Mk n c) (hG:∀ x,x∈G↔Lm l x∧x.1=0) (hq:∀ x,x∈eq↔x∈l∧x.1=1) (h:ZeJ G eq G.length (G.length+1) eqs gone):Zk8 (Lm l) G eqs gone:=by
 have hmk:∀ a,a < G.length→Mk n (G.getD a Zb)∧(G.getD a Zb).1=0∧Lm l (G.getD a Zb):=fun a ha=>by
  have:=(hG _).1 (Zl (d:=Zb) ha)
  exact ⟨hl _ this.1.1,this.2,this.1⟩
 have hsd:∀ a b,a < G.length→b < G.length→(Za9 (G.getD a Zb) (G.getD b Zb)=-1↔(G.getD b Zb).2.2.1=ZbK (G.getD a Zb).2.2.1):=fun a b ha hb=>Zfm ((hmk a ha).1.gcd (hmk a ha).2.1)
 have hsym:∀ a b,a < G.length→b < G.length→(G.getD b Zb).2.2.1=ZbK (G.getD a Zb).2.2.1→(G.getD a Zb).2.2.1=ZbK (G.getD b Zb).2.2.1:=fun a b ha hb h=>by rw [h,ZcC]
 have hne:∀ a b,a < G.length→b < G.length→(G.getD b Zb).2.2.1=ZbK (G.getD a Zb).2.2.1→a≠b:=fun a b ha hb h e=>by
  subst e
  exact Zq4 ((hmk a ha).1.gcd (hmk a ha).2.1) h.symm
 have hpr:∀ a b,ZkU G.length G.length (G.length+1) a b↔a < b∧b < G.length:=fun a b=>ZrH (Nat.le_refl _)
 have hOpp:∀ k,k < G.length→(Opp (Lm l) (G.getD k Zb)↔∃ b,b < G.length∧(G.getD b Zb).2.2.1=ZbK (G.getD k Zb).2.2.1∧(G.getD k Zb).2.2.2+(G.getD b Zb).2.2.2=0):=fun k hk=>by
  constructor
  ·rintro ⟨d,hd,hd0,hd1,hd2⟩
   obtain ⟨b,hb,rfl⟩:=ZbO (d:=Zb) ((hG d).2 ⟨hd,hd0⟩)
   exact ⟨b,hb,hd1,hd2⟩
  ·rintro ⟨b,hb,h1,h2⟩
   exact ⟨_,(hmk b hb).2.2,(hmk b hb).2.1,h1,h2⟩
 refine ⟨?_,fun x=>?_,h.gl,fun k hk=>?_⟩
 ·rintro ⟨c,d,hc,hd,c0,d0,hcd,hlt⟩
  obtain ⟨a,ha,rfl⟩:=ZbO (d:=Zb) ((hG c).2 ⟨hc,c0⟩)
  obtain ⟨b,hb,rfl⟩:=ZbO (d:=Zb) ((hG d).2 ⟨hd,d0⟩)
  rcases Nat.lt_or_gt_of_ne (hne a b ha hb hcd) with hab | hab
  ·have:=h.nn a b ((hpr a b).2 ⟨hab,hb⟩) ((hsd a b ha hb).2 hcd);omega
  ·have:=h.nn b a ((hpr b a).2 ⟨hab,ha⟩) ((hsd b a hb ha).2 (hsym a b ha hb hcd));omega
 ·rw [h.ee,hq]
  constructor
  ·rintro (⟨h1,h2⟩ | ⟨a,b,h1,⟨h2,h3⟩,rfl⟩)
   ·exact ⟨.inl ⟨(ZnV (by omega)).2 h1,fun h=>by omega⟩,h2⟩
   ·have ha:a < G.length:=by have:=(hpr a b).1 h1;omega
    have hb:b < G.length:=by have:=(hpr a b).1 h1;omega
    exact ⟨.inr ⟨_,(hmk a ha).2.2,(hmk a ha).2.1,(hOpp a ha).2 ⟨b,hb,(hsd a b ha hb).1 h2,h3⟩,rfl⟩,(ZcK (hmk a ha).1 (hmk a ha).2.1).2⟩
  ·rintro ⟨⟨h1,h2⟩ | ⟨c,hc,c0,ho,rfl⟩,hx1⟩
   ·exact .inl ⟨h1.1,hx1⟩
   ·obtain ⟨k,hk,rfl⟩:=ZbO (d:=Zb) ((hG c).2 ⟨hc,c0⟩)
    obtain ⟨b,hb,h3,h4⟩:=(hOpp k hk).1 ho
    right
    rcases Nat.lt_or_gt_of_ne (hne k b hk hb h3) with hkb | hkb
    ·exact ⟨k,b,(hpr k b).2 ⟨hkb,hb⟩,⟨(hsd k b hk hb).2 h3,h4⟩,rfl⟩
    ·exact ⟨b,k,(hpr b k).2 ⟨hkb,hk⟩,⟨(hsd b k hb hk).2 (hsym k b hk hb h3),by omega⟩,(Znn ((hmk k hk).1.gcd c0) h3 h4).symm⟩
 ·rw [h.gg k hk,hOpp k hk]
  constructor
  ·rintro ⟨a,b,h1,⟨h2,h3⟩,h4⟩
   have ha:a < G.length:=by have:=(hpr a b).1 h1;omega
   have hb:b < G.length:=by have:=(hpr a b).1 h1;omega
   have h5:=(hsd a b ha hb).1 h2
   rcases h4 with rfl | rfl
   ·exact ⟨b,hb,h5,h3⟩
   ·exact ⟨a,ha,hsym a k ha hb h5,by omega⟩
  ·rintro ⟨b,hb,h3,h4⟩
   rcases Nat.lt_or_gt_of_ne (hne k b hk hb h3) with hkb | hkb
   ·exact ⟨k,b,(hpr k b).2 ⟨hkb,hb⟩,⟨(hsd k b hk hb).2 h3,h4⟩,.inl rfl⟩
   ·exact ⟨b,k,(hpr b k).2 ⟨hkb,hk⟩,⟨(hsd b k hb hk).2 (hsym k b hk hb h3),by omega⟩,.inr rfl⟩
structure EqI (G E:List Zc) (gone0:List Bool) (i:Nat) (gone:List Bool):Prop where
 cc:∀ a b,a < i→b < i→(E.getD a Zb).2.2.1=(E.getD b Zb).2.2.1→(E.getD a Zb).2.2.2=(E.getD b Zb).2.2.2
 nn:∀ k,k < G.length→gone0.getD k false=false→∀ a,a < i→((E.getD a Zb).2.2.1=(G.getD k Zb).2.2.1→(E.getD a Zb).2.2.2≤(G.getD k Zb).2.2.2)∧((E.getD a Zb).2.2.1=ZbK (G.getD k Zb).2.2.1→0≤(G.getD k Zb).2.2.2+(E.getD a Zb).2.2.2)
 gl:gone.length=G.length
 gg:∀ k,k < G.length→(gone.getD k false=true↔gone0.getD k false=true∨∃ a,a < i∧Za9 (E.getD a Zb) (G.getD k Zb)≠0)
theorem EqI.nil {G E:List Zc} {gone0:List Bool} (h:gone0.length=G.length):EqI G E gone0 0 gone0 :=
 ⟨fun a b h=>absurd h (by omega),fun k _ _ a h=>absurd h (by omega),h,fun k hk=>⟨.inl,fun h=>h.elim id fun ⟨a,h,_⟩=>absurd h (by omega)⟩⟩
structure EqR (G E:List Zc) (gone0:List Bool) (i j:Nat) (gone1 gone:List Bool):Prop where
 nn:∀ k,k < j→gone0.getD k false=false→((E.getD i Zb).2.2.1=(G.getD k Zb).2.2.1→(E.getD i Zb).2.2.2≤(G.getD k Zb).2.2.2)∧((E.getD i Zb).2.2.1=ZbK (G.getD k Zb).2.2.1→0≤(G.getD k Zb).2.2.2+(E.getD i Zb).2.2.2)
 gl:gone.length=G.length
 gg:∀ k,k < G.length→(gone.getD k false=true↔gone1.getD k false=true∨(k < j∧Za9 (E.getD i Zb) (G.getD k Zb)≠0))
theorem EqI.row {G E:List Zc} {gone0:List Bool} {i:Nat} {gone1 gone:List Bool} (h:EqI G E gone0 i gone1) (hc:∀ a,a < i→(E.getD i Zb).2.2.1=(E.getD a Zb).2.2.1→(E.getD i Zb).2.2.2=(E.getD a Zb).2.2.2) (hr:EqR G E gone0 i G.length gone1 gone):EqI G E gone0 (i+1) gone:=by
 refine ⟨fun a b ha hb hab=>?_,fun k hk h0 a ha=>?_,hr.gl,fun k hk=>?_⟩
 ·rcases Nat.lt_or_ge a i with h1 | h1<;>rcases Nat.lt_or_ge b i with h2 | h2
  ·exact h.cc a b h1 h2 hab
  ·have:b=i:=by omega
   subst this
   exact (hc a h1 hab.symm).symm
  ·have:a=i:=by omega
   subst this
   exact hc b h2 hab
  ·have:a=b:=by omega
   rw [this]
 ·rcases Nat.lt_or_ge a i with h1 | h1
  ·exact h.nn k hk h0 a h1
  ·have:a=i:=by omega
   subst this
   exact hr.nn k hk h0
 ·rw [hr.gg k hk,h.gg k hk,or_assoc]
  refine or_congr Iff.rfl ⟨?_,?_⟩
  ·rintro (⟨a,ha,h1⟩ | ⟨_,h1⟩)
   ·exact ⟨a,by omega,h1⟩
   ·exact ⟨i,by omega,h1⟩
  ·rintro ⟨a,ha,h1⟩
   rcases Nat.lt_or_ge a i with h2 | h2
   ·exact .inl ⟨a,h2,h1⟩
   ·have:a=i:=by omega
    subst this
    exact .inr ⟨hk,h1⟩
theorem EqR.nil {G E:List Zc} {gone0 gone1:List Bool} {i:Nat} (h:gone1.length=G.length):EqR G E gone0 i 0 gone1 gone1 :=
 ⟨fun k h=>absurd h (by omega),h,fun k hk=>⟨.inl,fun h=>h.elim id fun ⟨h,_⟩=>absurd h (by omega)⟩⟩
theorem EqR.skip {n:Nat} {G E:List Zc} {gone0 gone1 gone:List Bool} {i j:Nat} (hE:∀ a,a≤i→Mk n (E.getD a Zb)∧(E.getD a Zb).1=1) (hI:EqI G E gone0 i gone1) (hc:∀ a,a < i→(E.getD i Zb).2.2.1=(E.getD a Zb).2.2.1→(E.getD i Zb).2.2.2=(E.getD a Zb).2.2.2) (h:EqR G E gone0 i j gone1 gone) (hj:j < G.length) (hs:gone.getD j false=true∨Za9 (E.getD i Zb) (G.getD j Zb)=0):EqR G E gone0 i (j+1) gone1 gone:=by
 have hneg:∀ {u v:List Int},u=ZbK v→v=ZbK u:=fun {u v} h=>by rw [h,ZcC]
 refine ⟨fun k hk h0=>?_,h.gl,fun k hk=>?_⟩
 ·rcases Nat.lt_or_ge k j with h1 | h1
  ·exact h.nn k h1 h0
  ·have:k=j:=by omega
   subst this
   rcases hs with hs | hs
   ·rcases (h.gg k hj).1 hs with h2 | h2
    ·rcases (hI.gg k hj).1 h2 with h3 | ⟨a,ha,h3⟩
     ·rw [h0] at h3;cases h3
     ·have hn:=hI.nn k hj h0 a ha
      obtain ⟨ma,a1⟩:=hE a (by omega)
      obtain ⟨mi,i1⟩:=hE i (Nat.le_refl _)
      have h4:(E.getD a Zb).2.2.1=(G.getD k Zb).2.2.1∨(E.getD a Zb).2.2.1=ZbK (G.getD k Zb).2.2.1:=by
       rcases Decidable.em ((E.getD a Zb).2.2.1=(G.getD k Zb).2.2.1) with h5 | h5
       ·exact .inl h5
       ·rcases Decidable.em ((E.getD a Zb).2.2.1=ZbK (G.getD k Zb).2.2.1) with h6 | h6
        ·exact .inr h6
        ·exact absurd (ZeB.2 ⟨h5,h6⟩) h3
      constructor
      ·intro h5
       rcases h4 with h4 | h4
       ·rw [hc a ha (h5.trans h4.symm)];exact hn.1 h4
       ·exact absurd (h5▸h4) (ZeX mi ma i1 a1)
      ·intro h5
       rcases h4 with h4 | h4
       ·exact absurd (h4▸h5) (ZeX ma mi a1 i1)
       ·rw [hc a ha (h5.trans h4.symm)];exact hn.2 h4
    ·omega
   ·have:=ZeB.1 hs
    exact ⟨fun h=>absurd h this.1,fun h=>absurd h this.2⟩
 ·rw [h.gg k hk]
  constructor
  ·rintro (h1 | ⟨h1,h2⟩)
   ·exact .inl h1
   ·exact .inr ⟨by omega,h2⟩
  ·rintro (h1 | ⟨h1,h2⟩)
   ·exact .inl h1
   ·rcases Nat.lt_or_ge k j with h3 | h3
    ·exact .inr ⟨h3,h2⟩
    ·have:k=j:=by omega
     subst this
     rcases hs with hs | hs
     ·exact (h.gg k hk).1 hs
     ·exact absurd hs h2
theorem EqR.put {G E:List Zc} {gone0 gone1 gone:List Bool} {i j:Nat} (h:EqR G E gone0 i j gone1 gone) (hj:j < G.length) (hs:Za9 (E.getD i Zb) (G.getD j Zb)≠0) (hn:0≤(G.getD j Zb).2.2.2 - Za9 (E.getD i Zb) (G.getD j Zb)*(E.getD i Zb).2.2.2) (hg:ZaZ (E.getD i Zb).2.2.1=1):EqR G E gone0 i (j+1) gone1 (gone.set j true):=by
 have hgl:=h.gl
 refine ⟨fun k hk h0=>?_,by simpa using hgl,fun k hk=>?_⟩
 ·rcases Nat.lt_or_ge k j with h1 | h1
  ·exact h.nn k h1 h0
  ·have:k=j:=by omega
   subst this
   constructor
   ·intro h5
    rw [Zdh.2 h5] at hn;omega
   ·intro h5
    rw [(Zfm hg).2 (by rw [h5,ZcC])] at hn;omega
 ·rw [ZT (by simp;omega)]
  by_cases h1:j=k
  ·subst h1
   rw [List.getElem_set_self]
   exact ⟨fun _=>.inr ⟨by omega,hs⟩,fun _=>rfl⟩
  ·rw [List.getElem_set_ne h1,← ZT (d:=false) (show k < gone.length by omega),h.gg k hk]
   exact or_congr Iff.rfl ⟨fun h=>⟨by omega,h.2⟩,fun h=>⟨by omega,h.2⟩⟩
theorem EqI.done {n:Nat} {l G E:List Zc} {gone0 gone:List Bool} (hl:∀ c∈l,Mk n c) (hG:∀ x,x∈G↔Lm l x∧x.1=0) (hp:Zk8 (Lm l) G E gone0) (h:EqI G E gone0 E.length gone) {m:List Zc} (hm:∀ x,x∈m↔x∈E∨(∃ k,k < G.length∧gone.getD k false=false∧x=G.getD k Zb)∨(x∈l∧x.1=2)):¬ Zfj (MM (Lm l))∧∀ x,x∈m↔ZsE (MM (Lm l)) x:=by
 have hMk:∀ c,MM (Lm l) c→c.1=0→c∈G∧¬ Opp (Lm l) c:=fun c hc c0=>by
  rcases hc with ⟨h1,h2⟩ | ⟨d,hd,d0,_,rfl⟩
  ·exact ⟨(hG c).2 ⟨h1,c0⟩,h2 c0⟩
  ·have:=(ZcK (hl d hd.1) d0).2
   omega
 have hgk:∀ c,MM (Lm l) c→c.1=0→∃ k,k < G.length∧c=G.getD k Zb∧gone0.getD k false=false:=fun c hc c0=>by
  obtain ⟨h1,h2⟩:=hMk c hc c0
  obtain ⟨k,hk,rfl⟩:=ZbO (d:=Zb) h1
  refine ⟨k,hk,rfl,?_⟩
  cases hb:gone0.getD k false with
  | false=>rfl
  | true=>exact absurd ((hp.gg k hk).1 hb) h2
 have hEi:∀ e,MM (Lm l) e→e.1=1→∃ a,a < E.length∧e=E.getD a Zb:=fun e he e1=>by
  obtain ⟨a,ha,h⟩:=ZbO (d:=Zb) ((hp.ee e).2 ⟨he,e1⟩)
  exact ⟨a,ha,h.symm⟩
 refine ⟨?_,fun x=>?_⟩
 ·rintro (⟨e,f,he,hf,e1,f1,ef,hk⟩ | ⟨c,e,hc,he,c0,e1,hor⟩)
  ·obtain ⟨a,ha,rfl⟩:=hEi e he e1
   obtain ⟨b,hb,rfl⟩:=hEi f hf f1
   exact hk (h.cc a b ha hb ef)
  ·obtain ⟨a,ha,rfl⟩:=hEi e he e1
   obtain ⟨k,hk,rfl,hk0⟩:=hgk c hc c0
   have:=h.nn k hk hk0 a ha
   rcases hor with ⟨h1,h2⟩ | ⟨h1,h2⟩
   ·have:=this.1 h1;omega
   ·have:=this.2 h1;omega
 ·rw [hm]
  constructor
  ·rintro (hx | ⟨k,hk,hg,rfl⟩ | ⟨hx,x2⟩)
   ·obtain ⟨h1,h2⟩:=(hp.ee x).1 hx
    exact ⟨h1,fun h=>by omega⟩
   ·have h0:¬ (gone0.getD k false=true∨∃ a,a < E.length∧Za9 (E.getD a Zb) (G.getD k Zb)≠0):=fun h1=>by
     rw [(h.gg k hk).2 h1] at hg;cases hg
    rw [not_or] at h0
    have hgm:=(hG _).1 (Zl (d:=Zb) hk)
    refine ⟨.inl ⟨hgm.1,fun _ ho=>h0.1 ((hp.gg k hk).2 ho)⟩,fun _ e he e1=>?_⟩
    obtain ⟨a,ha,rfl⟩:=hEi e he e1
    have:Za9 (E.getD a Zb) (G.getD k Zb)=0:=by
     rcases Decidable.em (Za9 (E.getD a Zb) (G.getD k Zb)=0) with h1 | h1
     ·exact h1
     ·exact absurd ⟨a,ha,h1⟩ h0.2
    exact ZeB.1 this
   ·exact ⟨.inl ⟨(ZnV (by omega)).2 hx,fun h=>by omega⟩,fun h=>by omega⟩
  ·rintro ⟨hx,hx2⟩
   have hk3:Zfy x.1:=by
    rcases hx with ⟨h1,_⟩ | ⟨d,hd,d0,_,rfl⟩
    ·exact (hl x h1.1).2.1
    ·exact .inr (.inl (ZcK (hl d hd.1) d0).2)
   rcases hk3 with x0 | x1 | x2
   ·obtain ⟨k,hk,rfl,hk0⟩:=hgk x hx x0
    refine .inr (.inl ⟨k,hk,?_,rfl⟩)
    cases hb:gone.getD k false with
    | false=>rfl
    | true =>
      rcases (h.gg k hk).1 hb with h1 | ⟨a,ha,h1⟩
      ·rw [hk0] at h1;cases h1
      ·obtain ⟨h2,h3⟩:=(hp.ee _).1 (Zl (d:=Zb) ha)
       exact absurd (ZeB.2 (hx2 x0 _ h2 h3)) h1
   ·exact .inl ((hp.ee x).2 ⟨hx,x1⟩)
   ·rcases hx with ⟨h1,_⟩ | ⟨d,hd,d0,_,rfl⟩
    ·exact .inr (.inr ⟨h1.1,x2⟩)
    ·have:=(ZcK (hl d hd.1) d0).2
     omega
def ZeI (st:Bool×List Zc×List Zc×List Zc) (r:Zc):Bool×List Zc×List Zc×List Zc :=
 (st.1||!Zf r,if r.1=0 then (st.2.1++[r],st.2.2.1,st.2.2.2) else if r.1=1 then (st.2.1,st.2.2.1++[r],st.2.2.2) else (st.2.1,st.2.2.1,st.2.2.2++[r]))
def ZqK (st:Bool×List Zc×List Zc×List Zc) (c:Zc):Option (Bool×List Zc×List Zc×List Zc) :=
 if (Zbm c).2 < 0 then none else if (Zbm c).2=0 then some (ZeI st (Zbm c).1) else some st
theorem Zeq:∀ (p:List Zc) (st:Bool×List Zc×List Zc×List Zc),p.foldlM ZqK st=if ZaL p then none else some ((Zbv p).foldl ZeI st)
 | [],st=>by simp [ZaL,Zbv]
 | c::p,st=>by
   rw [List.foldlM_cons]
   simp only [ZqK,ZaL,Zbv,List.map_cons,List.any_cons]
   by_cases h:(Zbm c).2 < 0
   ·simp [h]
   ·have ih:∀ st,p.foldlM ZqK st=if ZaL p then none else some ((Zbv p).foldl ZeI st):=Zeq p
    unfold ZaL Zbv at ih
    by_cases h2:(Zbm c).2=0
    ·simp only [if_neg h,if_pos h2,Option.bind_eq_bind,Option.bind_some,ih,decide_eq_false h,Bool.false_or]
     simp [h2]
    ·simp only [if_neg h,if_neg h2,Option.bind_eq_bind,Option.bind_some,ih,decide_eq_false h,Bool.false_or]
     simp [h2]
structure ZrU (l:List Zc) (st:Bool×List Zc×List Zc×List Zc):Prop where
 bad:st.1=l.any fun c=>!Zf c
 ge:∀ x,x∈st.2.1↔x∈l∧x.1=0
 eq:∀ x,x∈st.2.2.1↔x∈l∧x.1=1
 div:∀ x,x∈st.2.2.2↔x∈l∧x.1≠0∧x.1≠1
 len:st.2.1.length+st.2.2.1.length+st.2.2.2.length=l.length
theorem ZoZ {l:List Zc} {st:Bool×List Zc×List Zc×List Zc} {r:Zc} (h:ZrU l st):ZrU (l++[r]) (ZeI st r):=by
 have hb:(ZeI st r).1=(l++[r]).any fun c=>!Zf c:=by
  simp only [ZeI,h.bad,List.any_append,List.any_cons,List.any_nil,Bool.or_false]
 have hg:=h.ge
 have hq:=h.eq
 have hd:=h.div
 have hl:=h.len
 unfold ZeI at hb ⊢
 by_cases h0:r.1=0
 ·rw [if_pos h0] at hb ⊢
  refine ⟨hb,fun x=>?_,fun x=>?_,fun x=>?_,by simp only [List.length_append,List.length_cons,List.length_nil];omega⟩
  ·simp only [List.mem_append,List.mem_singleton,hg]
   constructor
   ·rintro (h | rfl)
    ·exact ⟨.inl h.1,h.2⟩
    ·exact ⟨.inr rfl,h0⟩
   ·rintro ⟨h1 | h1,h2⟩
    ·exact .inl ⟨h1,h2⟩
    ·exact .inr h1
  ·simp only [List.mem_append,List.mem_singleton,hq]
   constructor
   ·intro h;exact ⟨.inl h.1,h.2⟩
   ·rintro ⟨h1 | rfl,h2⟩
    ·exact ⟨h1,h2⟩
    ·omega
  ·simp only [List.mem_append,List.mem_singleton,hd]
   constructor
   ·intro h;exact ⟨.inl h.1,h.2⟩
   ·rintro ⟨h1 | rfl,h2⟩
    ·exact ⟨h1,h2⟩
    ·exact absurd h0 h2.1
 ·rw [if_neg h0] at hb ⊢
  by_cases h1:r.1=1
  ·rw [if_pos h1] at hb ⊢
   refine ⟨hb,fun x=>?_,fun x=>?_,fun x=>?_,by simp only [List.length_append,List.length_cons,List.length_nil];omega⟩
   ·simp only [List.mem_append,List.mem_singleton,hg]
    constructor
    ·intro h;exact ⟨.inl h.1,h.2⟩
    ·rintro ⟨h1 | rfl,h2⟩
     ·exact ⟨h1,h2⟩
     ·exact absurd h2 h0
   ·simp only [List.mem_append,List.mem_singleton,hq]
    constructor
    ·rintro (h | rfl)
     ·exact ⟨.inl h.1,h.2⟩
     ·exact ⟨.inr rfl,h1⟩
    ·rintro ⟨h3 | h3,h2⟩
     ·exact .inl ⟨h3,h2⟩
     ·exact .inr h3
   ·simp only [List.mem_append,List.mem_singleton,hd]
    constructor
    ·intro h;exact ⟨.inl h.1,h.2⟩
    ·rintro ⟨h3 | rfl,h2⟩
     ·exact ⟨h3,h2⟩
     ·exact absurd h1 h2.2
  ·rw [if_neg h1] at hb ⊢
   refine ⟨hb,fun x=>?_,fun x=>?_,fun x=>?_,by simp only [List.length_append,List.length_cons,List.length_nil];omega⟩
   ·simp only [List.mem_append,List.mem_singleton,hg]
    constructor
    ·intro h;exact ⟨.inl h.1,h.2⟩
    ·rintro ⟨h1 | rfl,h2⟩
     ·exact ⟨h1,h2⟩
     ·exact absurd h2 h0
   ·simp only [List.mem_append,List.mem_singleton,hq]
    constructor
    ·intro h;exact ⟨.inl h.1,h.2⟩
    ·rintro ⟨h3 | rfl,h2⟩
     ·exact ⟨h3,h2⟩
     ·exact absurd h2 h1
   ·simp only [List.mem_append,List.mem_singleton,hd]
    constructor
    ·rintro (h | rfl)
     ·exact ⟨.inl h.1,h.2⟩
     ·exact ⟨.inr rfl,h0,h1⟩
    ·rintro ⟨h3 | h3,h2⟩
     ·exact .inl ⟨h3,h2⟩
     ·exact .inr h3
theorem ZlR (l:List Zc):ZrU l (l.foldl ZeI (false,[],[],[])):=by
 have key:∀ k,k≤l.length→ZrU (l.take k) ((l.take k).foldl ZeI (false,[],[],[])):=by
  intro k
  induction k with
  | zero=>intro _;exact ⟨rfl,by simp,by simp,by simp,rfl⟩
  | succ k ih =>
    intro hk
    rw [ZH Zb (show k < l.length by omega),List.foldl_append]
    exact ZoZ (ih (by omega))
 have:=key l.length (Nat.le_refl _)
 rwa [List.take_length] at this
theorem Zoq (a b:Zc):Za9 a b=1∨Za9 a b=-1∨Za9 a b=0:=by
 unfold Za9
 split
 ·exact .inl rfl
 ·split
  ·exact .inr (.inl rfl)
  ·exact .inr (.inr rfl)
theorem ZmC (out:List Zc) (d c:Zc):ZcY (out++[d]) c=ZcY out c++[if d.2.2.1=c.2.2.1 then ZgC d c.2.2.2 else d]:=by simp [ZcY]
theorem Zmt (out:List Zc) (d c:Zc):ZfA (out++[d]) c=(ZfA out c||decide (d.2.2.1=c.2.2.1)):=by simp [ZfA]
theorem ZqB {out:List Zc} {c:Zc} (h:ZfA out c=false):ZcY out c=out:=by
 unfold ZcY
 conv=>rhs;rw [← List.map_id out]
 refine List.map_congr_left fun d hd=>?_
 have:=List.any_eq_false.1 h d hd
 simp only [decide_eq_true_eq] at this
 exact if_neg this
theorem Zjv (out:List Zc) (c:Zc):(ZcY out c).length=out.length:=by simp [ZcY]
theorem Zr4 {α:Type} {u out:List α} {d:α} {j:Nat} (h:u.length=j):(u++out.drop j).getD j d=out.getD j d:=by
 rw [List.getD_eq_getElem?_getD,List.getElem?_append_right (by omega),h,Nat.sub_self,List.getElem?_drop,Nat.add_zero,← List.getD_eq_getElem?_getD]
theorem Zt1 {α:Type} {u out:List α} {j:Nat} (h:u.length=j) (hj:j≤out.length):(u++out.drop j).length=out.length:=by
 rw [List.length_append,List.length_drop,h];omega
theorem ZU.spec (p:List Zc) (hp:ZU.pre (p,())):ZU.wp p (fun r=>r=ZU.fn (p,())):=by
 obtain ⟨hpB,hdim⟩:ZsW p:=hp
 obtain ⟨n,hn,hd⟩:∃ n,n≤1048576∧ZdJ p n:=by
  cases p with
  | nil=>exact ⟨0,by omega,by intro c hc;simp at hc⟩
  | cons c p =>
    obtain ⟨n,hd⟩:=hdim
    exact ⟨n,by have h1:=hd c (by simp);have h2:=(hpB.2 c (by simp)).2.1;omega,hd⟩
 have hl:=hpB.1
 have hQ:ZU.fn (p,())=ZaH p:=rfl
 simp only [ZU.wp,hQ,ZF.fn,Z5.fn,ZA.fn,ZL.fn]
 refine Lp.foldO p Zb ZqK (false,[],[],[]) (by omega) ?_ ?_
 ·rintro i ⟨bad,A,B,D⟩ R e e2 hf ht hR1 hR2
  have hb:=hpB.2 _ (Zl (d:=Zb) e)
  have hlen:A.length+B.length+D.length≤i:=by
   rw [Zeq] at ht
   split at ht
   ·cases ht
   ·have:=(ZlR (Zbv (p.take i))).len
    rw [Option.some.inj ht] at this
    simp only at this
    have h3:=List.length_filter_le (fun r:Zc×Int=>decide (r.2=0)) ((p.take i).map Zbm)
    have h4:(Zbv (p.take i)).length≤(p.take i).length:=by simp only [Zbv,List.length_map] at *;omega
    rw [List.length_take] at h4
    omega
  simp only [decide_eq_true e2,Int.toNat_natCast,cond_true]
  refine ⟨⟨by omega,by omega⟩,hb,?_⟩
  have hst:=ZoV (p.getD i Zb)
  have hps:ZqK (bad,A,B,D) (p.getD i Zb)=if (Zbm (p.getD i Zb)).2 < 0 then none else if (Zbm (p.getD i Zb)).2=0 then some (ZeI (bad,A,B,D) (Zbm (p.getD i Zb)).1) else some (bad,A,B,D):=rfl
  rw [hps] at hR1 hR2
  generalize hr:Zbm (p.getD i Zb)=r at *
  obtain ⟨r,s⟩:=r
  simp only at hst hR1 hR2
  rcases hst with rfl | rfl | rfl
  ·simp only [show ((0:Int) == -1)=false from rfl,show ((0:Int) == 1)=false from rfl,cond_false]
   rw [if_neg (by omega),if_pos rfl] at hR1
   refine ⟨fun h=>⟨h,trivial⟩,fun h=>⟨h,trivial⟩,fun h=>by rw [h];rfl,?_⟩
   by_cases h0:r.1=0
   ·have hpt:ZeI (bad,A,B,D) r=(bad||!Zf r,A++[r],B,D):=by simp [ZeI,h0]
    simp only [h0,beq_self_eq_true,cond_true]
    rw [hpt] at hR1
    refine ⟨⟨by simp;omega,by simp;omega⟩,hf,?_⟩
    have e0:(((0:Int),r.2.1,r.2.2):Zc)=r:=by rw [← h0]
    rw [e0]
    exact hR1 _ rfl
   ·simp only [beq_eq_false_iff_ne.2 h0,cond_false]
    by_cases h1:r.1=1
    ·have hpt:ZeI (bad,A,B,D) r=(bad||!Zf r,A,B++[r],D):=by simp [ZeI,h1]
     simp only [h1,beq_self_eq_true,cond_true]
     rw [hpt] at hR1
     refine ⟨⟨by simp;omega,by simp;omega⟩,hf,?_⟩
     have e1:(((1:Int),r.2.1,r.2.2):Zc)=r:=by rw [← h1]
     rw [e1]
     exact hR1 _ rfl
    ·have hpt:ZeI (bad,A,B,D) r=(bad||!Zf r,A,B,D++[r]):=by simp [ZeI,h0,h1]
     simp only [beq_eq_false_iff_ne.2 h1,cond_false]
     rw [hpt] at hR1
     exact ⟨⟨by simp;omega,by simp;omega⟩,hf,hR1 _ rfl⟩
  ·simp only [show ((1:Int) == -1)=false from rfl,beq_self_eq_true,cond_false,cond_true]
   exact ⟨hf,hR1 _ rfl⟩
  ·simp only [beq_self_eq_true,cond_true]
   have:=hR2 rfl
   rw [Zeq] at this
   rw [ZbN]
   cases hv:ZaL p with
   | true=>rfl
   | false=>rw [hv] at this;cases this
 rintro ⟨bad,A,B,D⟩ R hraws
 rw [Zeq] at hraws
 have hv:ZaL p=false:=by
  cases h:ZaL p with
  | true=>rw [h] at hraws;cases hraws
  | false=>rfl
 rw [hv] at hraws
 simp only [Bool.false_eq_true,if_false,Option.some.injEq] at hraws
 have hpart:=ZlR (Zbv p)
 rw [hraws] at hpart
 clear hraws
 obtain ⟨hbad,hA,hB,hD,hlen⟩:=hpart
 simp only at hbad hA hB hD hlen
 obtain ⟨hs1,hs2⟩:=Zdf hpB hd hv
 have hMk:=Zii hpB hd
 have hlB:=Zn1 hpB
 rw [← hbad] at hs2
 generalize Zbv p=l at *
 generalize ZaH p=T at *
 have hll:=hlB.1
 have hlm:∀ c∈l,c.2.2.1.length=n∧Zcv c.2.2.1∧ZeP c.2.2.2:=fun c hc=>⟨(hMk c hc).1.1,Zco (hlB.2 c hc).2,(hlB.2 c hc).2.2.2⟩
 simp only [Int.lt_irrefl,decide_false,cond_false]
 have hAM:∀ c∈A,Mk n c∧c.1=0:=fun c hc=>⟨hMk c ((hA c).1 hc).1,((hA c).1 hc).2⟩
 refine Lp.iter A.length (fun i y=>∃ out,y=((i:Int),out)∧(∀ x,x∈out↔Lm (A.take i) x)∧out.length≤i) ⟨[],rfl,by simp [Lm],by simp⟩ ?_
 rintro i y hile ⟨out,rfl,hout,hol⟩ R hR
 by_cases e:i < A.length
 ·have hcm:=Zl (d:=Zb) e
  have hts:=ZH Zb e
  obtain ⟨hcM,hc0⟩:=hAM _ hcm
  have hcl:=hlm _ ((hA _).1 hcm).1
  have hoA:∀ d∈out,d.2.2.1.length=n:=fun d hd=>(hAM d (List.mem_of_mem_take ((hout d).1 hd).1)).1.1.1
  have hnew:=ZlA (fun d hd=>hAM d (List.mem_of_mem_take hd)) hcM hc0 hout
  rw [← hts] at hnew
  simp only [decide_eq_true (show (i:Int) < (A.length:Int) by omega),Int.toNat_natCast,cond_true]
  refine ⟨⟨by omega,by omega⟩,e,?_⟩
  refine Lp.iter out.length (fun j y=>y=((j:Int),ZfA (out.take j) (A.getD i Zb),ZcY (out.take j) (A.getD i Zb)++out.drop j)) (by simp [ZfA,ZcY]) ?_
  rintro j y hjle rfl R' hR'
  have hml:(ZcY (out.take j) (A.getD i Zb)).length=j:=by rw [Zjv];simp;omega
  by_cases e2:j < out.length
  ·have hts2:=ZH Zb e2
   have hget:=Zr4 (d:=Zb) (out:=out) hml
   have hlen2:=Zt1 (out:=out) hml hjle
   have hdl:=hoA _ (Zl (d:=Zb) e2)
   simp only [decide_eq_true (show (j:Int) < (out.length:Int) by omega),Int.toNat_natCast,cond_true,hget,hlen2]
   refine ⟨⟨by omega,by omega⟩,e2,⟨hdl.trans hcl.1.symm,by show (out.getD j Zb).2.2.1.length≤_;omega,hcl.2.1⟩,?_⟩
   have hnext:=hR' e2
   rw [hts2,Zmt,ZmC] at hnext
   by_cases h1:(out.getD j Zb).2.2.1=(A.getD i Zb).2.2.1
   ·rw [Zdh.2 h1]
    rw [if_pos h1,decide_eq_true h1,Bool.or_true] at hnext
    refine ⟨⟨by omega,by omega⟩,e2,⟨by omega,by omega⟩,e2,⟨by omega,by omega⟩,hnext _ ?_⟩
    have hset:(ZcY (out.take j) (A.getD i Zb)++out.drop j).set j (ZgC (out.getD j Zb) (A.getD i Zb).2.2.2)=ZcY (out.take j) (A.getD i Zb)++[ZgC (out.getD j Zb) (A.getD i Zb).2.2.2]++out.drop (j+1):=by
     rw [List.set_append_right _ _ (by omega),hml,Nat.sub_self,List.drop_eq_getElem_cons e2,List.set_cons_zero,List.append_assoc];rfl
    exact congrArg (fun z=>((j:Int)+1,true,z)) hset
   ·have hs0:Za9 (out.getD j Zb) (A.getD i Zb)≠1:=fun h=>h1 (Zdh.1 h)
    rw [beq_eq_false_iff_ne.2 hs0]
    rw [if_neg h1,decide_eq_false h1,Bool.or_false] at hnext
    refine ⟨⟨by omega,by omega⟩,hnext _ ?_⟩
    rw [List.append_assoc,List.singleton_append,ZT e2,← List.drop_eq_getElem_cons e2]
    rfl
  ·have:j=out.length:=by omega
   subst this
   simp only [Int.lt_irrefl,decide_false,cond_false,List.take_length,List.drop_length,List.append_nil]
   unfold ZkM at hnew
   cases hh:ZfA out (A.getD i Zb) with
   | true =>
     rw [hh] at hnew
     simp only [Bool.not_true,cond_false]
     refine ⟨⟨by omega,by omega⟩,hR e _ ⟨_,rfl,hnew,by rw [Zjv];omega⟩⟩
   | false =>
     rw [hh] at hnew
     simp only [Bool.not_false,cond_true,ZqB hh]
     exact ⟨⟨by simp;omega,by simp;omega⟩,⟨by omega,by omega⟩,hR e _ ⟨_,rfl,hnew,by simp;omega⟩⟩
 have hiA:i=A.length:=by omega
 subst hiA
 clear hR hile e
 simp only [Int.lt_irrefl,decide_false,cond_false,Int.toNat_natCast]
 rw [List.take_length] at hout
 have hGm:∀ x,x∈out↔Lm l x∧x.1=0:=fun x=>by
  rw [hout]
  constructor
  ·intro h
   have h0:x.1=0:=((hA x).1 h.1).2
   refine ⟨⟨((hA x).1 h.1).1,fun _ d hd hd0 hd1=>h.2 h0 d ((hA d).2 ⟨hd,hd0⟩) hd0 hd1⟩,h0⟩
  ·rintro ⟨h,h0⟩
   exact ⟨(hA x).2 ⟨h.1,h0⟩,fun _ d hd hd0 hd1=>h.2 h0 d ((hA d).1 hd).1 hd0 hd1⟩
 clear hout
 generalize out=G at *
 have hGl:G.length≤1048576:=by omega
 have hGi:∀ k,k < G.length→Mk n (G.getD k Zb)∧(G.getD k Zb).1=0∧Lm l (G.getD k Zb)∧(G.getD k Zb).2.2.1.length=n∧Zcv (G.getD k Zb).2.2.1∧ZeP (G.getD k Zb).2.2.2∧condB (G.getD k Zb):=fun k hk=>by
  have h1:=(hGm _).1 (Zl (d:=Zb) hk)
  have h2:=hlm _ h1.1.1
  exact ⟨hMk _ h1.1.1,h1.2,h1.1,h2.1,h2.2.1,h2.2.2,hlB.2 _ h1.1.1⟩
 refine ⟨⟨by omega,by omega,by omega,by omega⟩,?_⟩
 have hNN:∀ i,i≤G.length→i*G.length≤1048576*1048576:=fun i hi=>Nat.mul_le_mul (by omega) hGl
 refine Lp.iter G.length (fun i y=>∃ E gone,y=((i:Int),E,gone)∧ZeJ G B i (i+1) E gone∧E.length≤B.length+i*G.length) ⟨B,_,rfl,ZeJ.nil G B,by simp⟩ ?_
 rintro i y hile ⟨E,gone,rfl,hI,hEl⟩ R hR
 by_cases e:i < G.length
 ·obtain ⟨hiM,hi0,hiL,hin,hii,hik,hib⟩:=hGi i e
  simp only [decide_eq_true (show (i:Int) < (G.length:Int) by omega),Int.toNat_natCast,cond_true]
  refine ⟨⟨by omega,by omega⟩,e,⟨by omega,by omega⟩,?_⟩
  refine Lp.iter (G.length - (i+1)) (fun m y=>∃ E' gone',y=((i:Int)+1+m,E',gone')∧ZeJ G B i (i+1+m) E' gone'∧E'.length≤B.length+i*G.length+m) ⟨E,gone,by simp,hI,by omega⟩ ?_
  rintro m y hmle ⟨E',gone',rfl,hI',hEl'⟩ R' hR'
  have hNi:=hNN i (by omega)
  by_cases e2:m < G.length - (i+1)
  ·have ej:i+1+m < G.length:=by omega
   obtain ⟨hjM,hj0,hjL,hjn,hji,hjk,hjb⟩:=hGi (i+1+m) ej
   have htn:((i:Int)+1+m).toNat=i+1+m:=by omega
   have hgl:=hI'.gl
   simp only [decide_eq_true (show (i:Int)+1+m < (G.length:Int) by omega),htn,cond_true]
   unfold ZeP at hik hjk
   refine ⟨⟨by omega,by omega⟩,ej,⟨hin.trans hjn.symm,by show (G.getD i Zb).2.2.1.length≤_;omega,hji⟩,?_⟩
   by_cases hs:Za9 (G.getD i Zb) (G.getD (i+1+m) Zb)=-1
   ·simp only [hs,bne_self_eq_false,cond_false]
    refine ⟨⟨by omega,by omega⟩,?_⟩
    have hvoid:(G.getD i Zb).2.2.2+(G.getD (i+1+m) Zb).2.2.2 < 0→T=([],true,0):=fun h=>hs1 (.inl ⟨_,_,hiL,hjL,hi0,hj0,(Zfm (hiM.gcd hi0)).1 hs,h⟩)
    by_cases h1:(G.getD i Zb).2.2.2+(G.getD (i+1+m) Zb).2.2.2 < 0
    ·simp only [decide_eq_true h1,cond_true]
     exact (hvoid h1).symm
    ·simp only [decide_eq_false h1,cond_false]
     refine ⟨⟨by omega,by omega⟩,?_⟩
     by_cases h2:(G.getD i Zb).2.2.2+(G.getD (i+1+m) Zb).2.2.2=0
     ·simp only [h2,beq_self_eq_true,cond_true]
      have hput:=hI'.put (by omega) ej ⟨hs,h2⟩
      refine ⟨⟨by omega,by omega⟩,by omega,⟨by omega,by simp;omega⟩,by simp;omega,⟨.inr (.inl rfl),hib.2⟩,⟨by simp;omega,by simp;omega⟩,⟨by omega,by omega⟩,hR' e2 _ ⟨_,_,?_,hput,by simp;omega⟩⟩
      exact congrArg (fun z:Int=>(z,E'++[Zkg (G.getD i Zb)],(gone'.set i true).set (i+1+m) true)) (by omega)
     ·simp only [beq_eq_false_iff_ne.2 h2,cond_false]
      have hskip:=hI'.skip (by omega) ej fun _=>by omega
      refine ⟨⟨by omega,by omega⟩,hR' e2 _ ⟨_,_,?_,hskip,by omega⟩⟩
      exact congrArg (fun z:Int=>(z,E',gone')) (by omega)
   ·simp only [bne_iff_ne.2 hs,cond_true]
    have hskip:=hI'.skip (by omega) ej fun h=>absurd h hs
    refine ⟨⟨by omega,by omega⟩,hR' e2 _ ⟨_,_,?_,hskip,by omega⟩⟩
    exact congrArg (fun z:Int=>(z,E',gone')) (by omega)
  ·have hm:i+1+m=G.length:=by omega
   rw [hm] at hI'
   simp only [decide_eq_false (show ¬ (i:Int)+1+m < (G.length:Int) by omega),cond_false]
   refine ⟨⟨by omega,by omega⟩,hR e _ ⟨_,_,rfl,hI'.row,?_⟩⟩
   rw [Nat.succ_mul];omega
 have hiG:i=G.length:=by omega
 subst hiG
 clear hR hile e
 simp only [Int.lt_irrefl,decide_false,cond_false,Int.toNat_natCast]
 have hP:=hI.done hMk hGm hB
 have hNi:=hNN G.length (Nat.le_refl _)
 have hEB:E.length≤1048576+1099511627776:=by omega
 clear hI hEl
 have hEi:∀ k,k < E.length→Mk n (E.getD k Zb)∧(E.getD k Zb).1=1∧MM (Lm l) (E.getD k Zb)∧(E.getD k Zb).2.2.1.length=n∧Zcv (E.getD k Zb).2.2.1∧ZeP (E.getD k Zb).2.2.2:=fun k hk=>by
  have h1:=(hP.ee _).1 (Zl (d:=Zb) hk)
  have h3:Mk n (E.getD k Zb)∧condB (E.getD k Zb):=by
   rcases h1.1 with ⟨h2,_⟩ | ⟨c,hc,c0,_,h2⟩
   ·exact ⟨hMk _ h2.1,hlB.2 _ h2.1⟩
   ·rw [h2];exact ⟨(ZcK (hMk c hc.1) c0).1,ZuU (hlB.2 c hc.1).2⟩
  exact ⟨h3.1,h1.2,h1.1,h3.1.1.1,Zco h3.2.2,h3.2.2.2.2⟩
 refine Lp.iter E.length (fun i y=>∃ gone',y=((i:Int),gone')∧EqI G E gone i gone') ⟨gone,rfl,EqI.nil hP.gl⟩ ?_
 rintro i y hile ⟨gone1,rfl,hI⟩ R hR
 by_cases e:i < E.length
 ·obtain ⟨hiM,hi1,hiL,hin,hii,hik⟩:=hEi i e
  have hgl:=hI.gl
  simp only [decide_eq_true (show (i:Int) < (E.length:Int) by omega),Int.toNat_natCast,cond_true]
  refine ⟨⟨by omega,by omega⟩,e,⟨by omega,by omega⟩,?_⟩
  refine Lp.iter i (fun j y=>y=(j:Int)∧∀ a,a < j→(E.getD i Zb).2.2.1=(E.getD a Zb).2.2.1→(E.getD i Zb).2.2.2=(E.getD a Zb).2.2.2) ⟨rfl,fun a ha=>absurd ha (by omega)⟩ ?_
  rintro j y hjle ⟨rfl,hj⟩ R2 hR2
  by_cases e2:j < i
  ·obtain ⟨hjM,hj1,hjL,hjn,hji,hjk⟩:=hEi j (by omega)
   simp only [decide_eq_true (show (j:Int) < (i:Int) by omega),Int.toNat_natCast,cond_true,Nat.zero_add]
   refine ⟨⟨by omega,by omega,by omega⟩,by omega,⟨hin.trans hjn.symm,by show (E.getD i Zb).2.2.1.length≤_;omega,hji⟩,fun h=>⟨h,trivial⟩,fun h=>⟨h,trivial⟩,fun h=>⟨h,trivial⟩,fun h=>⟨h,trivial⟩,fun h=>⟨h,h,trivial⟩,fun h=>h,?_⟩
   by_cases hs:(E.getD i Zb).2.2.1=(E.getD j Zb).2.2.1
   ·rw [Zdh.2 hs]
    by_cases hk:(E.getD i Zb).2.2.2=(E.getD j Zb).2.2.2
    ·simp only [hk,bne_self_eq_false,Bool.and_false,cond_false]
     refine ⟨⟨by omega,by omega⟩,hR2 e2 _ ⟨rfl,fun a ha h=>?_⟩⟩
     by_cases haj:a=j
     ·subst haj;exact hk
     ·exact hj a (by omega) h
    ·simp only [bne_iff_ne.2 hk,beq_self_eq_true,Bool.and_true,cond_true]
     exact (hs1 (.inr (.inl ⟨_,_,hiL,hjL,hi1,hj1,hs,hk⟩))).symm
   ·have hs0:Za9 (E.getD i Zb) (E.getD j Zb)≠1:=fun h=>hs (Zdh.1 h)
    simp only [beq_eq_false_iff_ne.2 hs0,Bool.false_and,cond_false]
    refine ⟨⟨by omega,by omega⟩,hR2 e2 _ ⟨rfl,fun a ha h=>?_⟩⟩
    by_cases haj:a=j
    ·subst haj;exact absurd h hs
    ·exact hj a (by omega) h
  ·have hji:j=i:=by omega
   subst hji
   simp only [Int.lt_irrefl,decide_false,cond_false]
   refine Lp.iter G.length (fun k y=>∃ gone',y=((k:Int),gone')∧EqR G E gone j k gone1 gone') ⟨gone1,rfl,EqR.nil hgl⟩ ?_
   rintro k y hkle ⟨gone',rfl,hr⟩ R3 hR3
   have hgl':=hr.gl
   by_cases e3:k < G.length
   ·obtain ⟨hkM,hk0,hkL,hkn,hki,hkk,hkb⟩:=hGi k e3
    simp only [decide_eq_true (show (k:Int) < (G.length:Int) by omega),Int.toNat_natCast,cond_true]
    refine ⟨⟨by omega,by omega⟩,e3,⟨by omega,by omega⟩,by omega,fun h=>⟨h,h,⟨hin.trans hkn.symm,by show (E.getD j Zb).2.2.1.length≤_;omega,hki⟩⟩,fun h=>⟨h,trivial⟩,fun h=>by rw [h];rfl,?_⟩
    have hEM:∀ a,a≤j→Mk n (E.getD a Zb)∧(E.getD a Zb).1=1:=fun a ha=>⟨(hEi a (by omega)).1,(hEi a (by omega)).2.1⟩
    by_cases hskip:gone'.getD k false=true∨Za9 (E.getD j Zb) (G.getD k Zb)=0
    ·have hb:(gone'.getD k false||(Za9 (E.getD j Zb) (G.getD k Zb) == 0))=true:=by
      rcases hskip with h | h
      ·rw [h,Bool.true_or]
      ·rw [h,beq_self_eq_true,Bool.or_true]
     rw [hb]
     exact ⟨⟨by omega,by omega⟩,hR3 e3 _ ⟨_,rfl,EqR.skip hEM hI hj hr e3 hskip⟩⟩
    ·rw [not_or] at hskip
     have hg0:gone'.getD k false=false:=by simpa using hskip.1
     simp only [hg0,beq_eq_false_iff_ne.2 hskip.2,Bool.or_self,cond_false]
     unfold ZeP at hik hkk
     have hsv:=Zoq (E.getD j Zb) (G.getD k Zb)
     have hmul:∀ s:Int,(s=1∨s=-1∨s=0)→Zw .i64 (s*(E.getD j Zb).2.2.2)∧Zw .i64 ((G.getD k Zb).2.2.2 - s*(E.getD j Zb).2.2.2):=fun s hs=>by
      rcases hs with rfl | rfl | rfl
      ·exact ⟨⟨by omega,by omega⟩,⟨by omega,by omega⟩⟩
      ·exact ⟨⟨by omega,by omega⟩,⟨by omega,by omega⟩⟩
      ·exact ⟨⟨by omega,by omega⟩,⟨by omega,by omega⟩⟩
     refine ⟨⟨hin.trans hkn.symm,by show (E.getD j Zb).2.2.1.length≤_;omega,hki⟩,(hmul _ hsv).1,(hmul _ hsv).2,?_⟩
     have hng:gone.getD k false=false∧∀ a,a < j→Za9 (E.getD a Zb) (G.getD k Zb)=0:=by
      have h1:¬ (gone1.getD k false=true):=fun h=>by
       have:=(hr.gg k e3).2 (.inl h)
       rw [hg0] at this;cases this
      have h2:¬ (gone.getD k false=true∨∃ a,a < j∧Za9 (E.getD a Zb) (G.getD k Zb)≠0):=fun h=>h1 ((hI.gg k e3).2 h)
      rw [not_or] at h2
      refine ⟨by simpa using h2.1,fun a ha=>?_⟩
      rcases Decidable.em (Za9 (E.getD a Zb) (G.getD k Zb)=0) with h3 | h3
      ·exact h3
      ·exact absurd ⟨a,ha,h3⟩ h2.2
     have hkMM:MM (Lm l) (G.getD k Zb):=.inl ⟨hkL,fun _ ho=>by
      have:=(hP.gg k e3).2 ho
      rw [hng.1] at this;cases this⟩
     by_cases hneg:(G.getD k Zb).2.2.2 - Za9 (E.getD j Zb) (G.getD k Zb)*(E.getD j Zb).2.2.2 < 0
     ·simp only [decide_eq_true hneg,cond_true]
      refine (hs1 (.inr (.inr ⟨_,_,hkMM,hiL,hk0,hi1,?_⟩))).symm
      rcases hsv with h1 | h1 | h1
      ·rw [h1] at hneg
       exact .inl ⟨Zdh.1 h1,by omega⟩
      ·rw [h1] at hneg
       have h2:=(Zfm (hiM.1.2.1 (by omega))).1 h1
       exact .inr ⟨by rw [h2,ZcC],by omega⟩
      ·exact absurd h1 hskip.2
     ·simp only [decide_eq_false hneg,cond_false]
      exact ⟨⟨by omega,by omega⟩,by omega,⟨by omega,by omega⟩,hR3 e3 _ ⟨_,rfl,hr.put e3 hskip.2 (by omega) (hiM.1.2.1 (by omega))⟩⟩
   ·have hkG:k=G.length:=by omega
    subst hkG
    simp only [Int.lt_irrefl,decide_false,cond_false]
    exact ⟨⟨by omega,by omega⟩,hR e _ ⟨_,rfl,hI.row hj hr⟩⟩
 have hiE:i=E.length:=by omega
 subst hiE
 clear hR hile e
 simp only [Int.lt_irrefl,decide_false,cond_false]
 have hgl:=hI.gl
 refine Lp.iter G.length (fun i y=>∃ out,y=((i:Int),out)∧(∀ x,x∈out↔x∈E∨∃ k,k < i∧gone1.getD k false=false∧x=G.getD k Zb)∧out.length≤E.length+i) ⟨E,rfl,fun x=>⟨.inl,fun h=>h.elim id fun ⟨k,hk,_⟩=>absurd hk (by omega)⟩,by omega⟩ ?_
 rintro i y hile ⟨out,rfl,hout,hol⟩ R hR
 by_cases e:i < G.length
 ·simp only [decide_eq_true (show (i:Int) < (G.length:Int) by omega),Int.toNat_natCast,cond_true]
  refine ⟨⟨by omega,by omega⟩,e,⟨by omega,by omega⟩,by omega,?_⟩
  cases hg:gone1.getD i false with
  | false =>
    simp only [Bool.not_false,cond_true]
    refine ⟨⟨by simp;omega,by simp;omega⟩,⟨by omega,by omega⟩,hR e _ ⟨_,rfl,fun x=>?_,by simp;omega⟩⟩
    rw [List.mem_append,List.mem_singleton,hout,or_assoc]
    refine or_congr Iff.rfl ⟨?_,?_⟩
    ·rintro (⟨k,hk,h⟩ | rfl)
     ·exact ⟨k,by omega,h⟩
     ·exact ⟨i,by omega,hg,rfl⟩
    ·rintro ⟨k,hk,h1,h2⟩
     rcases Nat.lt_or_ge k i with h3 | h3
     ·exact .inl ⟨k,h3,h1,h2⟩
     ·have:k=i:=by omega
      subst this
      exact .inr h2
  | true =>
    simp only [Bool.not_true,cond_false]
    refine ⟨⟨by omega,by omega⟩,hR e _ ⟨_,rfl,fun x=>?_,by omega⟩⟩
    rw [hout]
    refine or_congr Iff.rfl ⟨?_,?_⟩
    ·rintro ⟨k,hk,h⟩
     exact ⟨k,by omega,h⟩
    ·rintro ⟨k,hk,h1,h2⟩
     rcases Nat.lt_or_ge k i with h3 | h3
     ·exact ⟨k,h3,h1,h2⟩
     ·have:k=i:=by omega
      subst this
      rw [hg] at h1;cases h1
 have hiG:i=G.length:=by omega
 subst hiG
 simp only [Int.lt_irrefl,decide_false,cond_false]
 have hmem:∀ x,x∈out++D↔x∈E∨(∃ k,k < G.length∧gone1.getD k false=false∧x=G.getD k Zb)∨(x∈l∧x.1=2):=fun x=>by
  rw [List.mem_append,hout,or_assoc]
  refine or_congr Iff.rfl (or_congr Iff.rfl ?_)
  rw [hD]
  constructor
  ·rintro ⟨h1,h2,h3⟩
   rcases (hMk x h1).2.1 with h | h | h
   ·exact absurd h h2
   ·exact absurd h h3
   ·exact ⟨h1,h⟩
  ·rintro ⟨h1,h2⟩;exact ⟨h1,by omega,by omega⟩
 obtain ⟨hnv2,hfin⟩:=hI.done hMk hGm hP hmem
 have hT:=hs2 hP.nv hnv2 _ hfin
 have hdims:ZdJ (out++D) n:=fun x hx=>by
  rcases (hmem x).1 hx with h | ⟨k,hk,_,rfl⟩ | ⟨h,_⟩
  ·obtain ⟨k,hk,rfl⟩:=ZbO (d:=Zb) h
   exact (hEi k hk).2.2.2.1
  ·exact (hGi k hk).2.2.2.1
  ·exact (hlm x h).1
 refine ⟨⟨by omega,by omega⟩,⟨by show (out++D).length≤_;simp only [List.length_append];omega,n,hn,hdims⟩,fun h=>⟨h,trivial⟩,fun h=>⟨h,trivial⟩,fun h=>by rw [h];rfl,?_⟩
 rw [hT]
 have e1:decide ((96:Int) < ((ZaX (out++D)).length:Int))=decide (96 < (ZaX (out++D)).length):=decide_eq_decide.2 (by omega)
 rw [e1]
 cases (bad||decide (96 < (ZaX (out++D)).length))<;>rfl
def ZrQ (C:List Int) (i:Nat):List Int:=C.take i++C.drop (i+1)
theorem Zep {α β:Type} {l:List α} {f:α→β} {d:α} {e:β} {i:Nat} (h:i < l.length):(l.map f).getD i e=f (l.getD i d):=by
 simp [List.getD_eq_getElem?_getD,h]
theorem Zsr {C:List Int} {i:Nat} (h:i < C.length):(ZrQ C i).length=C.length - 1:=by unfold ZrQ;simp;omega
theorem Zr7 {C:List Int} {i:Nat} {n:Int} (h:n∈ZrQ C i):n∈C:=by
 unfold ZrQ at h
 rcases List.mem_append.1 h with h | h
 ·exact List.mem_of_mem_take h
 ·exact List.mem_of_mem_drop h
theorem Zqj {C:List Int} {i:Nat} {P:Int→Prop} (h:∀ n∈C,P n) (h0:P 0):P (C.getD i 0):=by
 by_cases e:i < C.length
 ·exact h _ (Zl e)
 ·rw [List.getD_eq_getElem?_getD,List.getElem?_eq_none (by omega)];exact h0
def atC (c:Zc) (x:List Int):Int:=c.2.2.2+Ze7 c.2.2.1 x
theorem Zn3:∀ (C x:List Int),Ze7 (ZbK C) x=-Ze7 C x
 | [],x=>by simp [ZbK,Ze7]
 | n::C,[]=>by simp [ZbK,Ze7]
 | n::C,y::x=>by
   have:=Zn3 C x
   simp only [ZbK] at this
   simp only [ZbK,List.map_cons,Ze7,this,Int.neg_mul];omega
theorem ZnI (g:Int):∀ (C D x:List Int),C.length=D.length→(∀ i,i < C.length→C.getD i 0=g*D.getD i 0)→Ze7 C x=g*Ze7 D x
 | [],[],x,_,_=>by simp [Ze7]
 | [],_::_,_,h,_=>by simp at h
 | _::_,[],_,h,_=>by simp at h
 | n::C,m::D,[],_,_=>by simp [Ze7]
 | n::C,m::D,y::x,h,hi=>by
   have h0:=hi 0 (by simp)
   simp only [List.getD_cons_zero] at h0
   have ih:=ZnI g C D x (by simpa using h) (fun i hi'=>by have:=hi (i+1) (by simpa using hi');simpa using this)
   simp only [Ze7,h0,ih,Int.mul_add,Int.mul_assoc]
theorem ZdV {g:Int} {C:List Int} (h:∀ n∈C,g ∣ n) (x:List Int):Ze7 C x=g*Ze7 (C.map (·.tdiv g)) x:=by
 refine ZnI g C _ x (by simp) fun i hi=>?_
 have hm:C.getD i 0∈C:=Zl hi
 have e:(C.map (·.tdiv g)).getD i 0=(C.getD i 0).tdiv g:=by simp [List.getD_eq_getElem?_getD,hi]
 rw [e,Int.mul_tdiv_cancel' (h _ hm)]
theorem ZkY {C:List Int} (h:∀ n∈C,n=0) (x:List Int):Ze7 C x=0:=by
 have:=ZdV (g:=0) (C:=C) (fun n hn=>by rw [h n hn];exact Int.dvd_refl _) x
 simpa using this
theorem Zm4 (m:Int):∀ (C x:List Int),m ∣ Ze7 C x - Ze7 (C.map (· % m)) x
 | [],x=>by simp [Ze7]
 | n::C,[]=>by simp [Ze7]
 | n::C,y::x=>by
   obtain ⟨k,hk⟩:=Zm4 m C x
   refine ⟨n / m*y+k,?_⟩
   have h1:=Int.mul_ediv_add_emod n m
   simp only [List.map_cons,Ze7]
   have e:n*y=m*(n / m)*y+n % m*y:=by rw [← Int.add_mul,h1]
   rw [e,Int.mul_add,← Int.mul_assoc]
   omega
theorem ZbJ {l:List Int} {n:Int} (h:n∈l):(ZaZ l:Int) ∣ n:=Int.ofNat_dvd_left.2 ((ZfI (l:=l) (g:=0)).2 n h)
theorem Zll {v m:Int}:(v.tmod m == 0)=decide (m ∣ v):=by
 rw [Bool.eq_iff_iff];simp [Int.dvd_iff_tmod_eq_zero]
theorem ZtK (c:Zc) (x:List Int) (h0:c.1=0):((geF c).2=0→isF (geF c).1 x=isF c x)∧(0 < (geF c).2→isF c x=true)∧((geF c).2 < 0→isF c x=false):=by
 have ht:isF c x=decide (0≤atC c x):=by unfold isF Zfs;rw [if_pos h0];rfl
 rw [ht]
 unfold geF
 split
 ·rename_i hg
  have hz:Ze7 c.2.2.1 x=0:=ZkY (Zht hg) x
  have:atC c x=c.2.2.2:=by simp [atC,hz]
  rw [this]
  unfold Zcm
  by_cases hk:0≤c.2.2.2<;>simp [hk]
 ·rename_i hg
  refine ⟨fun _=>?_,fun h=>absurd h (by simp),fun h=>absurd h (by simp)⟩
  have hd:=ZdV (g:=(ZaZ c.2.2.1:Int)) (C:=c.2.2.1) (fun n hn=>ZbJ hn) x
  have hpos:(0:Int) < (ZaZ c.2.2.1:Int):=by omega
  simp only [isF,Zfs,if_true,atC,hd]
  rw [Bool.eq_iff_iff,decide_eq_true_iff,decide_eq_true_iff]
  generalize Ze7 (c.2.2.1.map (·.tdiv (ZaZ c.2.2.1:Int))) x=d
  generalize (ZaZ c.2.2.1:Int)=g at hpos
  generalize c.2.2.2=k
  have h1:-d≤k / g↔-d*g≤k:=Int.le_ediv_iff_mul_le hpos
  rw [Int.neg_mul,Int.mul_comm] at h1
  constructor
  ·intro h;have:=h1.1 (by omega);omega
  ·intro h;have:=h1.2 (by omega);omega
theorem ZtA (c:Zc) (x:List Int) (h1:c.1=1):((eqF c).2=0→isF (eqF c).1 x=isF c x)∧(0 < (eqF c).2→isF c x=true)∧((eqF c).2 < 0→isF c x=false):=by
 have ht:isF c x=(atC c x == 0):=by simp [isF,Zfs,h1,atC]
 rw [ht]
 unfold eqF
 split
 ·rename_i hg
  by_cases hz:ZaZ c.2.2.1=0
  ·have hd:Ze7 c.2.2.1 x=0:=ZkY (Zht hz) x
   have:atC c x=c.2.2.2:=by simp [atC,hd]
   rw [this]
   unfold Zcm
   by_cases hk:c.2.2.2=0<;>simp [hk,hz]
  ·have hm:c.2.2.2.tmod (ZaZ c.2.2.1)≠0:=hg.resolve_left hz
   have hne:atC c x≠0:=fun e=>hm (by
    have hd:=ZdV (g:=(ZaZ c.2.2.1:Int)) (C:=c.2.2.1) (fun n hn=>ZbJ hn) x
    unfold atC at e
    rw [← Int.dvd_iff_tmod_eq_zero]
    exact ⟨-Ze7 (c.2.2.1.map (·.tdiv (ZaZ c.2.2.1:Int))) x,by rw [Int.mul_neg,← hd];omega⟩)
   unfold Zcm
   simp [hz,hne]
 ·rename_i hg
  simp only [not_or,ne_eq,Classical.not_not] at hg
  obtain ⟨hz,hm⟩:=hg
  refine ⟨fun _=>?_,fun h=>absurd h (by simp),fun h=>absurd h (by simp)⟩
  have hs:Za5 c=(ZaZ c.2.2.1:Int)∨Za5 c=-(ZaZ c.2.2.1:Int):=by unfold Za5;split<;>simp
  have hdv:∀ n:Int,(ZaZ c.2.2.1:Int) ∣ n→Za5 c ∣ n:=fun n hn=>by
   rcases hs with e | e<;>rw [e]
   ·exact hn
   ·exact Int.neg_dvd.2 hn
  have hne:Za5 c≠0:=by rcases hs with e | e<;>rw [e]<;>omega
  have hd:=ZdV (g:=Za5 c) (C:=c.2.2.1) (fun n hn=>hdv n (ZbJ hn)) x
  have hk:Za5 c*c.2.2.2.tdiv (Za5 c)=c.2.2.2:=Int.mul_tdiv_cancel' (hdv _ (Int.dvd_iff_tmod_eq_zero.2 hm))
  simp only [isF,Zfs,show ¬ ((1:Int)=0) by omega,if_false,if_true,atC,hd]
  rw [Bool.eq_iff_iff,beq_iff_eq,beq_iff_eq]
  rw [show c.2.2.2+Za5 c*Ze7 (c.2.2.1.map (·.tdiv (Za5 c))) x=Za5 c*(c.2.2.2.tdiv (Za5 c)+Ze7 (c.2.2.1.map (·.tdiv (Za5 c))) x) by rw [Int.mul_add,hk]]
  constructor
  ·intro h;rw [h,Int.mul_zero]
  ·intro h;exact (Int.mul_eq_zero.1 h).resolve_left hne
theorem ZrB (c:Zc) (x:List Int) (h2:c.1=2) (hm:1≤c.2.1):((ZjR c).2=0→isF (ZjR c).1 x=isF c x)∧(0 < (ZjR c).2→isF c x=true)∧((ZjR c).2 < 0→isF c x=false):=by
 have ht:isF c x=decide (c.2.1 ∣ atC c x):=by
  simp only [isF,Zfs,h2,atC,show ¬ ((2:Int)=0) by omega,show ¬ ((2:Int)=1) by omega,if_false]
  exact Zll
 have hmod:c.2.1 ∣ atC c x↔c.2.1 ∣ c.2.2.2 % c.2.1+Ze7 (c.2.2.1.map (· % c.2.1)) x:=by
  obtain ⟨k,hk⟩:=Zm4 c.2.1 c.2.2.1 x
  have e:=Int.mul_ediv_add_emod c.2.2.2 c.2.1
  have:atC c x=(c.2.2.2 % c.2.1+Ze7 (c.2.2.1.map (· % c.2.1)) x)+c.2.1*(c.2.2.2 / c.2.1+k):=by
   unfold atC;rw [Int.mul_add];omega
  rw [this]
  exact Int.dvd_add_left (Int.dvd_mul_right _ _)
 have hgm:(ZbM c:Int) ∣ c.2.1:=ZbJ (l:=c.2.1::c.2.2.1.map (· % c.2.1)) (by simp)
 have hgc:∀ n∈c.2.2.1.map (· % c.2.1),(ZbM c:Int) ∣ n:=fun n hn=>ZbJ (l:=c.2.1::c.2.2.1.map (· % c.2.1)) (by simp only [List.mem_cons];exact .inr hn)
 have hg0:0 < ZbM c:=ZfR hm _
 have hd:=ZdV (g:=(ZbM c:Int)) (C:=c.2.2.1.map (· % c.2.1)) hgc x
 rw [ht]
 unfold ZjR
 split
 ·rename_i hk
  have hn:¬ c.2.1 ∣ atC c x:=fun h=>hk (by
   have h3:=Int.dvd_trans hgm (hmod.1 h)
   rw [← Int.dvd_iff_tmod_eq_zero]
   exact (Int.dvd_add_left (by rw [hd];exact Int.dvd_mul_right _ _)).1 h3)
  simp [Zcm,hn]
 ·rename_i hk
  simp only [ne_eq,Classical.not_not] at hk
  have hk':=Int.dvd_iff_tmod_eq_zero.2 hk
  split
  ·rename_i he
   have hn:c.2.1 ∣ atC c x:=hmod.2 (by
    have hd':c.2.1 ∣ Ze7 (c.2.2.1.map (· % c.2.1)) x:=by rw [hd,← he];exact Int.dvd_mul_right _ _
    exact Int.dvd_add (by have:=hk';rwa [← he] at this) hd')
   simp [Zcm,hn]
  ·refine ⟨fun _=>?_,fun h=>absurd h (by simp),fun h=>absurd h (by simp)⟩
   simp only [isF,Zfs,show ¬ ((2:Int)=0) by omega,show ¬ ((2:Int)=1) by omega,if_false]
   rw [Zll,Bool.eq_iff_iff,decide_eq_true_iff,decide_eq_true_iff,hmod,hd]
   have e1:(ZbM c:Int)*c.2.1.tdiv (ZbM c)=c.2.1:=Int.mul_tdiv_cancel' hgm
   have e2:(ZbM c:Int)*(c.2.2.2 % c.2.1).tdiv (ZbM c)=c.2.2.2 % c.2.1:=Int.mul_tdiv_cancel' hk'
   have hne:(ZbM c:Int)≠0:=by omega
   generalize Ze7 ((c.2.2.1.map (· % c.2.1)).map (·.tdiv (ZbM c:Int))) x=d
   rw [← Int.mul_dvd_mul_iff_left hne,Int.mul_add,e1,e2]
theorem Zg9 {c:Zc} (hb:ZoD c) (x:List Int):((Zbm c).2=0→isF (Zbm c).1 x=isF c x)∧(0 < (Zbm c).2→isF c x=true)∧((Zbm c).2 < 0→isF c x=false):=by
 unfold Zbm
 rcases hb with h | h | ⟨h,h2,_⟩
 ·rw [if_pos h];exact ZtK c x h
 ·rw [if_neg (by omega),if_pos h];exact ZtA c x h
 ·rw [if_neg (by omega),if_neg (by omega)];exact ZrB c x h h2
def inP (p:List Zc) (x:List Int):Bool:=p.all fun c=>isF c x
theorem ZjG {p:List Zc} {x:List Int}:inP p x=true↔∀ c∈p,isF c x=true:=by simp [inP]
theorem Zo5 {p:List Zc} (hb:ZaG p) (x:List Int) (h:ZaL p=true):inP p x=false:=by
 simp only [ZaL,List.any_map,List.any_eq_true,Function.comp_apply,decide_eq_true_iff] at h
 obtain ⟨c,hc,h⟩:=h
 have:=(Zg9 (hb.2 c hc).1 x).2.2 h
 simp only [inP,List.all_eq_false]
 exact ⟨c,hc,by rw [this];simp⟩
theorem Zt8 {p:List Zc} (hb:ZaG p) (x:List Int) (h:ZaL p=false):inP (Zbv p) x=inP p x:=by
 rw [Bool.eq_iff_iff,ZjG,ZjG]
 have hn:∀ c∈p,¬ (Zbm c).2 < 0:=fun c hc hlt=>by
  have:ZaL p=true:=by
   simp only [ZaL,List.any_map,List.any_eq_true,Function.comp_apply,decide_eq_true_iff]
   exact ⟨c,hc,hlt⟩
  rw [h] at this;cases this
 constructor
 ·intro ha c hc
  have hs:=Zg9 (hb.2 c hc).1 x
  rcases Int.lt_trichotomy (Zbm c).2 0 with h0 | h0 | h0
  ·exact absurd h0 (hn c hc)
  ·rw [← hs.1 h0]
   refine ha _ ?_
   simp only [Zbv,List.mem_map,List.mem_filter]
   exact ⟨Zbm c,⟨⟨c,hc,rfl⟩,by simpa using h0⟩,rfl⟩
  ·exact hs.2.1 h0
 ·intro ha c hc
  simp only [Zbv,List.mem_map,List.mem_filter] at hc
  obtain ⟨r,⟨⟨d,hd,rfl⟩,hr⟩,rfl⟩:=hc
  rw [(Zg9 (hb.2 d hd).1 x).1 (by simpa using hr)]
  exact ha d hd
def ZsU (L:Zc→Prop) (x:List Int):Prop:=∀ c,L c→isF c x=true
theorem ZeU {c:Zc} (h:c.1=0) (x:List Int):isF c x=true↔0≤atC c x:=by
 unfold isF Zfs;rw [if_pos h,decide_eq_true_iff];rfl
theorem Zgl {c:Zc} (h:c.1=1) (x:List Int):isF c x=true↔atC c x=0:=by
 unfold isF Zfs;rw [if_neg (by omega),if_pos h,beq_iff_eq];rfl
theorem ZjC (f:Zc→Int):∀ {l:List Zc},l≠[]→∃ c∈l,∀ d∈l,f c≤f d
 | [],h=>absurd rfl h
 | [c],_=>⟨c,by simp,fun d hd=>by simp only [List.mem_singleton] at hd;subst hd;exact Int.le_refl _⟩
 | c::d::l,_=>by
   obtain ⟨e,he,hm⟩:=ZjC f (l:=d::l) (by simp)
   by_cases h:f c≤f e
   ·refine ⟨c,by simp,fun y hy=>?_⟩
    rcases List.mem_cons.1 hy with rfl | hy
    ·exact Int.le_refl _
    ·exact Int.le_trans h (hm y hy)
   ·refine ⟨e,List.mem_cons_of_mem _ he,fun y hy=>?_⟩
    rcases List.mem_cons.1 hy with rfl | hy
    ·omega
    ·exact hm y hy
theorem ZvM {l:List Zc} {x:List Int}:ZsU (Lm l) x↔∀ c∈l,isF c x=true:=by
 refine ⟨fun h d hd=>?_,fun h c hc=>h c hc.1⟩
 by_cases h0:d.1=0
 ·obtain ⟨c,hc,hm⟩:=ZjC (fun c=>c.2.2.2) (l:=l.filter fun c=>decide (c.1=0∧c.2.2.1=d.2.2.1)) (List.ne_nil_of_mem (List.mem_filter.2 ⟨hd,by simp [h0]⟩))
  obtain ⟨hcl,hcp⟩:=List.mem_filter.1 hc
  simp only [decide_eq_true_iff] at hcp
  have hL:Lm l c:=⟨hcl,fun _ e he h1 h2=>hm e (List.mem_filter.2 ⟨he,by simp [h1,h2,hcp.2]⟩)⟩
  have h1:=(ZeU hcp.1 x).1 (h c hL)
  have h2:=hm d (List.mem_filter.2 ⟨hd,by simp [h0]⟩)
  rw [ZeU h0]
  unfold atC at h1 ⊢
  rw [hcp.2] at h1
  omega
 ·exact h d ⟨hd,fun e=>absurd e h0⟩
theorem ZqQ {n:Nat} {c:Zc} (h:Mk n c) (h0:c.1=0) (x:List Int):isF (Zkg c) x=true↔atC c x=0:=by
 have hs:=(Zg9 (c:=(1,0,c.2.2)) (.inr (.inl rfl)) x).1 (by
  have hg:=h.gcd h0
  simp [Zbm,eqF,hg,Int.tmod_one])
 rw [show Zkg c=(Zbm (1,0,c.2.2)).1 from rfl,hs,Zgl rfl]
 rfl
theorem Znm {c d:Zc} (h:d.2.2.1=ZbK c.2.2.1) (x:List Int):atC d x=d.2.2.2+c.2.2.2 - atC c x:=by
 unfold atC;rw [h,Zn3];omega
theorem Zu9 {n:Nat} {L:Zc→Prop} (hm:∀ c,L c→Mk n c) {x:List Int}:ZsU (MM L) x↔ZsU L x:=by
 constructor
 ·intro h c hc
  by_cases hO:c.1=0∧Opp L c
  ·have:=(ZqQ (hm c hc) hO.1 x).1 (h _ (.inr ⟨c,hc,hO.1,hO.2,rfl⟩))
   rw [ZeU hO.1];omega
  ·exact h c (.inl ⟨hc,fun h0 ho=>hO ⟨h0,ho⟩⟩)
 ·rintro h c (⟨hc,_⟩ | ⟨d,hd,h0,⟨e,he,h1,h2,h3⟩,rfl⟩)
  ·exact h c hc
  ·rw [ZqQ (hm d hd) h0]
   have a1:=(ZeU h0 x).1 (h d hd)
   have a2:=(ZeU h1 x).1 (h e he)
   rw [Znm h2] at a2
   omega
theorem Zrn {L:Zc→Prop} {x:List Int} (h:Zgb L):¬ ZsU L x:=fun ha=>by
 obtain ⟨c,d,hc,hd,h0,h1,h2,h3⟩:=h
 have a1:=(ZeU h0 x).1 (ha c hc)
 have a2:=(ZeU h1 x).1 (ha d hd)
 rw [Znm h2] at a2
 omega
theorem ZmP {c d:Zc} (h:d.2.2.1=c.2.2.1) (x:List Int):atC d x=d.2.2.2 - c.2.2.2+atC c x:=by
 unfold atC;rw [h];omega
theorem Zsi {M:Zc→Prop} {x:List Int} (h:Zfj M):¬ ZsU M x:=fun ha=>by
 rcases h with ⟨e,f,he,hf,h1,h2,h3,h4⟩ | ⟨c,e,hc,he,h0,h1,⟨h2,h3⟩ | ⟨h2,h3⟩⟩
 ·have a1:=(Zgl h1 x).1 (ha e he)
  have a2:=(Zgl h2 x).1 (ha f hf)
  rw [ZmP h3] at a1
  omega
 ·have a1:=(ZeU h0 x).1 (ha c hc)
  have a2:=(Zgl h1 x).1 (ha e he)
  rw [ZmP h2] at a2
  omega
 ·have a1:=(ZeU h0 x).1 (ha c hc)
  have a2:=(Zgl h1 x).1 (ha e he)
  rw [Znm h2] at a2
  omega
theorem ZtG {M:Zc→Prop} {x:List Int} (hv:¬ Zfj M):ZsU (ZsE M) x↔ZsU M x:=by
 refine ⟨fun h c hc=>?_,fun h c hc=>h c hc.1⟩
 by_cases hf:ZsE M c
 ·exact h c hf
 ·have h0:c.1=0:=Classical.byContradiction fun h0=>hf ⟨hc,fun e=>absurd e h0⟩
  have:∃ e,M e∧e.1=1∧(e.2.2.1=c.2.2.1∨e.2.2.1=ZbK c.2.2.1):=Classical.byContradiction fun hn=>hf ⟨hc,fun _ e he h1=>⟨fun h2=>hn ⟨e,he,h1,.inl h2⟩,fun h2=>hn ⟨e,he,h1,.inr h2⟩⟩⟩
  obtain ⟨e,he,h1,h2⟩:=this
  have a2:=(Zgl h1 x).1 (h e ⟨he,fun e0=>by omega⟩)
  rw [ZeU h0]
  rcases h2 with h2 | h2
  ·have:¬ c.2.2.2 < e.2.2.2:=fun h3=>hv (.inr ⟨c,e,hc,he,h0,h1,.inl ⟨h2,h3⟩⟩)
   rw [ZmP h2] at a2
   omega
  ·have:¬ c.2.2.2+e.2.2.2 < 0:=fun h3=>hv (.inr ⟨c,e,hc,he,h0,h1,.inr ⟨h2,h3⟩⟩)
   rw [Znm h2] at a2
   omega
theorem Zir {p:List Zc} {n:Nat} (hb:ZaG p) (hd:ZdJ p n) (hv:ZaL p=false) (h1:¬ Zgb (Lm (Zbv p))) (h2:¬ Zfj (MM (Lm (Zbv p)))):∃ m:List Zc,∀ x,x∈m↔ZsE (MM (Lm (Zbv p))) x:=by
 have hl:=Zii hb hd
 have e:(fun x=>x∈Zbf (Zbv p))=Lm (Zbv p):=funext fun x=>propext (Zcy hl x)
 have hL:∀ c∈Zbf (Zbv p),Mk n c:=Zhe (fun d c hd _=>Zqs hd) hl
 have hu:Zvt (Zbf (Zbv p)):=fun c hc d hd h0 h1 h=>Lm.uniq hl ((Zcy hl c).1 hc) ((Zcy hl d).1 hd) h0 h1 h
 obtain ⟨hp1,hp2⟩:=ZlE hL hu
 rw [e] at hp1 hp2
 rcases ZaJ (ZdT (Zbf (Zbv p))) with h3 | ⟨M,h3⟩
 ·exact absurd (hp1 h3) h1
 ·obtain ⟨hnv,hM⟩:=hp2 M h3
  have eM:(fun x=>x∈M)=MM (Lm (Zbv p)):=funext fun x=>propext (hM x)
  have hMk:∀ c∈M,Mk n c:=Zmd (fun c h0 hc=>(ZcK hc h0).1) hL h3
  obtain ⟨hs1,hs2⟩:=ZhO hMk
  rw [eM] at hs1 hs2
  rcases ZaJ (ZbH M) with h4 | ⟨out,h4⟩
  ·exact absurd (hs1 h4) h2
  ·exact ⟨out,(hs2 out h4).2⟩
theorem Zrm {p:List Zc} {n:Nat} (hb:ZaG p) (hd:ZdJ p n) (x:List Int) (h3:(ZaH p).2.2=0):((ZaH p).2.1=true→inP p x=false)∧((ZaH p).2.1=false→inP (ZaH p).1 x=inP p x):=by
 by_cases hv:ZaL p=true
 ·have e:ZaH p=([],true,0):=by have:=ZbN p;rw [hv] at this;simpa using this
  rw [e]
  exact ⟨fun _=>Zo5 hb x hv,fun h=>by cases h⟩
 ·have hv:ZaL p=false:=by simpa using hv
  obtain ⟨s1,s2⟩:=Zdf hb hd hv
  have hl:=Zii hb hd
  have hLm:∀ c,Lm (Zbv p) c→Mk n c:=fun c hc=>hl c hc.1
  have base:ZsU (MM (Lm (Zbv p))) x↔inP p x=true:=by rw [Zu9 hLm,ZvM,← ZjG,Zt8 hb x hv]
  by_cases hw:Zgb (Lm (Zbv p))∨Zfj (MM (Lm (Zbv p)))
  ·rw [s1 hw]
   refine ⟨fun _=>?_,fun h=>(by cases h)⟩
   rw [← Bool.not_eq_true,← base]
   rcases hw with h | h
   ·rw [Zu9 hLm];exact Zrn h
   ·exact Zsi h
  ·have hw1:¬ Zgb (Lm (Zbv p)):=fun h=>hw (.inl h)
   have hw2:¬ Zfj (MM (Lm (Zbv p))):=fun h=>hw (.inr h)
   obtain ⟨m,hm⟩:=Zir hb hd hv hw1 hw2
   have hk3:K3 m:=fun c hc=>(by
    rcases ((hm c).1 hc).1 with ⟨h,_⟩ | ⟨d,h,h0,_,rfl⟩
    ·exact (hLm c h).2.1
    ·exact (ZcK (hLm d h) h0).1.2.1)
   rw [s2 hw1 hw2 m hm] at h3 ⊢
   split at h3
   ·cases h3
   ·rename_i hc
    rw [if_neg hc]
    refine ⟨fun h=>(by cases h),fun _=>?_⟩
    rw [Bool.eq_iff_iff,← base,← ZtG hw2,ZjG]
    constructor
    ·intro h c hc;exact h c ((Zcl hk3 c).2 ((hm c).2 hc))
    ·intro h c hc;exact h c ((hm c).1 ((Zcl hk3 c).1 hc))
def inS (l:List (List Zc)) (x:List Int):Bool:=l.any fun p=>inP p x
theorem Ztg {l:List (List Zc)} {x:List Int}:inS l x=true↔∃ p∈l,inP p x=true:=by simp [inS]
theorem ZoM (a b:List (List Zc)) (x:List Int):inS (a++b) x=(inS a x||inS b x):=by simp [inS]
theorem Zoh {out out':List (List Zc)} {p:List Zc} {n:Nat} (hb:ZaG p) (hd:ZdJ p n) (x:List Int) (h:Zap out p=some out'):inS out' x=(inS out x||inP p x):=by
 unfold Zap at h
 split at h
 ·cases h
 ·rename_i h3
  have h3:(ZaH p).2.2=0:=by simpa using h3
  obtain ⟨t1,t2⟩:=Zrm hb hd x h3
  split at h
  ·rename_i h4
   cases h
   by_cases hv:(ZaH p).2.1=true
   ·rw [t1 hv,Bool.or_false]
   ·have hv:(ZaH p).2.1=false:=by simpa using hv
    have hm:=h4.resolve_left (by rw [hv];simp)
    rw [← t2 hv]
    cases hq:inP (ZaH p).1 x with
    | false=>rw [Bool.or_false]
    | true=>rw [Bool.or_true];exact Ztg.2 ⟨_,hm,hq⟩
  ·rename_i h4
   split at h
   ·cases h
   ·cases h
    have hv:(ZaH p).2.1=false:=by
     cases hv:(ZaH p).2.1 with
     | false=>rfl
     | true=>exact absurd (.inl hv) h4
    rw [ZoM,← t2 hv];simp [inS]
theorem ZpJ {n:Nat} (x:List Int):∀ {l out out':List (List Zc)},(∀ p∈l,ZaG p∧ZdJ p n)→l.foldlM Zap out=some out'→inS out' x=(inS out x||inS l x)
 | [],out,out',_,h=>by cases h;simp [inS]
 | p::l,out,out',hl,h=>by
   rw [List.foldlM_cons] at h
   obtain ⟨o1,h1,h2⟩:=Option.bind_eq_some_iff.1 h
   obtain ⟨hb,hd⟩:=hl p (by simp)
   rw [ZpJ x (fun q hq=>hl q (List.mem_cons_of_mem _ hq)) h2,Zoh hb hd x h1,Bool.or_assoc]
   congr 1
theorem Zs9 {n:Nat} (x:List Int) {l out:List (List Zc)} (hl:∀ p∈l,ZaG p∧ZdJ p n) (h:ZfS l=some out):inS out x=inS l x:=by
 rw [ZpJ x hl h];simp [inS]
theorem Zom {n:Int} {o:Option (List (List Zc))} (h:(Zhx n o).2=0):∃ out,o=some out∧(Zhx n o).1=(n,out):=by
 cases o with
 | none=>simp [Zhx] at h
 | some out=>exact ⟨out,rfl,rfl⟩
theorem ZrP {s:Ze2} (x:List Int) (h:(ZaY s).2=0):inS (ZaY s).1.2 x=inS s.2 x∧(ZaY s).1.1=s.1∧Z1 s=true:=by
 unfold ZaY at h ⊢
 split at h
 ·simp at h
 ·rename_i hv
  have hv:Z1 s=true:=by simpa using hv
  rw [if_neg (by rw [hv];simp)]
  obtain ⟨out,h1,h2⟩:=Zom h
  rw [h2]
  exact ⟨Zs9 x (fun p hp=>Z1.D hv hp) h1,rfl,hv⟩
def PD (n:Nat) (l:List (List Zc)):Prop:=PP l∧∀ p∈l,ZdJ p n
theorem PD.at {n:Nat} {l:List (List Zc)} (h:PD n l) {p:List Zc} (hp:p∈l):ZgI p∧ZdJ p n:=⟨h.1.v hp,h.2 p hp⟩
theorem ZkP {s:Ze2} (h:(ZaY s).2=0):PD s.1.toNat (ZaY s).1.2:=⟨(ZrG h).1,Zot (ZrP [] h).2.2 h⟩
def Nf (c:Zc):Prop:=Zbm c=(c,0)
theorem ZvA {c:Zc} (h0:c.1=0) (h1:c.2.1=0) (hg:ZaZ c.2.2.1=1):Nf c:=by
 obtain ⟨a,b,C,K⟩:=c
 simp only at h0 h1 hg
 subst h0 h1
 unfold Nf Zbm geF
 simp only [hg,if_true]
 simp
theorem ZuO {c:Zc} (h0:c.1=1) (h1:c.2.1=0) (hg:ZaZ c.2.2.1=1) (hf:ZaW c.2.2.1=false):Nf c:=by
 obtain ⟨a,b,C,K⟩:=c
 simp only at h0 h1 hg hf
 subst h0 h1
 have hs:Za5 (1,0,C,K)=1:=by unfold Za5;simp [hf,hg]
 unfold Nf Zbm eqF
 rw [if_neg (by simp),if_pos rfl,hs]
 simp [hg,Int.tmod_one]
theorem Zum {c:Zc} (h0:c.1=2) (hm:2≤c.2.1) (hC:∀ n∈c.2.2.1,0≤n∧n < c.2.1) (hK:0≤c.2.2.2∧c.2.2.2 < c.2.1) (hg:ZaZ (c.2.1::c.2.2.1)=1):Nf c:=by
 obtain ⟨a,M,C,K⟩:=c
 simp only at h0 hm hC hK hg
 subst h0
 have e1:C.map (· % M)=C:=by
  conv=>rhs;rw [← List.map_id C]
  exact List.map_congr_left fun n hn=>Int.emod_eq_of_lt (hC n hn).1 (hC n hn).2
 have e2:K % M=K:=Int.emod_eq_of_lt hK.1 hK.2
 have hd:ZbM (2,M,C,K)=1:=by unfold ZbM;simp only [e1,hg]
 unfold Nf Zbm ZjR
 rw [if_neg (by simp),if_neg (by simp),hd]
 simp only [e1,e2]
 rw [if_neg (by simp [Int.tmod_one]),if_neg (by show ¬ M=((1:Nat):Int);omega)]
 simp
theorem ZnZ {g:Nat}:∀ {l:List Int},ZaZ (l.map fun n=>(g:Int)*n)=g*ZaZ l
 | []=>by simp [ZaZ]
 | n::l=>by
   rw [List.map_cons,ZfO,ZnZ (l:=l),ZfO,Int.natAbs_mul,Int.natAbs_natCast,Nat.gcd_mul_left]
theorem Zu2 {c:Zc} (hb:condB c) (h:(Zbm c).2=0):Nf (Zbm c).1:=by
 obtain ⟨hn,hk1⟩:=Zlw hb h
 obtain ⟨hk,_⟩:=hb
 have hs:∀ b,(Zcm b).2≠0:=fun b=>by cases b<;>simp [Zcm]
 rcases hk with hk | hk | ⟨hk,hm1,hm2⟩
 ·exact ZvA (by omega) (Zk0 h (by omega)) (hn.2.1 (by omega))
 ·refine ZuO (by omega) ?_ (hn.2.1 (by omega)) (hn.2.2 (by omega))
  have hr:Zbm c=eqF c:=by simp [Zbm,hk]
  rw [hr] at h ⊢
  unfold eqF at h ⊢
  split at h
  ·exact absurd h (hs _)
  ·rename_i ha;rw [if_neg ha]
 ·have hr:Zbm c=ZjR c:=by simp [Zbm,hk]
  rw [hr] at h ⊢
  unfold ZjR at h ⊢
  split at h
  ·exact absurd h (hs _)
  split at h
  ·exact absurd h (hs _)
  rename_i ha hb
  rw [if_neg ha,if_neg hb]
  have hgm:(ZbM c:Int) ∣ c.2.1:=ZbJ (l:=c.2.1::c.2.2.1.map (· % c.2.1)) (by simp)
  have hgc:∀ n∈c.2.2.1.map (· % c.2.1),(ZbM c:Int) ∣ n:=fun n hn=>ZbJ (l:=c.2.1::c.2.2.1.map (· % c.2.1)) (by simp only [List.mem_cons];exact .inr hn)
  have hgk:(ZbM c:Int) ∣ c.2.2.2 % c.2.1:=Int.dvd_iff_tmod_eq_zero.2 (by simpa using ha)
  have hg0:0 < ZbM c:=ZfR hm1 _
  obtain ⟨M,hM⟩:=hgm
  have e1:c.2.1.tdiv (ZbM c)=M:=by rw [hM];exact Int.mul_tdiv_cancel_left _ (by omega)
  have hdv:∀ x:Int,(ZbM c:Int) ∣ x→(ZbM c:Int)*x.tdiv (ZbM c)=x:=fun x hx=>Int.mul_tdiv_cancel' hx
  have hMp:0 < M:=by
   rcases Int.lt_or_le 0 M with h | h
   ·exact h
   ·have:(ZbM c:Int)*M≤0:=Int.mul_nonpos_of_nonneg_of_nonpos (by omega) h
    omega
  have hM1:M≠1:=fun e=>hb (by rw [hM,e,Int.mul_one])
  have small:∀ x:Int,0≤x→x < c.2.1→(ZbM c:Int) ∣ x→0≤x.tdiv (ZbM c)∧x.tdiv (ZbM c) < M:=fun x h0 h1 hx=>by
   have hx':=hdv x hx
   refine ⟨Int.tdiv_nonneg h0 (by omega),?_⟩
   rcases Int.lt_or_le (x.tdiv (ZbM c)) M with h | h
   ·exact h
   ·have:=Int.mul_le_mul_of_nonneg_left h (show (0:Int)≤(ZbM c:Int) by omega)
    omega
  have hmod:∀ x:Int,0≤x % c.2.1∧x % c.2.1 < c.2.1:=fun x=>⟨Int.emod_nonneg _ (by omega),Int.emod_lt_of_pos _ (by omega)⟩
  refine Zum rfl (by show 2≤c.2.1.tdiv (ZbM c);rw [e1];omega) (fun n hn=>?_) ?_ ?_
  ·show 0≤n∧n < c.2.1.tdiv (ZbM c)
   rw [e1]
   obtain ⟨x,hx,rfl⟩:=List.mem_map.1 hn
   have hx2:=hgc x hx
   obtain ⟨y,hy,rfl⟩:=List.mem_map.1 hx
   exact small _ (hmod y).1 (hmod y).2 hx2
  ·show 0≤(c.2.2.2 % c.2.1).tdiv (ZbM c)∧(c.2.2.2 % c.2.1).tdiv (ZbM c) < c.2.1.tdiv (ZbM c)
   rw [e1]
   exact small _ (hmod _).1 (hmod _).2 hgk
  ·show ZaZ (c.2.1.tdiv (ZbM c)::(c.2.2.1.map (· % c.2.1)).map (·.tdiv (ZbM c)))=1
   have h1:=ZnZ (g:=ZbM c) (l:=c.2.1.tdiv (ZbM c)::(c.2.2.1.map (· % c.2.1)).map (·.tdiv (ZbM c)))
   have e:(c.2.1.tdiv (ZbM c)::(c.2.2.1.map (· % c.2.1)).map (·.tdiv (ZbM c))).map (fun n=>(ZbM c:Int)*n)=c.2.1::c.2.2.1.map (· % c.2.1):=by
    rw [List.map_cons,e1,← hM,List.map_map]
    congr 1
    conv=>rhs;rw [← List.map_id (c.2.2.1.map (· % c.2.1))]
    exact List.map_congr_left fun n hn=>hdv n (hgc n hn)
   rw [e] at h1
   have h2:ZbM c=ZbM c*ZaZ (c.2.1.tdiv (ZbM c)::(c.2.2.1.map (· % c.2.1)).map (·.tdiv (ZbM c))):=h1
   exact (Nat.eq_of_mul_eq_mul_left hg0 (by rw [Nat.mul_one];exact h2)).symm
theorem ZtY {p:List Zc} (hb:ZaG p) {c:Zc} (h:c∈Zbv p):Nf c:=by
 simp only [Zbv,List.mem_map,List.mem_filter] at h
 obtain ⟨r,⟨⟨d,hd,rfl⟩,hr⟩,rfl⟩:=h
 exact Zu2 (hb.2 d hd) (by simpa using hr)
theorem Zts {n:Nat} {c:Zc} (h:Mk n c) (h0:c.1=0):Nf (Zkg c):=by
 have hk:=ZcK h h0
 refine ZuO hk.2 ?_ (hk.1.1.2.1 (by rw [hk.2];omega)) (hk.1.1.2.2 hk.2)
 have hg:=h.gcd h0
 simp [Zkg,Zbm,eqF,hg,Int.tmod_one]
theorem ZrT {q:List Zc} (h:∀ c∈q,Nf c):ZaL q=false∧Zbv q=q:=by
 have e:q.map Zbm=q.map fun c=>(c,(0:Int)):=List.map_congr_left fun c hc=>h c hc
 constructor
 ·unfold ZaL;rw [e,List.any_map];simp
 ·unfold Zbv
  rw [e,List.filter_eq_self.2 (fun r hr=>by obtain ⟨c,_,rfl⟩:=List.mem_map.1 hr;rfl),List.map_map]
  exact List.map_id q
def Fx (q:List Zc):Prop:=ZaH q=(q,false,0)
theorem Zoo {p:List Zc} {n:Nat} (hb:ZaG p) (hd:ZdJ p n) (h0:(ZaH p).2.2=0) (h1:(ZaH p).2.1=false):Fx (ZaH p).1:=by
 have hv:ZaL p=false:=by
  cases hv:ZaL p with
  | false=>rfl
  | true =>
    have e:ZaH p=([],true,0):=by have:=ZbN p;rw [hv] at this;simpa using this
    rw [e] at h1;cases h1
 have hok:=Znx hb
 have hdq:=Zjj hb hd
 obtain ⟨s1,s2⟩:=Zdf hb hd hv
 have hl:=Zii hb hd
 have hLm:∀ c,Lm (Zbv p) c→Mk n c:=fun c hc=>hl c hc.1
 have hw1:¬ Zgb (Lm (Zbv p)):=fun h=>by rw [s1 (.inl h)] at h1;cases h1
 have hw2:¬ Zfj (MM (Lm (Zbv p))):=fun h=>by rw [s1 (.inr h)] at h1;cases h1
 obtain ⟨m,hm⟩:=Zir hb hd hv hw1 hw2
 have hMM:∀ c,MM (Lm (Zbv p)) c→Mk n c∧Nf c:=fun c hc=>by
  rcases hc with ⟨h,_⟩ | ⟨d,h,hd0,_,rfl⟩
  ·exact ⟨hLm c h,ZtY hb h.1⟩
  ·exact ⟨(ZcK (hLm d h) hd0).1,Zts (hLm d h) hd0⟩
 have hk3:K3 m:=fun c hc=>(hMM c ((hm c).1 hc).1).1.2.1
 have hs:=s2 hw1 hw2 m hm
 have hlen:=ZhB p
 have hq:(ZaH p).1=ZaX m:=by
  rw [hs] at h0 ⊢
  split at h0
  ·cases h0
  ·rename_i hc;rw [if_neg hc]
 generalize (ZaH p).1=q at *
 subst hq
 have hmem:∀ x,x∈ZaX m↔ZsE (MM (Lm (Zbv p))) x:=fun x=>by rw [Zcl hk3,hm]
 have hnf:∀ c∈ZaX m,Nf c:=fun c hc=>(hMM c ((hmem c).1 hc).1).2
 obtain ⟨v2,r2⟩:=ZrT hnf
 have hL:∀ {x},x∈ZaX m→x.1=0→Lm (Zbv p) x∧¬ Opp (Lm (Zbv p)) x:=fun {x} hx h0=>by
  rcases ((hmem x).1 hx).1 with ⟨h,h'⟩ | ⟨d,h,hd0,_,rfl⟩
  ·exact ⟨h,h' h0⟩
  ·have:=(ZcK (hLm d h) hd0).2;omega
 have a1:∀ x,Lm (ZaX m) x↔x∈ZaX m:=fun x=>⟨fun h=>h.1,fun h=>⟨h,fun h0 d hd hd0 he=>by
  have:=Lm.uniq hl (hL h h0).1 (hL hd hd0).1 h0 hd0 he.symm
  rw [this];exact Int.le_refl _⟩⟩
 have a1e:Lm (ZaX m)=(· ∈ ZaX m):=funext fun x=>propext (a1 x)
 have opp:∀ c,c.1=0→c∈ZaX m→¬ Opp (· ∈ ZaX m) c:=fun c h0 hc ⟨d,hd,hd0,h2,h3⟩=>(hL hc h0).2 ⟨d,(hL hd hd0).1,hd0,h2,h3⟩
 have a2:∀ x,MM (· ∈ ZaX m) x↔x∈ZaX m:=fun x=>⟨fun h=>by
  rcases h with ⟨h,_⟩ | ⟨c,hc,h0,ho,_⟩
  ·exact h
  ·exact absurd ho (opp c h0 hc),fun h=>.inl ⟨h,fun h0=>opp x h0 h⟩⟩
 have a2e:MM (· ∈ ZaX m)=(· ∈ ZaX m):=funext fun x=>propext (a2 x)
 have a3:∀ x,ZsE (· ∈ ZaX m) x↔x∈ZaX m:=fun x=>⟨fun h=>h.1,fun h=>⟨h,fun h0 e he h1=>((hmem x).1 h).2 h0 e ((hmem e).1 he).1 h1⟩⟩
 obtain ⟨_,t2⟩:=Zdf hok.B hdq v2
 rw [r2,a1e,a2e] at t2
 have hv1:¬ Zgb (· ∈ ZaX m):=fun ⟨c,d,hc,hd,h0,h1,h2,h3⟩=>hw1 ⟨c,d,(hL hc h0).1,(hL hd h1).1,h0,h1,h2,h3⟩
 have hsub:∀ {x},x∈ZaX m→MM (Lm (Zbv p)) x:=fun {x} hx=>((hmem x).1 hx).1
 have hv2:¬ Zfj (· ∈ ZaX m):=fun h=>by
  rcases h with ⟨e,f,he,hf,h1,h2,h3,h4⟩ | ⟨c,e,hc,he,h0,h1,h2⟩
  ·exact hw2 (.inl ⟨e,f,hsub he,hsub hf,h1,h2,h3,h4⟩)
  ·exact hw2 (.inr ⟨c,e,hsub hc,hsub he,h0,h1,h2⟩)
 have hfin:=t2 hv1 hv2 (ZaX m) (fun x=>(a3 x).symm)
 have hself:ZaX (ZaX m)=ZaX m:=(Zjk (fun c hc=>hk3 c ((Zcl hk3 c).1 hc)) (Zg1 hk3) (fun c=>Iff.rfl)).symm
 unfold Fx
 rw [hfin,hself,if_neg]
 rw [Bool.or_eq_true,decide_eq_true_iff]
 rintro (h | h)
 ·rw [List.any_eq_true] at h
  obtain ⟨c,hc,h⟩:=h
  rw [hok.2 c hc] at h;cases h
 ·omega
def Nm (l:List (List Zc)):Prop:=l.Nodup∧∀ q∈l,Fx q
theorem ZoA {out out':List (List Zc)} {p:List Zc} {n:Nat} (hb:ZaG p) (hd:ZdJ p n) (h:Zap out p=some out') (ho:Nm out):Nm out':=by
 unfold Zap at h
 split at h
 ·cases h
 ·rename_i h3
  split at h
  ·cases h;exact ho
  ·rename_i h4
   split at h
   ·cases h
   ·cases h
    rw [not_or] at h4
    have hf:Fx (ZaH p).1:=Zoo hb hd (by simpa using h3) (by simpa using h4.1)
    refine ⟨List.nodup_append.2 ⟨ho.1,by simp,fun a ha b hb'=>?_⟩,fun q hq=>?_⟩
    ·simp only [List.mem_singleton] at hb'
     subst hb'
     exact fun e=>h4.2 (by rw [← e];exact ha)
    ·rcases List.mem_append.1 hq with h | h
     ·exact ho.2 q h
     ·simp only [List.mem_singleton] at h;subst h;exact hf
theorem Zp7 {n:Nat}:∀ {l out out':List (List Zc)},(∀ p∈l,ZaG p∧ZdJ p n)→l.foldlM Zap out=some out'→Nm out→Nm out'
 | [],out,out',_,h,ho=>by cases h;exact ho
 | p::l,out,out',hl,h,ho=>by
   rw [List.foldlM_cons] at h
   obtain ⟨o1,h1,h2⟩:=Option.bind_eq_some_iff.1 h
   obtain ⟨hb,hd⟩:=hl p (by simp)
   exact Zp7 (fun q hq=>hl q (List.mem_cons_of_mem _ hq)) h2 (ZoA hb hd h1 ho)
theorem Nm.nil:Nm []:=⟨List.nodup_nil,fun q hq=>by cases hq⟩
theorem PD.of_tid {n:Nat} {l out:List (List Zc)} (hl:∀ p∈l,ZaG p∧ZdJ p n) (h:ZfS l=some out):PD n out∧Nm out :=
 ⟨⟨Zmz h PP.nil (fun p hp=>(hl p hp).1),ZhC h (by simp) hl⟩,Zp7 hl h Nm.nil⟩
abbrev Part:=Zc×Int×Lin
abbrev Pc:=Int×List Zc×List Part×Int×List Part×List Part×List Part
abbrev ZbB:Part:=(Zb,0,[],0)
def Zbo (n:Int):Int:=max n (-n)
def Zi (v:Nat) (c:Zc):Int:=c.2.2.1.getD v 0
def ZeG (v:Nat) (c:Zc):Lin:=(ZrQ c.2.2.1 v,c.2.2.2)
def Zej (v:Nat) (c:Zc):Zc:=(c.1,c.2.1,ZeG v c)
def ZaB (v:Nat) (c:Zc):Part:=(c,Zi v c,ZeG v c)
def Zbc {α:Type} (d:α) (l:List α):List (Nat×α):=(List.range l.length).map fun i=>(i,l.getD i d)
abbrev ZE.fn (x:Int×Lin×Int×Lin×Unit):Lin:=Zd4 x.1 x.2.1 x.2.2.1 x.2.2.2.1
abbrev ZE.pre (x:Int×Lin×Int×Lin×Unit):Prop:=ZbL.pre x
abbrev ZY.fn (x:Lin×Int×Unit):Lin:=(x.1.1,x.1.2+x.2.1)
abbrev ZY.pre (x:Lin×Int×Unit):Prop:=ZeT x.1∧-1048576≤x.2.1∧x.2.1≤1048576
abbrev Z7.fn (x:Int×Unit):Int:=Zbo x.1
abbrev Z7.pre (x:Int×Unit):Prop:=ZeP x.1
def ZjD (l:List Int):Nat:=l.foldl (fun m n=>Nat.lcm m n.natAbs) 1
def Zmc (l:List Int):Int×Int:=if (l.any fun n=>decide (n < 1))=true then (0,1) else if 512 < ZjD l then (0,3) else ((ZjD l:Nat),0)
abbrev Zaa.fn (x:Int×Int×Unit):Int:=if (decide ((512:Int) < x.1)||decide ((512:Int) < IntKind.wrap IntKind.u64 x.2.1))=true then 513 else IntKind.wrap IntKind.u64 ((IntKind.wrap IntKind.u64 (Int.tdiv x.1 (ZS.fn (x.1,IntKind.wrap IntKind.u64 x.2.1,()))))*IntKind.wrap IntKind.u64 x.2.1)
abbrev Zaa.pre (x:Int×Int×Unit):Prop:=1≤x.2.1∧x.2.1≤9223372036854775807
abbrev ZG.fn (x:List Int×Unit):Int×Int:=Zmc x.1
abbrev ZG.pre (x:List Int×Unit):Prop:=Zcv x.1
def Zt9 (l:List Int) (st:Int×Int):Int×Int:=(Zbc 0 l).foldl (fun st ia=>if ia.2=0 then st else (if ia.2=1∨ia.2=-1 then max st.1 (ia.1:Int) else st.1,max st.2 (ia.1:Int))) st
def Zf2 (p:List Zc):Int×Int:=p.foldl (fun st c=>if c.1=1 then Zt9 c.2.2.1 st else st) (-1,-1)
def ZiB (p:List Zc) (v:Nat):Nat:=(p.filter fun c=>decide (c.1=0∧0 < Zi v c)).length
def upN (p:List Zc) (v:Nat):Nat:=(p.filter fun c=>decide (c.1=0∧Zi v c < 0)).length
def ZeZ (p:List Zc) (v:Nat):Nat:=ZiB p v*upN p v
def Zc5 (p:List Zc) (n:Nat):Nat:=(List.range n).foldl (fun b v=>if ZeZ p v≤ZeZ p b then v else b) 0
def Zbe (p:List Zc) (n:Int):Int:=if 0≤(Zf2 p).1 then (Zf2 p).1 else if 0≤(Zf2 p).2 then (Zf2 p).2 else (Zc5 p n.toNat:Nat)
def pieceN (p:List Zc) (n:Int):Prop:=p.length≤400∧(∀ c∈p,Zf c=true∧(c.2.2.1.length:Int)=n)∧0≤n∧n≤12
abbrev ZO.fn (x:List Zc×Int×Unit):Int:=Zbe x.1 x.2.1
abbrev ZO.pre (x:List Zc×Int×Unit):Prop:=pieceN x.1 x.2.1
abbrev ZN.fn (x:List Zc×Int×Unit):Int:=Zbe x.1 x.2.1
abbrev ZN.pre (x:List Zc×Int×Unit):Prop:=pieceN x.1 x.2.1
def ZdS (v:Nat) (p:List Zc) (e:Int) (i:Nat):Int :=
 if Zi v (p.getD i Zb)≠0∧(p.getD i Zb).1=1∧(e < 0∨Zbo (Zi v (p.getD i Zb)) < Zbo (Zi v (p.getD e.toNat Zb))) then (i:Int) else e
def eqI (v:Nat) (p:List Zc):Int:=(List.range p.length).foldl (ZdS v p) (-1)
def Zqp (v:Nat) (e c:Zc):Zc:=(c.1,c.2.1*Zbo (Zi v e),Zd4 (Zbo (Zi v e)) (ZeG v c) (Zi v c*(if Zi v e < 0 then 1 else -1)) (ZeG v e))
def Zd6 (v:Nat) (p:List Zc) (i:Nat):List Zc :=
 ((Zbc Zb p).filter fun jc=>decide (jc.1≠i)).map (fun jc=>if Zi v jc.2=0 then Zej v jc.2 else Zqp v (p.getD i Zb) jc.2) ++
   (if 1 < Zbo (Zi v (p.getD i Zb)) then [(2,Zbo (Zi v (p.getD i Zb)),ZeG v (p.getD i Zb))] else [])
def ZbQ (v:Nat) (p:List Zc):List Zc:=(p.filter fun c=>decide (Zi v c=0)).map (Zej v)
def Zz (v:Nat) (p:List Zc):List Zc:=p.filter fun c=>decide (Zi v c≠0)
def ZcR (v:Nat) (p:List Zc):List Zc:=p.filter fun c=>decide (Zi v c≠0∧c.1≠1∧c.1≠2∧0 < Zi v c)
def upP (v:Nat) (p:List Zc):List Zc:=p.filter fun c=>decide (Zi v c≠0∧c.1≠1∧c.1≠2∧¬ 0 < Zi v c)
def ZkS (v:Nat) (p:List Zc):List Zc:=p.filter fun c=>decide (Zi v c≠0∧c.1=2)
def Zi5 (v:Nat) (p:List Zc):Bool:=(ZkS v p).isEmpty&&(ZcR v p).all fun x=>(upP v p).all fun y=>decide (Zi v x=1∨Zi v y=-1)
def Zuy (v:Nat) (x y:Zc):Zc:=(0,0,Zd4 (Zi v x) (ZeG v y) (-Zi v y) (ZeG v x))
def ZjJ (v:Nat) (p:List Zc):List Zc:=ZbQ v p++(ZcR v p).flatMap fun x=>(upP v p).map (Zuy v x)
def Zbz (v:Nat) (p:List Zc):Int×Int:=Zmc ((Zz v p).map fun c=>Zbo (Zi v c))
def ZbV (v:Nat) (l:Int) (c:Zc):Int:=l.tdiv (Zbo (Zi v c))
def Zjd (v:Nat) (p:List Zc) (l:Int):Int×Int:=Zmc (l::((Zz v p).filter fun c=>decide (c.1=2)).map fun c=>c.2.1*ZbV v l c)
def Zo6 (n:Int):Int:=if n < 0 then -1 else 1
def ZiV (v:Nat) (l:Int) (c:Zc):Lin:=((ZeG v c).1.map fun n=>ZbV v l c*n,ZbV v l c*(ZeG v c).2)
def Zvs (v:Nat) (l:Int) (w:Lin) (c:Zc):Zc:=(c.1,c.2.1*ZbV v l c,Zd4 1 (ZiV v l c) (Zo6 (Zi v c)) w)
def ZkL (v:Nat) (p:List Zc) (l:Int) (w:Lin) (all:Bool):List Zc:=ZbQ v p++((Zz v p).filter fun c=>all||decide (c.1=2)).map (Zvs v l w)++[(2,l,w)]
def ZiE (v:Nat) (p:List Zc):Bool:=decide ((ZcR v p).length≤(upP v p).length)
def Zdi (v:Nat) (l:Int) (c:Zc) (low:Bool) (j:Nat):Lin:=if low then ((ZiV v l c).1.map fun n=>-1*n,-1*(ZiV v l c).2+j) else ((ZiV v l c).1,(ZiV v l c).2+-j)
def Zop (v:Nat) (p:List Zc):List Zc:=(Zz v p).filter fun c=>decide (c.1≠2∧decide (0 < Zi v c)=ZiE v p)
def Zdd (v:Nat) (p:List Zc) (n:Nat) (l:Int) (d:Nat):List (List Zc) :=
 if ZcR v p=[]∨upP v p=[] then (List.range d).map fun (j:Nat)=>ZkL v p l (List.replicate n 0,(j:Int)) false
 else (Zop v p).flatMap fun c=>(List.range d).map fun j=>ZkL v p l (Zdi v l c (ZiE v p) j) true
def ZeM (p:List Zc) (n v:Nat):Option (List (List Zc)) :=
 if 0≤eqI v p then some [Zd6 v p (eqI v p).toNat]
 else if ZkS v p=[]∧(ZcR v p=[]∨upP v p=[]) then some [ZbQ v p]
 else if Zi5 v p=true then some [ZjJ v p]
 else if (Zbz v p).2≠0 then none
 else if (Zjd v p (Zbz v p).1).2≠0 then none
 else some (Zdd v p (n - 1) (Zbz v p).1 (Zjd v p (Zbz v p).1).1.toNat)
def ZjK (l:List (List Zc)):List (List Zc)×Int:=match ZfS l with
 | none=>([],3)
 | some out=>(out,0)
def Z6 (p:List Zc) (n v:Int):List (List Zc)×Int:=match ZeM p n.toNat v.toNat with
 | none=>([],3)
 | some l=>ZjK l
abbrev ZI.fn (x:List Zc×Int×Int×Unit):List (List Zc)×Int:=Z6 x.1 x.2.1 x.2.2.1
abbrev ZI.pre (x:List Zc×Int×Int×Unit):Prop:=pieceN x.1 x.2.1∧0≤x.2.2.1∧x.2.2.1 < x.2.1
def Zwl (n:Nat) (c:Zc):Prop:=(-1048576≤c.2.1∧c.2.1≤1048576)∧ZeT c.2.2∧c.2.2.1.length=n
def Zoy (k:Nat) (q:Part):Prop:=(-1048576≤q.1.2.1∧q.1.2.1≤1048576)∧(-1048576≤q.2.1∧q.2.1≤1048576)∧ZeT q.2.2∧q.2.2.1.length=k
def PcB (k:Nat) (x:Pc):Prop:=x.2.1.length≤400∧(x.2.2.1.length≤400∧∀ q∈x.2.2.1,Zoy k q)∧(x.2.2.2.2.1.length≤400∧∀ q∈x.2.2.2.2.1,Zoy k q)∧(x.2.2.2.2.2.1.length≤400∧∀ q∈x.2.2.2.2.2.1,Zoy k q)
def ZsX (e q:Part):Zc:=(q.1.1,Zbo e.2.1*q.1.2.1,Zd4 (Zbo e.2.1) q.2.2 ((if e.2.1 < 0 then 1 else -1)*q.2.1) e.2.2)
def ZdY (x:Pc):List Zc:=x.2.1++((Zbc ZbB x.2.2.1).filter fun jq=>decide ((jq.1:Int)≠x.2.2.2.1)).map (fun jq=>ZsX (x.2.2.1.getD x.2.2.2.1.toNat ZbB) jq.2) ++
 (if 1 < Zbo (x.2.2.1.getD x.2.2.2.1.toNat ZbB).2.1 then [(2,Zbo (x.2.2.1.getD x.2.2.2.1.toNat ZbB).2.1,(x.2.2.1.getD x.2.2.2.1.toNat ZbB).2.2)] else [])
abbrev Zp.fn (x:Pc×Unit):List (List Zc):=[ZdY x.1]
abbrev Zp.pre (x:Pc×Unit):Prop:=(∃ k,PcB k x.1)∧0≤x.1.2.2.2.1∧x.1.2.2.2.1 < (x.1.2.2.1.length:Int)
abbrev Zo.fn (x:Pc×Unit):List (List Zc):=[x.1.2.1++x.1.2.2.2.2.1.flatMap fun l=>x.1.2.2.2.2.2.1.map fun u=>(0,0,Zd4 l.2.1 u.2.2 (-u.2.1) l.2.2)]
abbrev Zo.pre (x:Pc×Unit):Prop:=∃ k,PcB k x.1
abbrev Zj.fn (x:Pc×Int×Lin×Bool×Unit):List Zc:=x.1.2.1++(x.1.2.2.1.filter fun q=>x.2.2.2.1||decide (q.1.1=2)).map (fun q=>(q.1.1,q.1.2.1,Zd4 1 q.2.2 (q.2.1.tdiv x.2.1) x.2.2.1))++[(2,x.2.1,x.2.2.1)]
abbrev Zj.pre (x:Pc×Int×Lin×Bool×Unit):Prop:=(∃ k,PcB k x.1∧x.2.2.1.1.length=k)∧x.2.1≠0∧ZeT x.2.2.1
def ZkG (n v:Int) (l:List (List Zc)):Option (List (List Zc)):=l.foldlM (fun all p=>if (Z6 p n v).2≠0 then none else some (all++(Z6 p n v).1)) []
def Zh1 (s:Ze2) (v:Int):Ze2×Int:=if Z1 s=false then ((0,[]),1) else if v < 0∨s.1≤v then ((0,[]),6) else if (ZaY s).2≠0 then ((0,[]),(ZaY s).2) else match ZkG s.1 v (ZaY s).1.2 with
 | none=>((0,[]),3)
 | some all=>Zhx (s.1 - 1) (ZfS all)
abbrev ZaR.fn (x:Ze2×Int×Unit):Ze2×Int:=Zh1 x.1 x.2.1
def ZeL (f:List Zc→Bool×Int):List (List Zc)→Bool×Int
 | []=>(false,0)
 | p::l=>if (f p).1=true∨(f p).2≠0 then f p else ZeL f l
def Zb8:Nat→List Zc→Bool×Int
 | 0,_=>(true,0)
 | n+1,p=>if (Z6 p (n+1:Nat) (Zbe p (n+1:Nat))).2≠0 then (false,(Z6 p (n+1:Nat) (Zbe p (n+1:Nat))).2) else ZeL (Zb8 n) (Z6 p (n+1:Nat) (Zbe p (n+1:Nat))).1
def Zgw (s:Ze2):Bool×Int:=if Z1 s=false then (false,1) else if (ZaY s).2≠0 then (false,(ZaY s).2) else
 if (ZeL (Zb8 s.1.toNat) (ZaY s).1.2).1=true∨(ZeL (Zb8 s.1.toNat) (ZaY s).1.2).2≠0 then (false,(ZeL (Zb8 s.1.toNat) (ZaY s).1.2).2) else (true,0)
abbrev Zat.fn (x:Ze2×Unit):Bool×Int:=Zgw x.1
def ZpY (m:ByteArray→Option Bool):Prop:=∀ p n b,m (ZbA (Zb4 p))=some b→pieceN p n→1≤n→Zb8 n.toNat p=(b,0)
def Zi4 (a:List Zc×Int) (m:ByteArray→Option Bool):Prop:=pieceN a.1 a.2∧ZpY m
def Zds (N:Nat) (a:List Zc×Int) (m:ByteArray→Option Bool):Prop:=Zi4 a m∧a.2 < (N:Int)
def ZcJ (a:List Zc×Int) (m:ByteArray→Option Bool) (r:Bool×Int) (m':ByteArray→Option Bool):Prop:=r=(if (Zb8 a.2.toNat a.1).2≠0 then (false,(Zb8 a.2.toNat a.1).2) else Zb8 a.2.toNat a.1)∧ZpY m'
def ZE.wp (x0:Int) (x1:Lin) (x2:Int) (x3:Lin) (Q:Lin→Prop):Prop:=(((0:Int)≤((List.length x1.1:Nat):Int)∧(((List.length x1.1:Nat):Int)≤((List.length x1.1:Nat):Int)∧((((List.length x1.1:Nat):Int)*((8:Nat):Int))≤(140737488355328:Int)∧((List.length x1.1:Nat):Int)≤(9223372036854775807:Int))))∧(Zw IntKind.i64 (x0*x1.2)∧(Zw IntKind.i64 (x2*x3.2)∧(Zw IntKind.i64 ((x0*x1.2)+(x2*x3.2))∧Lp (σ:=Int×List Int) (fun y5 R5=>let v2:=List.getD x1.1 (Int.toNat y5.1) (0:Int);let v3:=List.getD x3.1 (Int.toNat y5.1) (0:Int);cond (decide (y5.1 < ((List.length x1.1:Nat):Int))) (((0:Int)≤y5.1∧y5.1 < ((List.length x1.1:Nat):Int))∧(Zw IntKind.i64 (x0*v2)∧(((0:Int)≤y5.1∧y5.1 < ((List.length x3.1:Nat):Int))∧(Zw IntKind.i64 (x2*v3)∧(Zw IntKind.i64 ((x0*v2)+(x2*v3))∧(((0:Int)≤y5.1∧y5.1 < ((List.length y5.2:Nat):Int))∧(Int.toNat y5.1 < List.length y5.2∧(Zw IntKind.i64 (y5.1+(1:Int))∧R5 ((y5.1+(1:Int)),(List.set y5.2 (Int.toNat y5.1) ((x0*v2)+(x2*v3)))))))))))) (Q (y5.2,((x0*x1.2)+(x2*x3.2))))) ((0:Int),(List.replicate (Int.toNat ((List.length x1.1:Nat):Int)) (0:Int)))))))
def ZY.wp (x0:Lin) (x1:Int) (Q:Lin→Prop):Prop:=((List.length x0.1*8)≤140737488355328∧(Zw IntKind.i64 (x0.2+x1)∧Q (x0.1,(x0.2+x1))))
def ZO.wp (x0:List Zc) (x1:Int) (Q:Int→Prop):Prop:=let v0:=List.replicate (Int.toNat x1) (0:Int);(((0:Int)≤x1∧(x1≤x1∧((x1*((8:Nat):Int))≤(140737488355328:Int)∧x1≤(9223372036854775807:Int))))∧(((0:Int)≤x1∧(x1≤x1∧((x1*((8:Nat):Int))≤(140737488355328:Int)∧x1≤(9223372036854775807:Int))))∧Lp (σ:=Int×Int×Int×(List Int)×List Int) (fun y3 R3=>let v1:=List.getD x0 (Int.toNat y3.1) Zb;cond (decide (y3.1 < ((List.length x0:Nat):Int))) (((0:Int)≤y3.1∧y3.1 < ((List.length x0:Nat):Int))∧Lp (σ:=Int×Int×Int×(List Int)×List Int) (fun y5 R5=>let v2:=List.getD v1.2.2.1 (Int.toNat y5.1) (0:Int);let v3:=List.getD y5.2.2.2.1 (Int.toNat y5.1) (0:Int);let v5:=List.getD y5.2.2.2.2 (Int.toNat y5.1) (0:Int);cond (decide (y5.1 < ((List.length v1.2.2.1:Nat):Int))) (((0:Int)≤y5.1∧y5.1 < ((List.length v1.2.2.1:Nat):Int))∧cond (v2 == (0:Int)) (Zw IntKind.i64 (y5.1+(1:Int))∧R5 ((y5.1+(1:Int)),y5.2)) (cond (v1.1 == (1:Int)) (((!(v2 == (1:Int)))=true→((!(v2 == (1:Int)))=true∧True))∧(((v2 == (1:Int))=false→(!(v2 == (1:Int)))=true)∧cond ((v2 == (1:Int))||(v2 == (-(1:Int)))) (Zw IntKind.i64 (y5.1+(1:Int))∧R5 ((y5.1+(1:Int)),(Max.max y5.2.1 y5.1,(Max.max y5.2.2.1 y5.1,y5.2.2.2)))) (Zw IntKind.i64 (y5.1+(1:Int))∧R5 ((y5.1+(1:Int)),(y5.2.1,(Max.max y5.2.2.1 y5.1,y5.2.2.2)))))) (((v1.1 == (0:Int))=true→((v1.1 == (0:Int))=true∧True))∧(((v1.1 == (0:Int))=true→(v1.1 == (0:Int))=true)∧cond ((v1.1 == (0:Int))&&decide ((0:Int) < v2)) (((0:Int)≤y5.1∧y5.1 < ((List.length y5.2.2.2.1:Nat):Int))∧(Int.toNat y5.1 < List.length y5.2.2.2.1∧(Zw IntKind.i64 (v3+(1:Int))∧(((0:Int)≤y5.1∧y5.1 < ((List.length y5.2.2.2.1:Nat):Int))∧(Int.toNat y5.1 < List.length y5.2.2.2.1∧(Zw IntKind.i64 (y5.1+(1:Int))∧R5 ((y5.1+(1:Int)),(y5.2.1,(y5.2.2.1,((List.set y5.2.2.2.1 (Int.toNat y5.1) (v3+(1:Int))),y5.2.2.2.2)))))))))) (cond (v1.1 == (0:Int)) (((0:Int)≤y5.1∧y5.1 < ((List.length y5.2.2.2.2:Nat):Int))∧(Int.toNat y5.1 < List.length y5.2.2.2.2∧(Zw IntKind.i64 (v5+(1:Int))∧(((0:Int)≤y5.1∧y5.1 < ((List.length y5.2.2.2.2:Nat):Int))∧(Int.toNat y5.1 < List.length y5.2.2.2.2∧(Zw IntKind.i64 (y5.1+(1:Int))∧R5 ((y5.1+(1:Int)),(y5.2.1,(y5.2.2.1,(y5.2.2.2.1,(List.set y5.2.2.2.2 (Int.toNat y5.1) (v5+(1:Int))))))))))))) (Zw IntKind.i64 (y5.1+(1:Int))∧R5 ((y5.1+(1:Int)),y5.2))))))) (Zw IntKind.i64 (y3.1+(1:Int))∧R3 ((y3.1+(1:Int)),y5.2))) ((0:Int),y3.2)) (cond (decide ((0:Int)≤y3.2.1)) (Q y3.2.1) (cond (decide ((0:Int)≤y3.2.2.1)) (Q y3.2.2.1) (Lp (σ:=Int×Int) (fun y5 R5=>let v7:=List.getD y3.2.2.2.1 (Int.toNat y5.1) (0:Int);let v8:=List.getD y3.2.2.2.2 (Int.toNat y5.1) (0:Int);let v9:=List.getD y3.2.2.2.1 (Int.toNat y5.2) (0:Int);let v10:=List.getD y3.2.2.2.2 (Int.toNat y5.2) (0:Int);cond (decide (y5.1 < x1)) (((0:Int)≤y5.1∧y5.1 < ((List.length y3.2.2.2.1:Nat):Int))∧(Int.toNat y5.1 < List.length y3.2.2.2.1∧(((0:Int)≤y5.1∧y5.1 < ((List.length y3.2.2.2.2:Nat):Int))∧(Int.toNat y5.1 < List.length y3.2.2.2.2∧(Zw IntKind.i64 (v7*v8)∧(((0:Int)≤y5.2∧y5.2 < ((List.length y3.2.2.2.1:Nat):Int))∧(Int.toNat y5.2 < List.length y3.2.2.2.1∧(((0:Int)≤y5.2∧y5.2 < ((List.length y3.2.2.2.2:Nat):Int))∧(Int.toNat y5.2 < List.length y3.2.2.2.2∧(Zw IntKind.i64 (v9*v10)∧cond (decide ((v7*v8)≤(v9*v10))) (Zw IntKind.i64 (y5.1+(1:Int))∧R5 ((y5.1+(1:Int)),y5.1)) (Zw IntKind.i64 (y5.1+(1:Int))∧R5 ((y5.1+(1:Int)),y5.2)))))))))))) (Q y5.2)) ((0:Int),(0:Int)))))) ((0:Int),((-(1:Int)),((-(1:Int)),(v0,v0))))))
def Zp.wp (x0:Int×(List Zc)×(List (Zc×Int×Lin))×Int×(List (Zc×Int×Lin))×(List (Zc×Int×Lin))×(List (Zc×Int×Lin))) (Q:(List (List Zc))→Prop):Prop:=let v0:=List.getD x0.2.2.1 (Int.toNat x0.2.2.2.1) (Zb,((0:Int),(([]:List Int),(0:Int))));let v5:=List.length ([]:List (Zc));(((0:Int)≤x0.2.2.2.1∧x0.2.2.2.1 < ((List.length x0.2.2.1:Nat):Int))∧Zp4 (σ:=Int×Int×Bool×Int) (fun y2=>let v4:=[((2:Int),(y2.1,v0.2.2))];∀ b3:Bool,((b3=true→x0.2.1=([]:List (Zc)))→cond b3 (Lp (σ:=Int×List (Zc)) (fun y4 R4=>let v1:=List.getD x0.2.2.1 (Int.toNat y4.1) (Zb,((0:Int),(([]:List Int),(0:Int))));let v3:=[(v1.1.1,((y2.1*v1.1.2.1),(ZE.fn (y2.1,(v1.2.2,(((-y2.2.1)*v1.2.1),(v0.2.2,())))))))];cond (decide (y4.1 < ((List.length x0.2.2.1:Nat):Int))) (((0:Int)≤y4.1∧y4.1 < ((List.length x0.2.2.1:Nat):Int))∧cond (y4.1 != x0.2.2.2.1) (Zw IntKind.i64 (y2.1*v1.1.2.1)∧(Zw IntKind.i64 (-y2.2.1)∧(Zw IntKind.i64 ((-y2.2.1)*v1.2.1)∧(ZE.pre (y2.1,(v1.2.2,(((-y2.2.1)*v1.2.1),(v0.2.2,()))))∧((((List.length y4.2+List.length v3)*48)≤140737488355328∧(List.length y4.2+List.length v3)≤9223372036854775807)∧(Zw IntKind.i64 (y4.1+(1:Int))∧R4 ((y4.1+(1:Int)),(y4.2++v3)))))))) (Zw IntKind.i64 (y4.1+(1:Int))∧R4 ((y4.1+(1:Int)),y4.2))) (cond (decide ((1:Int) < y2.1)) ((((List.length y4.2+List.length v4)*48)≤140737488355328∧(List.length y4.2+List.length v4)≤9223372036854775807)∧Q ([(y4.2++v4)])) (Q [y4.2]))) ((0:Int),([]:List (Zc)))) ((((v5+List.length x0.2.1)*48)≤140737488355328∧(v5+List.length x0.2.1)≤9223372036854775807)∧Lp (σ:=Int×List (Zc)) (fun y4 R4=>let v1:=List.getD x0.2.2.1 (Int.toNat y4.1) (Zb,((0:Int),(([]:List Int),(0:Int))));let v3:=[(v1.1.1,((y2.1*v1.1.2.1),(ZE.fn (y2.1,(v1.2.2,(((-y2.2.1)*v1.2.1),(v0.2.2,())))))))];cond (decide (y4.1 < ((List.length x0.2.2.1:Nat):Int))) (((0:Int)≤y4.1∧y4.1 < ((List.length x0.2.2.1:Nat):Int))∧cond (y4.1 != x0.2.2.2.1) (Zw IntKind.i64 (y2.1*v1.1.2.1)∧(Zw IntKind.i64 (-y2.2.1)∧(Zw IntKind.i64 ((-y2.2.1)*v1.2.1)∧(ZE.pre (y2.1,(v1.2.2,(((-y2.2.1)*v1.2.1),(v0.2.2,()))))∧((((List.length y4.2+List.length v3)*48)≤140737488355328∧(List.length y4.2+List.length v3)≤9223372036854775807)∧(Zw IntKind.i64 (y4.1+(1:Int))∧R4 ((y4.1+(1:Int)),(y4.2++v3)))))))) (Zw IntKind.i64 (y4.1+(1:Int))∧R4 ((y4.1+(1:Int)),y4.2))) (cond (decide ((1:Int) < y2.1)) ((((List.length y4.2+List.length v4)*48)≤140737488355328∧(List.length y4.2+List.length v4)≤9223372036854775807)∧Q ([(y4.2++v4)])) (Q [y4.2]))) ((0:Int),(([]:List (Zc))++x0.2.1))))) (fun J2=>cond (decide (v0.2.1 < (0:Int))) (Zw IntKind.i64 (-v0.2.1)∧J2 ((-v0.2.1),((-(1:Int)),(decide (v0.2.1 < (0:Int)),v0.2.1)))) (J2 (v0.2.1,((1:Int),(decide (v0.2.1 < (0:Int)),v0.2.1))))))
def Zo.wp (x0:Int×(List Zc)×(List (Zc×Int×Lin))×Int×(List (Zc×Int×Lin))×(List (Zc×Int×Lin))×(List (Zc×Int×Lin))) (Q:(List (List Zc))→Prop):Prop:=let v0:=List.length x0.2.2.2.2.1;let v1:=List.length x0.2.2.2.2.2.1;let v6:=List.length ([]:List (Zc));∀ b2:Bool,((b2=true→x0.2.1=([]:List (Zc)))→cond b2 (Lp (σ:=Int×List (Zc)) (fun y3 R3=>let v3:=List.getD x0.2.2.2.2.1 (Int.toNat y3.1) (Zb,((0:Int),(([]:List Int),(0:Int))));cond (decide (y3.1 < ((v0:Nat):Int))) (((0:Int)≤y3.1∧y3.1 < ((v0:Nat):Int))∧Lp (σ:=Int×List (Zc)) (fun y5 R5=>let v2:=List.getD x0.2.2.2.2.2.1 (Int.toNat y5.1) (Zb,((0:Int),(([]:List Int),(0:Int))));let v5:=[((0:Int),((0:Int),(ZE.fn (v3.2.1,(v2.2.2,((-v2.2.1),(v3.2.2,())))))))];cond (decide (y5.1 < ((v1:Nat):Int))) (((0:Int)≤y5.1∧y5.1 < ((v1:Nat):Int))∧(Zw IntKind.i64 (-v2.2.1)∧(ZE.pre (v3.2.1,(v2.2.2,((-v2.2.1),(v3.2.2,()))))∧((((List.length y5.2+List.length v5)*48)≤140737488355328∧(List.length y5.2+List.length v5)≤9223372036854775807)∧(Zw IntKind.i64 (y5.1+(1:Int))∧R5 ((y5.1+(1:Int)),(y5.2++v5))))))) (Zw IntKind.i64 (y3.1+(1:Int))∧R3 ((y3.1+(1:Int)),y5.2))) ((0:Int),y3.2)) (Q [y3.2])) ((0:Int),([]:List (Zc)))) ((((v6+List.length x0.2.1)*48)≤140737488355328∧(v6+List.length x0.2.1)≤9223372036854775807)∧Lp (σ:=Int×List (Zc)) (fun y3 R3=>let v3:=List.getD x0.2.2.2.2.1 (Int.toNat y3.1) (Zb,((0:Int),(([]:List Int),(0:Int))));cond (decide (y3.1 < ((v0:Nat):Int))) (((0:Int)≤y3.1∧y3.1 < ((v0:Nat):Int))∧Lp (σ:=Int×List (Zc)) (fun y5 R5=>let v2:=List.getD x0.2.2.2.2.2.1 (Int.toNat y5.1) (Zb,((0:Int),(([]:List Int),(0:Int))));let v5:=[((0:Int),((0:Int),(ZE.fn (v3.2.1,(v2.2.2,((-v2.2.1),(v3.2.2,())))))))];cond (decide (y5.1 < ((v1:Nat):Int))) (((0:Int)≤y5.1∧y5.1 < ((v1:Nat):Int))∧(Zw IntKind.i64 (-v2.2.1)∧(ZE.pre (v3.2.1,(v2.2.2,((-v2.2.1),(v3.2.2,()))))∧((((List.length y5.2+List.length v5)*48)≤140737488355328∧(List.length y5.2+List.length v5)≤9223372036854775807)∧(Zw IntKind.i64 (y5.1+(1:Int))∧R5 ((y5.1+(1:Int)),(y5.2++v5))))))) (Zw IntKind.i64 (y3.1+(1:Int))∧R3 ((y3.1+(1:Int)),y5.2))) ((0:Int),y3.2)) (Q [y3.2])) ((0:Int),(([]:List (Zc))++x0.2.1))))
def Zj.wp (x0:Int×(List Zc)×(List (Zc×Int×Lin))×Int×(List (Zc×Int×Lin))×(List (Zc×Int×Lin))×(List (Zc×Int×Lin))) (x1:Int) (x2:Lin) (x3:Bool) (Q:(List Zc)→Prop):Prop:=let v3:=List.length ([((2:Int),(x1,x2))]);let v4:=List.length ([]:List (Zc));∀ b5:Bool,((b5=true→x0.2.1=([]:List (Zc)))→cond b5 (Lp (σ:=Int×List (Zc)) (fun y6 R6=>let v0:=List.getD x0.2.2.1 (Int.toNat y6.1) (Zb,((0:Int),(([]:List Int),(0:Int))));let v2:=[(v0.1.1,(v0.1.2.1,(ZE.fn ((1:Int),(v0.2.2,(Int.tdiv v0.2.1 x1,(x2,())))))))];cond (decide (y6.1 < ((List.length x0.2.2.1:Nat):Int))) (((0:Int)≤y6.1∧y6.1 < ((List.length x0.2.2.1:Nat):Int))∧(((!x3)=true→((!x3)=true∧True))∧(((!x3)=true→((!x3)=true∧True))∧(((!x3)=true→((!x3)=true∧True))∧((x3=false→(!x3)=true)∧cond (x3||(v0.1.1 == (2:Int))) ((x1≠(0:Int)∧Zw IntKind.i64 (Int.tdiv v0.2.1 x1))∧(ZE.pre ((1:Int),(v0.2.2,(Int.tdiv v0.2.1 x1,(x2,()))))∧((((List.length y6.2+List.length v2)*48)≤140737488355328∧(List.length y6.2+List.length v2)≤9223372036854775807)∧(Zw IntKind.i64 (y6.1+(1:Int))∧R6 ((y6.1+(1:Int)),(y6.2++v2)))))) (Zw IntKind.i64 (y6.1+(1:Int))∧R6 ((y6.1+(1:Int)),y6.2))))))) ((((List.length y6.2+v3)*48)≤140737488355328∧(List.length y6.2+v3)≤9223372036854775807)∧Q (y6.2++[((2:Int),(x1,x2))]))) ((0:Int),([]:List (Zc)))) ((((v4+List.length x0.2.1)*48)≤140737488355328∧(v4+List.length x0.2.1)≤9223372036854775807)∧Lp (σ:=Int×List (Zc)) (fun y6 R6=>let v0:=List.getD x0.2.2.1 (Int.toNat y6.1) (Zb,((0:Int),(([]:List Int),(0:Int))));let v2:=[(v0.1.1,(v0.1.2.1,(ZE.fn ((1:Int),(v0.2.2,(Int.tdiv v0.2.1 x1,(x2,())))))))];cond (decide (y6.1 < ((List.length x0.2.2.1:Nat):Int))) (((0:Int)≤y6.1∧y6.1 < ((List.length x0.2.2.1:Nat):Int))∧(((!x3)=true→((!x3)=true∧True))∧(((!x3)=true→((!x3)=true∧True))∧(((!x3)=true→((!x3)=true∧True))∧((x3=false→(!x3)=true)∧cond (x3||(v0.1.1 == (2:Int))) ((x1≠(0:Int)∧Zw IntKind.i64 (Int.tdiv v0.2.1 x1))∧(ZE.pre ((1:Int),(v0.2.2,(Int.tdiv v0.2.1 x1,(x2,()))))∧((((List.length y6.2+List.length v2)*48)≤140737488355328∧(List.length y6.2+List.length v2)≤9223372036854775807)∧(Zw IntKind.i64 (y6.1+(1:Int))∧R6 ((y6.1+(1:Int)),(y6.2++v2)))))) (Zw IntKind.i64 (y6.1+(1:Int))∧R6 ((y6.1+(1:Int)),y6.2))))))) ((((List.length y6.2+v3)*48)≤140737488355328∧(List.length y6.2+v3)≤9223372036854775807)∧Q (y6.2++[((2:Int),(x1,x2))]))) ((0:Int),(([]:List (Zc))++x0.2.1))))
def Zaa.wp (x0:Int) (x1:Int) (Q:Int→Prop):Prop:=let v0:=IntKind.wrap IntKind.u64 x1;let v1:=ZS.fn (x0,(v0,()));(((!(decide ((512:Int) < x0)))=true→((!(decide ((512:Int) < x0)))=true∧True))∧(((!(decide ((512:Int) < x0)))=true→((!(decide ((512:Int) < x0)))=true∧True))∧((decide ((512:Int) < x0)=false→(!(decide ((512:Int) < x0)))=true)∧cond (decide ((512:Int) < x0)||decide ((512:Int) < v0)) (Q (513:Int)) (v1≠(0:Int)∧Q (IntKind.wrap IntKind.u64 ((IntKind.wrap IntKind.u64 (Int.tdiv x0 v1))*v0))))))
def ZG.wp (x0:List Int) (Q:Int×Int→Prop):Prop:=let v1:=Zr.fn (x0,((1:Int),((fun (a4:Int×Int)=>Zaa.pre (a4.1,(a4.2,())),fun (a4:Int×Int)=>Zaa.fn (a4.1,(a4.2,()))),())));Lp (σ:=Int) (fun y2 R2=>cond (decide (y2 < ((List.length x0:Nat):Int))) (((0:Int)≤y2∧y2 < ((List.length x0:Nat):Int))∧cond (decide ((List.getD x0 (Int.toNat y2) (0:Int)) < (1:Int))) (Q ((0:Int),(1:Int))) (Zw IntKind.i64 (y2+(1:Int))∧R2 (y2+(1:Int)))) (Zr.pre (x0,((1:Int),((fun (a4:Int×Int)=>Zaa.pre (a4.1,(a4.2,())),fun (a4:Int×Int)=>Zaa.fn (a4.1,(a4.2,()))),())))∧cond (decide ((512:Int) < v1)) (Q ((0:Int),(3:Int))) (Zw IntKind.i64 v1∧Q (v1,(0:Int))))) (0:Int)
def Z7.wp (x0:Int) (Q:Int→Prop):Prop:=(Zw IntKind.i64 (-x0)∧Q (Max.max x0 (-x0)))
end Go.Proofs.YtgpdnmfpgkkgcaaGreatDoor
