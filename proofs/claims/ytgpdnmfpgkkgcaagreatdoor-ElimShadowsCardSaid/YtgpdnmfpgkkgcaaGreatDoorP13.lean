/- Part of a proof that a law of the program holds for every input: what the functions answer, in plain Lean. No conditions. -/
import Derived.Test.YtgpdnmfpgkkgcaaGreatDoorP12
namespace Go.Proofs.YtgpdnmfpgkkgcaaGreatDoor
open Go
set_option linter.unusedVariables false
set_option maxRecDepth 4000
def ZM.wp (x0:Int) (x1:Lin) (x2:Int) (x3:Lin) (Q:Lin→Prop):Prop:=(((0:Int)≤((List.length x1.1:Nat):Int)∧(((List.length x1.1:Nat):Int)≤((List.length x1.1:Nat):Int)∧((((List.length x1.1:Nat):Int)*((8:Nat):Int))≤(140737488355328:Int)∧((List.length x1.1:Nat):Int)≤(9223372036854775807:Int))))∧(Zu IntKind.i64 (x0*x1.2)∧(Zu IntKind.i64 (x2*x3.2)∧(Zu IntKind.i64 ((x0*x1.2)+(x2*x3.2))∧Lp (σ:=Int×List Int) (fun y5 R5=>let v2:=List.getD x1.1 (Int.toNat y5.1) (0:Int);let v3:=List.getD x3.1 (Int.toNat y5.1) (0:Int);cond (decide (y5.1 < ((List.length x1.1:Nat):Int))) (((0:Int)≤y5.1∧y5.1 < ((List.length x1.1:Nat):Int))∧(Zu IntKind.i64 (x0*v2)∧(((0:Int)≤y5.1∧y5.1 < ((List.length x3.1:Nat):Int))∧(Zu IntKind.i64 (x2*v3)∧(Zu IntKind.i64 ((x0*v2)+(x2*v3))∧(((0:Int)≤y5.1∧y5.1 < ((List.length y5.2:Nat):Int))∧(Int.toNat y5.1 < List.length y5.2∧(Zu IntKind.i64 (y5.1+(1:Int))∧R5 ((y5.1+(1:Int)),(List.set y5.2 (Int.toNat y5.1) ((x0*v2)+(x2*v3)))))))))))) (Q (y5.2,((x0*x1.2)+(x2*x3.2))))) ((0:Int),(List.replicate (Int.toNat ((List.length x1.1:Nat):Int)) (0:Int)))))))
def Z9.wp (x0:Lin) (x1:Int) (Q:Lin→Prop):Prop:=((List.length x0.1*8)≤140737488355328∧(Zu IntKind.i64 (x0.2+x1)∧Q (x0.1,(x0.2+x1))))
def Z7.wp (x0:List Zc) (x1:Int) (Q:Int→Prop):Prop:=let v0:=List.replicate (Int.toNat x1) (0:Int);(((0:Int)≤x1∧(x1≤x1∧((x1*((8:Nat):Int))≤(140737488355328:Int)∧x1≤(9223372036854775807:Int))))∧(((0:Int)≤x1∧(x1≤x1∧((x1*((8:Nat):Int))≤(140737488355328:Int)∧x1≤(9223372036854775807:Int))))∧Lp (σ:=Int×Int×Int×(List Int)×List Int) (fun y3 R3=>let v1:=List.getD x0 (Int.toNat y3.1) Za;cond (decide (y3.1 < ((List.length x0:Nat):Int))) (((0:Int)≤y3.1∧y3.1 < ((List.length x0:Nat):Int))∧Lp (σ:=Int×Int×Int×(List Int)×List Int) (fun y5 R5=>let v2:=List.getD v1.2.2.1 (Int.toNat y5.1) (0:Int);let v3:=List.getD y5.2.2.2.1 (Int.toNat y5.1) (0:Int);let v5:=List.getD y5.2.2.2.2 (Int.toNat y5.1) (0:Int);cond (decide (y5.1 < ((List.length v1.2.2.1:Nat):Int))) (((0:Int)≤y5.1∧y5.1 < ((List.length v1.2.2.1:Nat):Int))∧cond (v2 == (0:Int)) (Zu IntKind.i64 (y5.1+(1:Int))∧R5 ((y5.1+(1:Int)),y5.2)) (cond (v1.1 == (1:Int)) (((!(v2 == (1:Int)))=true→((!(v2 == (1:Int)))=true∧True))∧(((v2 == (1:Int))=false→(!(v2 == (1:Int)))=true)∧cond ((v2 == (1:Int))||(v2 == (-(1:Int)))) (Zu IntKind.i64 (y5.1+(1:Int))∧R5 ((y5.1+(1:Int)),(Max.max y5.2.1 y5.1,(Max.max y5.2.2.1 y5.1,y5.2.2.2)))) (Zu IntKind.i64 (y5.1+(1:Int))∧R5 ((y5.1+(1:Int)),(y5.2.1,(Max.max y5.2.2.1 y5.1,y5.2.2.2)))))) (((v1.1 == (0:Int))=true→((v1.1 == (0:Int))=true∧True))∧(((v1.1 == (0:Int))=true→(v1.1 == (0:Int))=true)∧cond ((v1.1 == (0:Int))&&decide ((0:Int) < v2)) (((0:Int)≤y5.1∧y5.1 < ((List.length y5.2.2.2.1:Nat):Int))∧(Int.toNat y5.1 < List.length y5.2.2.2.1∧(Zu IntKind.i64 (v3+(1:Int))∧(((0:Int)≤y5.1∧y5.1 < ((List.length y5.2.2.2.1:Nat):Int))∧(Int.toNat y5.1 < List.length y5.2.2.2.1∧(Zu IntKind.i64 (y5.1+(1:Int))∧R5 ((y5.1+(1:Int)),(y5.2.1,(y5.2.2.1,((List.set y5.2.2.2.1 (Int.toNat y5.1) (v3+(1:Int))),y5.2.2.2.2)))))))))) (cond (v1.1 == (0:Int)) (((0:Int)≤y5.1∧y5.1 < ((List.length y5.2.2.2.2:Nat):Int))∧(Int.toNat y5.1 < List.length y5.2.2.2.2∧(Zu IntKind.i64 (v5+(1:Int))∧(((0:Int)≤y5.1∧y5.1 < ((List.length y5.2.2.2.2:Nat):Int))∧(Int.toNat y5.1 < List.length y5.2.2.2.2∧(Zu IntKind.i64 (y5.1+(1:Int))∧R5 ((y5.1+(1:Int)),(y5.2.1,(y5.2.2.1,(y5.2.2.2.1,(List.set y5.2.2.2.2 (Int.toNat y5.1) (v5+(1:Int))))))))))))) (Zu IntKind.i64 (y5.1+(1:Int))∧R5 ((y5.1+(1:Int)),y5.2))))))) (Zu IntKind.i64 (y3.1+(1:Int))∧R3 ((y3.1+(1:Int)),y5.2))) ((0:Int),y3.2)) (cond (decide ((0:Int)≤y3.2.1)) (Q y3.2.1) (cond (decide ((0:Int)≤y3.2.2.1)) (Q y3.2.2.1) (Lp (σ:=Int×Int) (fun y5 R5=>let v7:=List.getD y3.2.2.2.1 (Int.toNat y5.1) (0:Int);let v8:=List.getD y3.2.2.2.2 (Int.toNat y5.1) (0:Int);let v9:=List.getD y3.2.2.2.1 (Int.toNat y5.2) (0:Int);let v10:=List.getD y3.2.2.2.2 (Int.toNat y5.2) (0:Int);cond (decide (y5.1 < x1)) (((0:Int)≤y5.1∧y5.1 < ((List.length y3.2.2.2.1:Nat):Int))∧(Int.toNat y5.1 < List.length y3.2.2.2.1∧(((0:Int)≤y5.1∧y5.1 < ((List.length y3.2.2.2.2:Nat):Int))∧(Int.toNat y5.1 < List.length y3.2.2.2.2∧(Zu IntKind.i64 (v7*v8)∧(((0:Int)≤y5.2∧y5.2 < ((List.length y3.2.2.2.1:Nat):Int))∧(Int.toNat y5.2 < List.length y3.2.2.2.1∧(((0:Int)≤y5.2∧y5.2 < ((List.length y3.2.2.2.2:Nat):Int))∧(Int.toNat y5.2 < List.length y3.2.2.2.2∧(Zu IntKind.i64 (v9*v10)∧cond (decide ((v7*v8)≤(v9*v10))) (Zu IntKind.i64 (y5.1+(1:Int))∧R5 ((y5.1+(1:Int)),y5.1)) (Zu IntKind.i64 (y5.1+(1:Int))∧R5 ((y5.1+(1:Int)),y5.2)))))))))))) (Q y5.2)) ((0:Int),(0:Int)))))) ((0:Int),((-(1:Int)),((-(1:Int)),(v0,v0))))))
def Zt.wp (x0:Int×(List Zc)×(List (Zc×Int×Lin))×Int×(List (Zc×Int×Lin))×(List (Zc×Int×Lin))×(List (Zc×Int×Lin))) (Q:(List (List Zc))→Prop):Prop:=let v0:=List.getD x0.2.2.1 (Int.toNat x0.2.2.2.1) (Za,((0:Int),(([]:List Int),(0:Int))));let v5:=List.length ([]:List (Zc));(((0:Int)≤x0.2.2.2.1∧x0.2.2.2.1 < ((List.length x0.2.2.1:Nat):Int))∧ZpT (σ:=Int×Int×Bool×Int) (fun y2=>let v4:=[((2:Int),(y2.1,v0.2.2))];∀ b3:Bool,((b3=true→x0.2.1=([]:List (Zc)))→cond b3 (Lp (σ:=Int×List (Zc)) (fun y4 R4=>let v1:=List.getD x0.2.2.1 (Int.toNat y4.1) (Za,((0:Int),(([]:List Int),(0:Int))));let v3:=[(v1.1.1,((y2.1*v1.1.2.1),(ZM.fn (y2.1,(v1.2.2,(((-y2.2.1)*v1.2.1),(v0.2.2,())))))))];cond (decide (y4.1 < ((List.length x0.2.2.1:Nat):Int))) (((0:Int)≤y4.1∧y4.1 < ((List.length x0.2.2.1:Nat):Int))∧cond (y4.1 != x0.2.2.2.1) (Zu IntKind.i64 (y2.1*v1.1.2.1)∧(Zu IntKind.i64 (-y2.2.1)∧(Zu IntKind.i64 ((-y2.2.1)*v1.2.1)∧(ZM.pre (y2.1,(v1.2.2,(((-y2.2.1)*v1.2.1),(v0.2.2,()))))∧((((List.length y4.2+List.length v3)*48)≤140737488355328∧(List.length y4.2+List.length v3)≤9223372036854775807)∧(Zu IntKind.i64 (y4.1+(1:Int))∧R4 ((y4.1+(1:Int)),(y4.2++v3)))))))) (Zu IntKind.i64 (y4.1+(1:Int))∧R4 ((y4.1+(1:Int)),y4.2))) (cond (decide ((1:Int) < y2.1)) ((((List.length y4.2+List.length v4)*48)≤140737488355328∧(List.length y4.2+List.length v4)≤9223372036854775807)∧Q ([(y4.2++v4)])) (Q [y4.2]))) ((0:Int),([]:List (Zc)))) ((((v5+List.length x0.2.1)*48)≤140737488355328∧(v5+List.length x0.2.1)≤9223372036854775807)∧Lp (σ:=Int×List (Zc)) (fun y4 R4=>let v1:=List.getD x0.2.2.1 (Int.toNat y4.1) (Za,((0:Int),(([]:List Int),(0:Int))));let v3:=[(v1.1.1,((y2.1*v1.1.2.1),(ZM.fn (y2.1,(v1.2.2,(((-y2.2.1)*v1.2.1),(v0.2.2,())))))))];cond (decide (y4.1 < ((List.length x0.2.2.1:Nat):Int))) (((0:Int)≤y4.1∧y4.1 < ((List.length x0.2.2.1:Nat):Int))∧cond (y4.1 != x0.2.2.2.1) (Zu IntKind.i64 (y2.1*v1.1.2.1)∧(Zu IntKind.i64 (-y2.2.1)∧(Zu IntKind.i64 ((-y2.2.1)*v1.2.1)∧(ZM.pre (y2.1,(v1.2.2,(((-y2.2.1)*v1.2.1),(v0.2.2,()))))∧((((List.length y4.2+List.length v3)*48)≤140737488355328∧(List.length y4.2+List.length v3)≤9223372036854775807)∧(Zu IntKind.i64 (y4.1+(1:Int))∧R4 ((y4.1+(1:Int)),(y4.2++v3)))))))) (Zu IntKind.i64 (y4.1+(1:Int))∧R4 ((y4.1+(1:Int)),y4.2))) (cond (decide ((1:Int) < y2.1)) ((((List.length y4.2+List.length v4)*48)≤140737488355328∧(List.length y4.2+List.length v4)≤9223372036854775807)∧Q ([(y4.2++v4)])) (Q [y4.2]))) ((0:Int),(([]:List (Zc))++x0.2.1))))) (fun J2=>cond (decide (v0.2.1 < (0:Int))) (Zu IntKind.i64 (-v0.2.1)∧J2 ((-v0.2.1),((-(1:Int)),(decide (v0.2.1 < (0:Int)),v0.2.1)))) (J2 (v0.2.1,((1:Int),(decide (v0.2.1 < (0:Int)),v0.2.1))))))
def Zr.wp (x0:Int×(List Zc)×(List (Zc×Int×Lin))×Int×(List (Zc×Int×Lin))×(List (Zc×Int×Lin))×(List (Zc×Int×Lin))) (Q:(List (List Zc))→Prop):Prop:=let v0:=List.length x0.2.2.2.2.1;let v1:=List.length x0.2.2.2.2.2.1;let v6:=List.length ([]:List (Zc));∀ b2:Bool,((b2=true→x0.2.1=([]:List (Zc)))→cond b2 (Lp (σ:=Int×List (Zc)) (fun y3 R3=>let v3:=List.getD x0.2.2.2.2.1 (Int.toNat y3.1) (Za,((0:Int),(([]:List Int),(0:Int))));cond (decide (y3.1 < ((v0:Nat):Int))) (((0:Int)≤y3.1∧y3.1 < ((v0:Nat):Int))∧Lp (σ:=Int×List (Zc)) (fun y5 R5=>let v2:=List.getD x0.2.2.2.2.2.1 (Int.toNat y5.1) (Za,((0:Int),(([]:List Int),(0:Int))));let v5:=[((0:Int),((0:Int),(ZM.fn (v3.2.1,(v2.2.2,((-v2.2.1),(v3.2.2,())))))))];cond (decide (y5.1 < ((v1:Nat):Int))) (((0:Int)≤y5.1∧y5.1 < ((v1:Nat):Int))∧(Zu IntKind.i64 (-v2.2.1)∧(ZM.pre (v3.2.1,(v2.2.2,((-v2.2.1),(v3.2.2,()))))∧((((List.length y5.2+List.length v5)*48)≤140737488355328∧(List.length y5.2+List.length v5)≤9223372036854775807)∧(Zu IntKind.i64 (y5.1+(1:Int))∧R5 ((y5.1+(1:Int)),(y5.2++v5))))))) (Zu IntKind.i64 (y3.1+(1:Int))∧R3 ((y3.1+(1:Int)),y5.2))) ((0:Int),y3.2)) (Q [y3.2])) ((0:Int),([]:List (Zc)))) ((((v6+List.length x0.2.1)*48)≤140737488355328∧(v6+List.length x0.2.1)≤9223372036854775807)∧Lp (σ:=Int×List (Zc)) (fun y3 R3=>let v3:=List.getD x0.2.2.2.2.1 (Int.toNat y3.1) (Za,((0:Int),(([]:List Int),(0:Int))));cond (decide (y3.1 < ((v0:Nat):Int))) (((0:Int)≤y3.1∧y3.1 < ((v0:Nat):Int))∧Lp (σ:=Int×List (Zc)) (fun y5 R5=>let v2:=List.getD x0.2.2.2.2.2.1 (Int.toNat y5.1) (Za,((0:Int),(([]:List Int),(0:Int))));let v5:=[((0:Int),((0:Int),(ZM.fn (v3.2.1,(v2.2.2,((-v2.2.1),(v3.2.2,())))))))];cond (decide (y5.1 < ((v1:Nat):Int))) (((0:Int)≤y5.1∧y5.1 < ((v1:Nat):Int))∧(Zu IntKind.i64 (-v2.2.1)∧(ZM.pre (v3.2.1,(v2.2.2,((-v2.2.1),(v3.2.2,()))))∧((((List.length y5.2+List.length v5)*48)≤140737488355328∧(List.length y5.2+List.length v5)≤9223372036854775807)∧(Zu IntKind.i64 (y5.1+(1:Int))∧R5 ((y5.1+(1:Int)),(y5.2++v5))))))) (Zu IntKind.i64 (y3.1+(1:Int))∧R3 ((y3.1+(1:Int)),y5.2))) ((0:Int),y3.2)) (Q [y3.2])) ((0:Int),(([]:List (Zc))++x0.2.1))))
def Zl.wp (x0:Int×(List Zc)×(List (Zc×Int×Lin))×Int×(List (Zc×Int×Lin))×(List (Zc×Int×Lin))×(List (Zc×Int×Lin))) (x1:Int) (x2:Lin) (x3:Bool) (Q:(List Zc)→Prop):Prop:=let v3:=List.length ([((2:Int),(x1,x2))]);let v4:=List.length ([]:List (Zc));∀ b5:Bool,((b5=true→x0.2.1=([]:List (Zc)))→cond b5 (Lp (σ:=Int×List (Zc)) (fun y6 R6=>let v0:=List.getD x0.2.2.1 (Int.toNat y6.1) (Za,((0:Int),(([]:List Int),(0:Int))));let v2:=[(v0.1.1,(v0.1.2.1,(ZM.fn ((1:Int),(v0.2.2,(Int.tdiv v0.2.1 x1,(x2,())))))))];cond (decide (y6.1 < ((List.length x0.2.2.1:Nat):Int))) (((0:Int)≤y6.1∧y6.1 < ((List.length x0.2.2.1:Nat):Int))∧(((!x3)=true→((!x3)=true∧True))∧(((!x3)=true→((!x3)=true∧True))∧(((!x3)=true→((!x3)=true∧True))∧((x3=false→(!x3)=true)∧cond (x3||(v0.1.1 == (2:Int))) ((x1≠(0:Int)∧Zu IntKind.i64 (Int.tdiv v0.2.1 x1))∧(ZM.pre ((1:Int),(v0.2.2,(Int.tdiv v0.2.1 x1,(x2,()))))∧((((List.length y6.2+List.length v2)*48)≤140737488355328∧(List.length y6.2+List.length v2)≤9223372036854775807)∧(Zu IntKind.i64 (y6.1+(1:Int))∧R6 ((y6.1+(1:Int)),(y6.2++v2)))))) (Zu IntKind.i64 (y6.1+(1:Int))∧R6 ((y6.1+(1:Int)),y6.2))))))) ((((List.length y6.2+v3)*48)≤140737488355328∧(List.length y6.2+v3)≤9223372036854775807)∧Q (y6.2++[((2:Int),(x1,x2))]))) ((0:Int),([]:List (Zc)))) ((((v4+List.length x0.2.1)*48)≤140737488355328∧(v4+List.length x0.2.1)≤9223372036854775807)∧Lp (σ:=Int×List (Zc)) (fun y6 R6=>let v0:=List.getD x0.2.2.1 (Int.toNat y6.1) (Za,((0:Int),(([]:List Int),(0:Int))));let v2:=[(v0.1.1,(v0.1.2.1,(ZM.fn ((1:Int),(v0.2.2,(Int.tdiv v0.2.1 x1,(x2,())))))))];cond (decide (y6.1 < ((List.length x0.2.2.1:Nat):Int))) (((0:Int)≤y6.1∧y6.1 < ((List.length x0.2.2.1:Nat):Int))∧(((!x3)=true→((!x3)=true∧True))∧(((!x3)=true→((!x3)=true∧True))∧(((!x3)=true→((!x3)=true∧True))∧((x3=false→(!x3)=true)∧cond (x3||(v0.1.1 == (2:Int))) ((x1≠(0:Int)∧Zu IntKind.i64 (Int.tdiv v0.2.1 x1))∧(ZM.pre ((1:Int),(v0.2.2,(Int.tdiv v0.2.1 x1,(x2,()))))∧((((List.length y6.2+List.length v2)*48)≤140737488355328∧(List.length y6.2+List.length v2)≤9223372036854775807)∧(Zu IntKind.i64 (y6.1+(1:Int))∧R6 ((y6.1+(1:Int)),(y6.2++v2)))))) (Zu IntKind.i64 (y6.1+(1:Int))∧R6 ((y6.1+(1:Int)),y6.2))))))) ((((List.length y6.2+v3)*48)≤140737488355328∧(List.length y6.2+v3)≤9223372036854775807)∧Q (y6.2++[((2:Int),(x1,x2))]))) ((0:Int),(([]:List (Zc))++x0.2.1))))
def Zan.wp (x0:Int) (x1:Int) (Q:Int→Prop):Prop:=let v0:=IntKind.wrap IntKind.u64 x1;let v1:=Z2.fn (x0,(v0,()));(((!(decide ((512:Int) < x0)))=true→((!(decide ((512:Int) < x0)))=true∧True))∧(((!(decide ((512:Int) < x0)))=true→((!(decide ((512:Int) < x0)))=true∧True))∧((decide ((512:Int) < x0)=false→(!(decide ((512:Int) < x0)))=true)∧cond (decide ((512:Int) < x0)||decide ((512:Int) < v0)) (Q (513:Int)) (v1≠(0:Int)∧Q (IntKind.wrap IntKind.u64 ((IntKind.wrap IntKind.u64 (Int.tdiv x0 v1))*v0))))))
def ZQ.wp (x0:List Int) (Q:Int×Int→Prop):Prop:=let v1:=Zy.fn (x0,((1:Int),((fun (a4:Int×Int)=>Zan.pre (a4.1,(a4.2,())),fun (a4:Int×Int)=>Zan.fn (a4.1,(a4.2,()))),())));Lp (σ:=Int) (fun y2 R2=>cond (decide (y2 < ((List.length x0:Nat):Int))) (((0:Int)≤y2∧y2 < ((List.length x0:Nat):Int))∧cond (decide ((List.getD x0 (Int.toNat y2) (0:Int)) < (1:Int))) (Q ((0:Int),(1:Int))) (Zu IntKind.i64 (y2+(1:Int))∧R2 (y2+(1:Int)))) (Zy.pre (x0,((1:Int),((fun (a4:Int×Int)=>Zan.pre (a4.1,(a4.2,())),fun (a4:Int×Int)=>Zan.fn (a4.1,(a4.2,()))),())))∧cond (decide ((512:Int) < v1)) (Q ((0:Int),(3:Int))) (Zu IntKind.i64 v1∧Q (v1,(0:Int))))) (0:Int)
def Zam.wp (x0:List Int) (Q:Int×Int→Prop):Prop:=Lp (σ:=Int) (fun y2 R2=>cond (decide (y2 < ((List.length x0:Nat):Int))) (((0:Int)≤y2∧y2 < ((List.length x0:Nat):Int))∧cond (decide ((List.getD x0 (Int.toNat y2) (0:Int)) < (1:Int))) (Q ((0:Int),(1:Int))) (Zu IntKind.i64 (y2+(1:Int))∧R2 (y2+(1:Int)))) (Lp (σ:=Int) (fun y4 R4=>cond (decide (y4≤(512:Int))) (Lp (σ:=Int×Bool) (fun y6 R6=>let v1:=List.getD x0 (Int.toNat y6.1) (0:Int);cond (decide (y6.1 < ((List.length x0:Nat):Int))) (((0:Int)≤y6.1∧y6.1 < ((List.length x0:Nat):Int))∧((y6.2=true→(y6.2=true∧(y6.2=true∧v1≠(0:Int))))∧((y6.2=true→(y6.2=true∧True))∧((y6.2=true→y6.2=true)∧(Zu IntKind.i64 (y6.1+(1:Int))∧R6 ((y6.1+(1:Int)),(y6.2&&(Int.tmod y4 v1 == (0:Int))))))))) (cond y6.2 (Q (y4,(0:Int))) (Zu IntKind.i64 (y4+(1:Int))∧R4 (y4+(1:Int))))) ((0:Int),true)) (Q ((0:Int),(3:Int)))) (1:Int))) (0:Int)
def Zp.wp (x0:Int) (Q:Int→Prop):Prop:=(Zu IntKind.i64 (-x0)∧Q (Max.max x0 (-x0)))
def ZK.wp (x0:Int) (x1:Int) (Q:Lin→Prop):Prop:=(((0:Int)≤x0∧(x0≤x0∧((x0*((8:Nat):Int))≤(140737488355328:Int)∧x0≤(9223372036854775807:Int))))∧Q ((List.replicate (Int.toNat x0) (0:Int)),x1))
def Z3.wp (x0:Zc) (x1:Int) (x2:Int) (x3:Int) (x4:Lin) (Q:Zc→Prop):Prop:=let v0:=List.getD x0.2.2.1 (Int.toNat x1) (0:Int);let v1:=Zk.fn (x0.2.2,(x1,()));(Zk.pre (x0.2.2,(x1,()))∧(Zu IntKind.i64 (x0.2.1*x2)∧(((0:Int)≤x1∧x1 < ((List.length x0.2.2.1:Nat):Int))∧(Zu IntKind.i64 (v0*x3)∧(ZB.pre (x2,(v1,((v0*x3),(x4,()))))∧Q (x0.1,((x0.2.1*x2),(ZB.fn (x2,(v1,((v0*x3),(x4,()))))))))))))
theorem ZM.spec (a:Int) (l:Lin) (b:Int) (m:Lin) (hp:ZM.pre (a,l,b,m,())):ZM.wp a l b m (fun r=>r=ZM.fn (a,l,b,m,())):=ZB.spec a l b m hp
theorem Z9.spec (l:Lin) (k:Int) (hp:Z9.pre (l,k,())):Z9.wp l k (fun r=>r=Z9.fn (l,k,())):=by
 obtain ⟨⟨h1,h2,h3⟩,h4,h5⟩:=hp
 simp only at h1 h2 h3 h4 h5
 exact ⟨by omega,⟨by omega,by omega⟩,rfl⟩
theorem Zp.spec (n:Int) (hp:Zp.pre (n,())):Zp.wp n (fun r=>r=Zp.fn (n,())):=by
 obtain ⟨h1,h2⟩:=hp
 simp only at h1 h2
 exact ⟨⟨by omega,by omega⟩,rfl⟩
theorem ZK.spec (n k:Int) (hp:ZK.pre (n,k,())):ZK.wp n k (fun r=>r=ZK.fn (n,k,())):=by
 obtain ⟨h1,h2⟩:=hp
 simp only at h1 h2
 exact ⟨⟨h1,Int.le_refl _,by omega,by omega⟩,rfl⟩
theorem Zw3 (l:List Int):∀ m:Nat,l.foldl (fun m n=>Nat.lcm m n.natAbs) m=Nat.lcm m (ZfJ l):=by
 induction l with
 | nil=>intro m;simp [ZfJ]
 | cons n l ih =>
   intro m
   have h0:ZfJ (n::l)=Nat.lcm n.natAbs (ZfJ l):=by
    show (n::l).foldl _ 1=_
    rw [List.foldl_cons,ih,Nat.lcm_one_left]
   rw [List.foldl_cons,ih,h0,Nat.lcm_assoc]
theorem ZfO (n:Int) (l:List Int):ZfJ (n::l)=Nat.lcm n.natAbs (ZfJ l):=by
 show (n::l).foldl _ 1=_
 rw [List.foldl_cons,Zw3,Nat.lcm_one_left]
theorem Zkw {l:List Int} (h:∀ n∈l,1≤n):1≤ZfJ l:=by
 induction l with
 | nil=>simp [ZfJ]
 | cons n l ih =>
   rw [ZfO]
   have h1:=h n (by simp)
   exact Nat.lcm_pos (by omega) (ih fun m hm=>h m (List.mem_cons_of_mem _ hm))
theorem Zhw {l:List Int} {n:Int} (h:n∈l):n ∣ (ZfJ l:Int):=by
 induction l with
 | nil=>simp at h
 | cons m l ih =>
   rw [ZfO]
   rcases List.mem_cons.1 h with rfl | h
   ·exact Int.natAbs_dvd.1 (Int.natCast_dvd_natCast.2 (Nat.dvd_lcm_left _ _))
   ·exact Int.dvd_trans (ih h) (Int.natCast_dvd_natCast.2 (Nat.dvd_lcm_right _ _))
theorem Ztb {l:List Int} {m:Nat} (h:∀ n∈l,n ∣ (m:Int)):ZfJ l ∣ m:=by
 induction l with
 | nil=>simp [ZfJ]
 | cons n l ih =>
   rw [ZfO]
   exact Nat.lcm_dvd (Int.ofNat_dvd_right.1 (h n (by simp))) (ih fun m hm=>h m (List.mem_cons_of_mem _ hm))
theorem Zjv (l:List Int):(ZhH l).2=1∨(ZhH l).2=3∨((ZhH l).2=0∧(∀ n∈l,1≤n)∧(ZhH l).1=(ZfJ l:Int)∧ZfJ l≤512):=by
 unfold ZhH
 split
 ·exact .inl rfl
 ·rename_i h
  split
  ·exact .inr (.inl rfl)
  ·refine .inr (.inr ⟨rfl,fun n hn=>?_,rfl,by omega⟩)
   simp only [List.any_eq_true,decide_eq_true_eq,not_exists,not_and,Int.not_lt] at h
   exact h n hn
theorem Zky {n:Nat} (h:n≤9223372036854775807):IntKind.wrap .u64 (n:Int)=(n:Int):=by
 simp only [IntKind.wrap,IntKind.bits,IntKind.signed]
 simp;omega
theorem Zan.spec (g n:Int) (hp:Zan.pre (g,n,())):Zan.wp g n (fun r=>r=Zan.fn (g,n,())):=by
 obtain ⟨h1,h2⟩:=hp
 simp only at h1 h2
 have e:IntKind.wrap .u64 n=n:=by
  have:=Zky (n:=n.toNat) (by omega)
  rwa [Int.toNat_of_nonneg (by omega)] at this
 simp only [Zan.wp,Zan.fn,e]
 by_cases hg:(512:Int) < g
 ·simp [hg]
 ·simp only [decide_eq_false hg,Bool.not_false,forall_const,true_and,Bool.false_or]
  by_cases hn:(512:Int) < n
  ·simp [hn]
  ·simp only [decide_eq_false hn,cond_false]
   refine ⟨?_,by simp⟩
   unfold Z2.fn
   simp only
   rw [if_neg (by omega)]
   split
   ·omega
   ·intro h0
    have:Nat.gcd g.toNat n.toNat=0:=by omega
    rw [Nat.gcd_eq_zero_iff] at this
    omega
def Ztp (g n:Int):Int:=Zan.fn (g,n,())
theorem Zr0 {m : Nat} {g n : Int} (hm : 1 ≤ m) (hn : 1 ≤ n) (hn2 : n ≤ 9223372036854775807) (hg : (m ≤ 512 ∧ g = (m : Int)) ∨ (512 < m ∧ 512 < g ∧ g ≤ 262144)) :
 (Nat.lcm m n.natAbs≤512∧Ztp g n=(Nat.lcm m n.natAbs:Int))∨(512 < Nat.lcm m n.natAbs∧512 < Ztp g n∧Ztp g n≤262144):=by
 have e:IntKind.wrap .u64 n=n:=by
  have:=Zky (n:=n.toNat) (by omega)
  rwa [Int.toNat_of_nonneg (by omega)] at this
 have hna:(n.natAbs:Int)=n:=by omega
 have hpos:1≤Nat.lcm m n.natAbs:=Nat.lcm_pos (by omega) (by omega)
 have hle1:m≤Nat.lcm m n.natAbs:=Nat.le_of_dvd hpos (Nat.dvd_lcm_left _ _)
 have hle2:n.natAbs≤Nat.lcm m n.natAbs:=Nat.le_of_dvd hpos (Nat.dvd_lcm_right _ _)
 unfold Ztp Zan.fn
 simp only [e]
 rcases hg with ⟨h1,rfl⟩ | ⟨h1,h2,h3⟩
 ·by_cases hb:(512:Int) < n
  ·rw [if_pos (by simp [hb])]
   exact .inr ⟨by omega,by omega,by omega⟩
  ·rw [if_neg (by simp;omega)]
   have hc:Z2.fn ((m:Int),n,())=(Nat.gcd m n.natAbs:Nat):=by
    unfold Z2.fn
    simp only
    rw [if_neg (by omega),if_neg (by omega)]
    congr 2
    omega
   have hgp:0 < Nat.gcd m n.natAbs:=Nat.gcd_pos_of_pos_left _ (by omega)
   have hdiv:Int.tdiv (m:Int) ((Nat.gcd m n.natAbs:Nat):Int)=((m / Nat.gcd m n.natAbs:Nat):Int):=by
    rw [Int.tdiv_eq_ediv_of_nonneg (by omega)];rfl
   have hlc:m / Nat.gcd m n.natAbs*n.natAbs=Nat.lcm m n.natAbs:=by
    rw [Nat.lcm,Nat.div_mul_right_comm (Nat.gcd_dvd_left _ _)]
   have hq:m / Nat.gcd m n.natAbs≤m:=Nat.div_le_self _ _
   have hl:Nat.lcm m n.natAbs≤262144:=by
    rw [← hlc]
    have:=Nat.mul_le_mul (show m / Nat.gcd m n.natAbs≤512 by omega) (show n.natAbs≤512 by omega)
    omega
   rw [hc,hdiv,Zky (n:=m / Nat.gcd m n.natAbs) (by omega),← hna,show ((m / Nat.gcd m (n.natAbs:Int).natAbs:Nat):Int)*((n.natAbs:Nat):Int)=((m / Nat.gcd m n.natAbs*n.natAbs:Nat):Int) from by rw [Int.natAbs_natCast];push_cast;rfl,Int.natAbs_natCast,hlc,Zky (n:=Nat.lcm m n.natAbs) (by omega)]
   by_cases hs:Nat.lcm m n.natAbs≤512
   ·exact .inl ⟨hs,rfl⟩
   ·exact .inr ⟨by omega,by omega,by omega⟩
 ·rw [if_pos (by simp;omega)]
  exact .inr ⟨by omega,by omega,by omega⟩
theorem ZqM {l : List Int} (h : ∀ n ∈ l, 1 ≤ n ∧ n ≤ 9223372036854775807) : ∀ {m : Nat} {g : Int}, 1 ≤ m → ((m ≤ 512 ∧ g = (m : Int)) ∨ (512 < m ∧ 512 < g ∧ g ≤ 262144)) →
 (Nat.lcm m (ZfJ l)≤512∧l.foldl Ztp g=(Nat.lcm m (ZfJ l):Int))∨(512 < Nat.lcm m (ZfJ l)∧512 < l.foldl Ztp g∧l.foldl Ztp g≤262144):=by
 induction l with
 | nil=>intro m g hm hg;simpa [ZfJ] using hg
 | cons n l ih =>
   intro m g hm hg
   have hn:=h n (by simp)
   rw [List.foldl_cons,ZfO,← Nat.lcm_assoc]
   exact ih (fun k hk=>h k (List.mem_cons_of_mem _ hk)) (Nat.lcm_pos (by omega) (by omega)) (Zr0 hm hn.1 hn.2 hg)
theorem ZQ.spec (l:List Int) (hl:l.length≤9223372036854775807) (hp:ZQ.pre (l,())):ZQ.wp l (fun r=>r=ZQ.fn (l,())):=by
 have hb:ZcI l:=hp
 have hfn:ZQ.fn (l,())=ZhH l:=rfl
 simp only [ZQ.wp,hfn]
 have hany:(l.all fun n=>!decide (n < 1))=!(l.any fun n=>decide (n < 1)):=by simp [List.all_eq_not_any_not]
 refine Lp.all l 0 (fun n=>!decide (n < 1)) hl (fun i R hi hi' hf h1 h2=>?_) (fun R hall=>?_)
 ·simp only [decide_eq_true hi',Int.toNat_natCast,cond_true]
  refine ⟨⟨by omega,hi'⟩,?_⟩
  cases hd:decide (l.getD i 0 < 1) with
  | true =>
    simp only [cond_true]
    have:=h2 (by rw [hd];rfl)
    rw [hany] at this
    unfold ZhH
    rw [if_pos (by simpa using this)]
  | false=>exact ⟨hf,h1 (by rw [hd];rfl)⟩
 ·simp only [Int.lt_irrefl,decide_false,cond_false]
  rw [hany] at hall
  have hall':(l.any fun n=>decide (n < 1))=false:=by simpa using hall
  have hpos:∀ n∈l,1≤n:=fun n hn=>by
   rw [List.any_eq_false] at hall'
   have:=hall' n hn
   simp at this;omega
  have hfold:Zy.fn (l,((1:Int),((fun (a4:Int×Int)=>Zan.pre (a4.1,a4.2,()),fun (a4:Int×Int)=>Zan.fn (a4.1,(a4.2,()))),())))=l.foldl Ztp 1:=rfl
  refine ⟨fun g n hn=>⟨hpos n hn,(hb n hn).2⟩,?_⟩
  rw [hfold]
  have key:=ZqM (fun n hn=>⟨hpos n hn,(hb n hn).2⟩) (m:=1) (g:=1) (by omega) (.inl ⟨by omega,rfl⟩)
  rw [Nat.lcm_one_left] at key
  have hF:ZhH l=if 512 < ZfJ l then ((0:Int),(3:Int)) else (((ZfJ l:Nat):Int),0):=by
   unfold ZhH;rw [if_neg (by rw [hall'];simp)]
  rw [hF]
  rcases key with ⟨h1,h2⟩ | ⟨h1,h2,h3⟩
  ·rw [h2,decide_eq_false (by omega),if_neg (by omega)]
   exact ⟨⟨by omega,by omega⟩,rfl⟩
  ·rw [decide_eq_true h2,if_pos h1]
   rfl
theorem Zam.spec (l:List Int) (hl:l.length≤9223372036854775807) (hp:Zam.pre (l,())):Zam.wp l (fun r=>r=Zam.fn (l,())):=by
 have hfn:Zam.fn (l,())=ZhH l:=rfl
 simp only [Zam.wp,hfn]
 have hany:(l.all fun n=>!decide (n < 1))=!(l.any fun n=>decide (n < 1)):=by simp [List.all_eq_not_any_not]
 refine Lp.all l 0 (fun n=>!decide (n < 1)) hl (fun i R hi hi' hf h1 h2=>?_) (fun R hall=>?_)
 ·simp only [decide_eq_true hi',Int.toNat_natCast,cond_true]
  refine ⟨⟨by omega,hi'⟩,?_⟩
  cases hd:decide (l.getD i 0 < 1) with
  | true =>
    simp only [cond_true]
    have:=h2 (by rw [hd];rfl)
    rw [hany] at this
    unfold ZhH
    rw [if_pos (by simpa using this)]
  | false=>exact ⟨hf,h1 (by rw [hd];rfl)⟩
 ·simp only [Int.lt_irrefl,decide_false,cond_false]
  rw [hany] at hall
  have hall':(l.any fun n=>decide (n < 1))=false:=by simpa using hall
  have hpos:∀ n∈l,1≤n:=fun n hn=>by
   rw [List.any_eq_false] at hall'
   have:=hall' n hn
   simp at this;omega
  have hF:ZhH l=if 512 < ZfJ l then ((0:Int),(3:Int)) else (((ZfJ l:Nat):Int),0):=by
   unfold ZhH;rw [if_neg (by rw [hall'];simp)]
  rw [hF]
  have hLp:=Zkw hpos
  have hsm:∀ m:Nat,1≤m→m < ZfJ l→(l.all fun n=>Int.tmod (m:Int) n == 0)=false:=fun m hm hlt=>by
   cases e:l.all fun n=>Int.tmod (m:Int) n == 0 with
   | false=>rfl
   | true =>
     rw [List.all_eq_true] at e
     have:=Nat.le_of_dvd hm (Ztb fun n hn=>Int.dvd_of_tmod_eq_zero (by simpa using e n hn))
     omega
  obtain ⟨N,hN⟩:∃ N:Nat,N=513:=⟨_,rfl⟩
  refine Lp.iter N (fun k (y:Int)=>y=(k:Int)+1∧k < ZfJ l) ⟨rfl,by omega⟩ ?_
  intro k y hk hI R1 hR
  have hy:y=(k:Int)+1:=hI.1
  have hkl:k < ZfJ l:=hI.2
  clear hI
  by_cases h512:k+1≤512
  ·simp only [hy,decide_eq_true (show ((k:Int)+1)≤512 by omega),cond_true]
   refine Lp.iter l.length (fun i (z:Int×Bool)=>z=((i:Int),(l.take i).all fun n=>Int.tmod ((k:Int)+1) n == 0)) (by simp) ?_
   rintro i z hi rfl R2 hR2
   by_cases hil:i < l.length
   ·have hi':(i:Int) < (l.length:Int):=by omega
    have hd:l.getD i 0≠0:=by have:=hpos _ (Zj (d:=0) hil);omega
    simp only [decide_eq_true hi',Int.toNat_natCast,cond_true]
    refine ⟨⟨by omega,hi'⟩,fun h=>⟨h,h,hd⟩,fun h=>⟨h,trivial⟩,fun h=>h,⟨by omega,by omega⟩,hR2 hil _ ?_⟩
    have ht:l.take (i+1)=l.take i++[l.getD i 0]:=by
     rw [List.take_add_one,List.getElem?_eq_getElem hil,ZT hil];rfl
    rw [ht,List.all_append]
    simp
   ·have:i=l.length:=by omega
    subst this
    simp only [Int.lt_irrefl,decide_false,cond_false,List.take_length]
    cases e:l.all fun n=>Int.tmod ((k:Int)+1) n == 0 with
    | true =>
      simp only [cond_true]
      have:¬ k+1 < ZfJ l:=fun hlt=>by
       have:=hsm (k+1) (by omega) hlt
       rw [show ((k+1:Nat):Int)=(k:Int)+1 from rfl,e] at this;cases this
      rw [if_neg (by omega)]
      have:ZfJ l=k+1:=by omega
      rw [this];rfl
    | false =>
      simp only [cond_false]
      refine ⟨⟨by omega,by omega⟩,hR (by omega) _ ⟨by push_cast;omega,?_⟩⟩
      apply Classical.byContradiction
      intro hge
      have hk1:ZfJ l=k+1:=by omega
      rw [List.all_eq_false] at e
      obtain ⟨n,hn,hne⟩:=e
      have:=Zhw hn
      rw [hk1] at this
      apply hne
      simp only [beq_iff_eq]
      exact Int.tmod_eq_zero_of_dvd this
  ·simp only [hy,decide_eq_false (show ¬ ((k:Int)+1)≤512 by omega),cond_false]
   rw [if_pos (by omega)]
theorem ZdA {n j:Nat} {f:Nat→Int} (h:j < n):((List.range n).map f).getD j 0=f j:=by
 rw [List.getD_eq_getElem?_getD,List.getElem?_map,List.getElem?_range h];rfl
theorem ZfL {n j:Nat} {f g:Nat→Int} (h:∀ i,i≠j→f i=g i):((List.range n).map f).set j (g j)=(List.range n).map g:=by
 apply List.ext_getElem (by simp)
 intro i h1 h2
 simp only [List.getElem_set,List.getElem_map,List.getElem_range]
 split
 ·rename_i e;rw [e]
 ·rename_i e;exact h i (fun e'=>e e'.symm)
theorem Zc5 {n:Nat} {f g:Nat→Int} (h:∀ i,i < n→f i=g i):(List.range n).map f=(List.range n).map g:=by
 apply List.map_congr_left
 intro i hi
 exact h i (List.mem_range.1 hi)
theorem ZfS {α:Type} (d:α) (l:List α):(Zbw d l).length=l.length:=by simp [Zbw]
theorem Zj8 {α:Type} (d:α) (l:List α) {i:Nat} (h:i < l.length):(Zbw d l).take (i+1)=(Zbw d l).take i++[(i,l.getD i d)]:=by
 have h':i < (Zbw d l).length:=by rw [ZfS];exact h
 rw [List.take_add_one,List.getElem?_eq_getElem h']
 simp [Zbw]
theorem ZbP {α:Type} {l:List α} {d:α} {i:Nat} (h:i < l.length):l.take (i+1)=l.take i++[l.getD i d]:=by
 rw [List.take_add_one,List.getElem?_eq_getElem h,ZT h];rfl
def ZdB (st:Int×Int) (ia:Nat×Int):Int×Int:=if ia.2=0 then st else (if ia.2=1∨ia.2=-1 then max st.1 (ia.1:Int) else st.1,max st.2 (ia.1:Int))
theorem Zut (l:List Int) (st:Int×Int):ZuO l st=(Zbw 0 l).foldl ZdB st:=rfl
def ZpP (st:Int×Int) (c:Zc):Int×Int:=if c.1=1 then ZuO c.2.2.1 st else st
theorem Zoz (p:List Zc):Zio p=p.foldl ZpP (-1,-1):=rfl
theorem Zp4 (p:List Zc) (c:Zc) (v:Nat):ZmG (p++[c]) v=ZmG p v+if c.1=0∧0 < Zf v c then 1 else 0:=by
 unfold ZmG
 rw [List.filter_append,List.length_append]
 congr 1
 by_cases h:c.1=0∧0 < Zf v c
 ·simp [h]
 ·rw [if_neg h];simp [h]
theorem ZsN (p:List Zc) (c:Zc) (v:Nat):upN (p++[c]) v=upN p v+if c.1=0∧Zf v c < 0 then 1 else 0:=by
 unfold upN
 rw [List.filter_append,List.length_append]
 congr 1
 by_cases h:c.1=0∧Zf v c < 0
 ·simp [h]
 ·rw [if_neg h];simp [h]
theorem ZmU (p:List Zc) (v:Nat):ZmG p v≤p.length:=List.length_filter_le _ _
theorem ZrM (p:List Zc) (v:Nat):upN p v≤p.length:=List.length_filter_le _ _
theorem Zqd (p:List Zc) (i v:Nat):ZmG (p.take i) v≤p.length:=Nat.le_trans (ZmU _ _) (by rw [List.length_take];omega)
theorem Zsa (p:List Zc) (i v:Nat):upN (p.take i) v≤p.length:=Nat.le_trans (ZrM _ _) (by rw [List.length_take];omega)
def Zo3 (p:List Zc) (b v:Nat):Nat:=if Zkt p v≤Zkt p b then v else b
theorem ZsF (p:List Zc) (n:Nat):Zfv p n=(List.range n).foldl (Zo3 p) 0:=rfl
theorem Zgw (p:List Zc) (n:Nat):Zfv p (n+1)=Zo3 p (Zfv p n) n:=by
 rw [ZsF,List.range_succ,List.foldl_append];rfl
theorem Zlc (p:List Zc):∀ n:Nat,0 < n→Zfv p n < n
 | 0,h=>absurd h (by omega)
 | 1,_=>by
   rw [Zgw]
   have:Zfv p 0=0:=rfl
   rw [this];unfold Zo3;split<;>omega
 | n+2,_=>by
   rw [Zgw]
   have:=Zlc p (n+1) (by omega)
   unfold Zo3;split<;>omega
theorem Ztw {a b:Nat} (ha:a≤400) (hb:b≤400):Zu .i64 ((a:Int)*(b:Int)):=by
 have h:=Nat.mul_le_mul ha hb
 have e:(a:Int)*(b:Int)=((a*b:Nat):Int):=by push_cast;rfl
 rw [e]
 exact ⟨by omega,by omega⟩
theorem ZuR {N:Nat} {st:Int×Int} {ia:Nat×Int} (h:-1≤st.1∧st.1 < N∧-1≤st.2∧st.2 < N) (hi:ia.1 < N):-1≤(ZdB st ia).1∧(ZdB st ia).1 < N∧-1≤(ZdB st ia).2∧(ZdB st ia).2 < N:=by
 unfold ZdB
 split
 ·exact h
 ·refine ⟨?_,?_,?_,?_⟩<;>simp only []<;>(try split)<;>omega
theorem Zv3 {N:Nat} {l:List Int} {st:Int×Int} (h:-1≤st.1∧st.1 < N∧-1≤st.2∧st.2 < N) (hl:l.length≤N):-1≤(ZuO l st).1∧(ZuO l st).1 < N∧-1≤(ZuO l st).2∧(ZuO l st).2 < N:=by
 rw [Zut]
 have key:∀ (m:List (Nat×Int)) (st:Int×Int),(∀ x∈m,x.1 < N)→(-1≤st.1∧st.1 < N∧-1≤st.2∧st.2 < N)→-1≤(m.foldl ZdB st).1∧(m.foldl ZdB st).1 < N∧-1≤(m.foldl ZdB st).2∧(m.foldl ZdB st).2 < N:=by
  intro m
  induction m with
  | nil=>exact fun st _ h=>h
  | cons x m ih=>exact fun st hm h=>ih _ (fun y hy=>hm y (List.mem_cons_of_mem _ hy)) (ZuR h (hm x (by simp)))
 refine key _ st (fun x hx=>?_) h
 simp only [Zbw,List.mem_map,List.mem_range] at hx
 obtain ⟨i,hi,rfl⟩:=hx
 simp only;omega
theorem ZuL {p:List Zc} {N:Nat} (h:∀ c∈p,c.2.2.1.length≤N):-1≤(Zio p).1∧(Zio p).1 < N∧-1≤(Zio p).2∧(Zio p).2 < N:=by
 rw [Zoz]
 have key:∀ (m:List Zc) (st:Int×Int),(∀ c∈m,c.2.2.1.length≤N)→(-1≤st.1∧st.1 < N∧-1≤st.2∧st.2 < N)→-1≤(m.foldl ZpP st).1∧(m.foldl ZpP st).1 < N∧-1≤(m.foldl ZpP st).2∧(m.foldl ZpP st).2 < N:=by
  intro m
  induction m with
  | nil=>exact fun st _ h=>h
  | cons x m ih =>
    refine fun st hm h=>ih _ (fun y hy=>hm y (List.mem_cons_of_mem _ hy)) ?_
    unfold ZpP
    split
    ·exact Zv3 h (hm x (by simp))
    ·exact h
 exact key p _ h ⟨by omega,by simp only;omega,by omega,by simp only;omega⟩
theorem Zqg {p:List Zc} {n:Int} (h:pieceN p n) (h1:1≤n):0≤ZbI p n∧ZbI p n < n:=by
 obtain ⟨_,hc,h0,h12⟩:=h
 have hb:=ZuL (p:=p) (N:=n.toNat) fun c hc'=>by have:=(hc c hc').2;omega
 have hbest:=Zlc p n.toNat (by omega)
 unfold ZbI
 split
 ·omega
 ·split
  ·omega
  ·omega
theorem Z7.spec (p:List Zc) (n:Int) (hp:Z7.pre (p,n,())):Z7.wp p n (fun r=>r=Z7.fn (p,n,())):=by
 obtain ⟨h400,hc,h0,h12⟩:=hp
 simp only at h400 hc h0 h12
 have hfn:Z7.fn (p,n,())=ZbI p n:=rfl
 simp only [Z7.wp,hfn]
 obtain ⟨N,rfl⟩:∃ N:Nat,n=(N:Int):=⟨n.toNat,by omega⟩
 simp only [Int.toNat_natCast]
 refine ⟨⟨h0,Int.le_refl _,by omega,by omega⟩,⟨h0,Int.le_refl _,by omega,by omega⟩,?_⟩
 have hrep:List.replicate N (0:Int)=(List.range N).map fun v=>(ZmG (p.take 0) v:Int):=by
  apply List.ext_getElem (by simp)
  intro i h1 h2
  simp [ZmG]
 have hrep':List.replicate N (0:Int)=(List.range N).map fun v=>(upN (p.take 0) v:Int):=by
  apply List.ext_getElem (by simp)
  intro i h1 h2
  simp [upN]
 refine Lp.iter p.length (fun i z=>z=((i:Int),((p.take i).foldl ZpP (-1,-1)).1,((p.take i).foldl ZpP (-1,-1)).2,((List.range N).map fun v=>(ZmG (p.take i) v:Int)),((List.range N).map fun v=>(upN (p.take i) v:Int)))) (by rw [← hrep,← hrep'];rfl) ?_
 rintro i z hle rfl R hR
 by_cases e:i < p.length
 ·have e':(i:Int) < (p.length:Int):=by omega
  simp only [decide_eq_true e',Int.toNat_natCast,cond_true]
  refine ⟨⟨by omega,e'⟩,?_⟩
  have hmem:=Zj (d:=Za) e
  obtain ⟨c,hcc⟩:∃ c,p.getD i Za=c:=⟨_,rfl⟩
  simp only [hcc] at hmem ⊢
  obtain ⟨hcv,hcl⟩:=hc c hmem
  have hcN:c.2.2.1.length=N:=by omega
  obtain ⟨st,hst⟩:∃ st,(p.take i).foldl ZpP (-1,-1)=st:=⟨_,rfl⟩
  simp only [hst]
  have hs1:(p.take (i+1)).foldl ZpP (-1,-1)=ZpP st c:=by rw [ZbP (d:=Za) e,List.foldl_append,hst,hcc];rfl
  have hlo:∀ v,ZmG (p.take (i+1)) v=ZmG (p.take i) v+if c.1=0∧0 < Zf v c then 1 else 0:=fun v=>by rw [ZbP (d:=Za) e,Zp4,hcc]
  have hup:∀ v,upN (p.take (i+1)) v=upN (p.take i) v+if c.1=0∧Zf v c < 0 then 1 else 0:=fun v=>by rw [ZbP (d:=Za) e,ZsN,hcc]
  refine Lp.iter c.2.2.1.length (fun j z=>z=((j:Int),(if c.1=1 then ((Zbw 0 c.2.2.1).take j).foldl ZdB st else st).1,(if c.1=1 then ((Zbw 0 c.2.2.1).take j).foldl ZdB st else st).2,
   ((List.range N).map fun v=>(ZmG (p.take i) v:Int)+if v < j∧c.1=0∧0 < Zf v c then 1 else 0),((List.range N).map fun v=>(upN (p.take i) v:Int)+if v < j∧c.1=0∧Zf v c < 0 then 1 else 0))) (by simp) ?_
  rintro j z hj rfl R1 hR1
  by_cases ej:j < c.2.2.1.length
  ·have ej':(j:Int) < (c.2.2.1.length:Int):=by omega
   have hjN:j < N:=by omega
   have hcoef:c.2.2.1.getD j 0=Zf j c:=rfl
   have hst1:((Zbw 0 c.2.2.1).take (j+1)).foldl ZdB st=ZdB (((Zbw 0 c.2.2.1).take j).foldl ZdB st) (j,Zf j c):=by
    rw [Zj8 0 _ ej,List.foldl_append];rfl
   have hR1':=hR1 ej _ rfl
   simp only [hst1] at hR1'
   simp only [decide_eq_true ej',Int.toNat_natCast,cond_true,hcoef]
   refine ⟨⟨by omega,ej'⟩,?_⟩
   have hfj:Zu IntKind.i64 ((j:Int)+1):=⟨by omega,by omega⟩
   have hsame:∀ (f:Nat→Int) (g:Nat→Prop) [DecidablePred g],(∀ v,v=j→¬ g v)→((List.range N).map fun v=>f v+if v < j+1∧g v then 1 else 0)=((List.range N).map fun v=>f v+if v < j∧g v then (1:Int) else 0):=fun f g _ hg=>by
    apply Zc5
    intro v hv
    congr 1
    by_cases hvj:v=j
    ·have:=hg v hvj
     rw [if_neg (fun h=>this h.2),if_neg (fun h=>this h.2)]
    ·by_cases hg':g v
     ·by_cases hlt:v < j
      ·rw [if_pos ⟨by omega,hg'⟩,if_pos ⟨hlt,hg'⟩]
      ·rw [if_neg (by omega),if_neg (by omega)]
     ·rw [if_neg (fun h=>hg' h.2),if_neg (fun h=>hg' h.2)]
   by_cases ha:Zf j c=0
   ·rw [ha]
    refine ⟨hfj,?_⟩
    have hx:ZdB (((Zbw 0 c.2.2.1).take j).foldl ZdB st) (j,Zf j c)=((Zbw 0 c.2.2.1).take j).foldl ZdB st:=by unfold ZdB;rw [if_pos ha]
    rw [hx,hsame _ (fun v=>c.1=0∧0 < Zf v c) (fun v hv h=>by subst hv;omega),hsame _ (fun v=>c.1=0∧Zf v c < 0) (fun v hv h=>by subst hv;omega)] at hR1'
    exact hR1'
   ·have ha':(Zf j c == 0)=false:=by simpa using ha
    rw [ha',cond_false]
    by_cases h1:c.1=1
    ·have h1':(c.1 == 1)=true:=by simpa using h1
     rw [h1',cond_true]
     rw [hsame _ (fun v=>c.1=0∧0 < Zf v c) (fun v hv h=>by omega),hsame _ (fun v=>c.1=0∧Zf v c < 0) (fun v hv h=>by omega)] at hR1'
     simp only [if_pos h1] at hR1' ⊢
     unfold ZdB at hR1'
     rw [if_neg ha] at hR1'
     refine ⟨fun h=>⟨h,trivial⟩,fun h=>by rw [h];rfl,?_⟩
     by_cases hu:Zf j c=1∨Zf j c=-1
     ·rw [show ((Zf j c == 1)||(Zf j c == (-(1:Int))))=true by simpa using hu,cond_true]
      simp only [if_pos hu] at hR1'
      exact ⟨hfj,hR1'⟩
     ·rw [show ((Zf j c == 1)||(Zf j c == (-(1:Int))))=false by simpa using hu,cond_false]
      simp only [if_neg hu] at hR1'
      exact ⟨hfj,hR1'⟩
    ·have h1':(c.1 == 1)=false:=by simpa using h1
     rw [h1',cond_false]
     simp only [if_neg h1] at hR1' ⊢
     refine ⟨fun h=>⟨h,trivial⟩,fun h=>h,?_⟩
     simp only [List.length_map,List.length_range,ZdA hjN]
     have hlt0:(if j < j∧c.1=0∧0 < Zf j c then (1:Int) else 0)=0:=if_neg (by omega)
     have hlt1:(if j < j∧c.1=0∧Zf j c < 0 then (1:Int) else 0)=0:=if_neg (by omega)
     have hlb:=Zqd p i j
     have hub:=Zsa p i j
     by_cases h0':c.1=0
     ·have h0b:(c.1 == 0)=true:=by simpa using h0'
      by_cases hpos:0 < Zf j c
      ·rw [h0b,decide_eq_true hpos,Bool.and_self,cond_true]
       refine ⟨⟨by omega,by omega⟩,hjN,⟨by omega,by omega⟩,⟨by omega,by omega⟩,hjN,hfj,?_⟩
       rw [hsame _ (fun v=>c.1=0∧Zf v c < 0) (fun v hv h=>by subst hv;omega)] at hR1'
       rw [hlt0,Int.add_zero]
       have hset:=ZfL (n:=N) (j:=j) (f:=fun v=>(ZmG (p.take i) v:Int)+if v < j∧c.1=0∧0 < Zf v c then 1 else 0) (g:=fun v=>(ZmG (p.take i) v:Int)+if v < j+1∧c.1=0∧0 < Zf v c then 1 else 0) (fun v hv=>by
        congr 1
        by_cases hlt:v < j
        ·by_cases hx:c.1=0∧0 < Zf v c
         ·rw [if_pos ⟨hlt,hx⟩,if_pos ⟨by omega,hx⟩]
         ·rw [if_neg (fun h=>hx h.2),if_neg (fun h=>hx h.2)]
        ·rw [if_neg (by omega),if_neg (by omega)])
       simp only [if_pos (show j < j+1∧c.1=0∧0 < Zf j c from ⟨by omega,h0',hpos⟩)] at hset
       rw [hset]
       exact hR1'
      ·rw [h0b,decide_eq_false hpos,Bool.and_false,cond_false,cond_true]
       refine ⟨⟨by omega,by omega⟩,hjN,⟨by omega,by omega⟩,⟨by omega,by omega⟩,hjN,hfj,?_⟩
       rw [hsame _ (fun v=>c.1=0∧0 < Zf v c) (fun v hv h=>by subst hv;omega)] at hR1'
       rw [hlt1,Int.add_zero]
       have hneg:Zf j c < 0:=by omega
       have hset:=ZfL (n:=N) (j:=j) (f:=fun v=>(upN (p.take i) v:Int)+if v < j∧c.1=0∧Zf v c < 0 then 1 else 0) (g:=fun v=>(upN (p.take i) v:Int)+if v < j+1∧c.1=0∧Zf v c < 0 then 1 else 0) (fun v hv=>by
        congr 1
        by_cases hlt:v < j
        ·by_cases hx:c.1=0∧Zf v c < 0
         ·rw [if_pos ⟨hlt,hx⟩,if_pos ⟨by omega,hx⟩]
         ·rw [if_neg (fun h=>hx h.2),if_neg (fun h=>hx h.2)]
        ·rw [if_neg (by omega),if_neg (by omega)])
       simp only [if_pos (show j < j+1∧c.1=0∧Zf j c < 0 from ⟨by omega,h0',hneg⟩)] at hset
       rw [hset]
       exact hR1'
     ·have h0b:(c.1 == 0)=false:=by simpa using h0'
      rw [h0b,Bool.false_and,cond_false,cond_false]
      rw [hsame _ (fun v=>c.1=0∧0 < Zf v c) (fun v hv h=>h0' h.1),hsame _ (fun v=>c.1=0∧Zf v c < 0) (fun v hv h=>h0' h.1)] at hR1'
      exact ⟨hfj,hR1'⟩
  ·have:j=c.2.2.1.length:=by omega
   subst this
   simp only [Int.lt_irrefl,decide_false,cond_false]
   refine ⟨⟨by omega,by omega⟩,hR e _ ?_⟩
   rw [hs1]
   have ht:(Zbw 0 c.2.2.1).take c.2.2.1.length=Zbw 0 c.2.2.1:=by rw [← ZfS 0,List.take_length]
   have hE:(if c.1=1 then ((Zbw 0 c.2.2.1).take c.2.2.1.length).foldl ZdB st else st)=ZpP st c:=by rw [ht];rfl
   rw [hE]
   congr 4
   ·apply Zc5
    intro v hv
    rw [hlo v]
    by_cases hx:c.1=0∧0 < Zf v c
    ·rw [if_pos ⟨by omega,hx⟩,if_pos hx];push_cast;rfl
    ·rw [if_neg (fun h=>hx h.2),if_neg hx];push_cast;rfl
   ·apply Zc5
    intro v hv
    rw [hup v]
    by_cases hx:c.1=0∧Zf v c < 0
    ·rw [if_pos ⟨by omega,hx⟩,if_pos hx];push_cast;rfl
    ·rw [if_neg (fun h=>hx h.2),if_neg hx];push_cast;rfl
 ·have:i=p.length:=by omega
  subst this
  simp only [Int.lt_irrefl,decide_false,cond_false,List.take_length]
  rw [← Zoz]
  unfold ZbI
  by_cases hu:0≤(Zio p).1
  ·rw [decide_eq_true hu,cond_true,if_pos hu]
  ·rw [decide_eq_false hu,cond_false,if_neg hu]
   by_cases hu2:0≤(Zio p).2
   ·rw [decide_eq_true hu2,cond_true,if_pos hu2]
   ·rw [decide_eq_false hu2,cond_false,if_neg hu2]
    simp only [Int.toNat_natCast,List.length_map,List.length_range]
    refine Lp.iter N (fun v z=>z=((v:Int),(Zfv p v:Int))) rfl ?_
    rintro v z hv rfl R1 hR1
    by_cases ev:v < N
    ·have hb:Zfv p v < N:=by
      by_cases h:v=0
      ·subst h;have:Zfv p 0=0:=rfl;omega
      ·have:=Zlc p v (by omega);omega
     simp only [decide_eq_true (show (v:Int) < (N:Int) by omega),Int.toNat_natCast,cond_true,ZdA ev,ZdA hb]
     have a1:=ZmU p v
     have a2:=ZrM p v
     have a3:=ZmU p (Zfv p v)
     have a4:=ZrM p (Zfv p v)
     have hR1':=hR1 ev _ rfl
     rw [Zgw] at hR1'
     refine ⟨⟨by omega,by omega⟩,ev,⟨by omega,by omega⟩,ev,Ztw (by omega) (by omega),⟨by omega,by omega⟩,hb,⟨by omega,by omega⟩,hb,Ztw (by omega) (by omega),?_⟩
     have hcst:((ZmG p v:Int)*(upN p v:Int)≤(ZmG p (Zfv p v):Int)*(upN p (Zfv p v):Int))↔Zkt p v≤Zkt p (Zfv p v):=by
      unfold Zkt
      rw [← Int.ofNat_le];push_cast;exact Iff.rfl
     by_cases hle:Zkt p v≤Zkt p (Zfv p v)
     ·rw [decide_eq_true (hcst.2 hle),cond_true]
      unfold Zo3 at hR1'
      rw [if_pos hle] at hR1'
      exact ⟨⟨by omega,by omega⟩,hR1'⟩
     ·rw [decide_eq_false (fun h=>hle (hcst.1 h)),cond_false]
      unfold Zo3 at hR1'
      rw [if_neg hle] at hR1'
      exact ⟨⟨by omega,by omega⟩,hR1'⟩
    ·have:v=N:=by omega
     subst this
     simp only [Int.lt_irrefl,decide_false,cond_false]
theorem Zcq {c:Zc} (h:Zh c=true) (v:Nat):-1048576≤Zf v c∧Zf v c≤1048576 :=
 Zq5 (P:=fun n=>-1048576≤n∧n≤1048576) (ZaG.b (Zh.lin h)).2.1 (by omega)
theorem Zqy {n:Int}:Zbe n=0↔n=0:=by unfold Zbe;omega
def ZF.wp (x0:List (List Zc)) (Q:(List (List Zc))×Int→Prop):Prop:=let v0:=ZG.fn (x0,());(ZG.pre (x0,())∧(((!(v0.2 != (0:Int)))=true→((!(v0.2 != (0:Int)))=true∧True))∧(((!(v0.2 != (0:Int)))=true→((!(v0.2 != (0:Int)))=true∧True))∧(((v0.2 != (0:Int))=false→(!(v0.2 != (0:Int)))=true)∧cond ((v0.2 != (0:Int))||decide ((400:Int) < ((List.length v0.1:Nat):Int))) (Q (([]:List (List (Zc))),(3:Int))) (Q (v0.1,(0:Int)))))))
def ZV.wp (x0:List Zc) (x1:Int) (x2:Int) (Q:(List Zc)→Prop):Prop:=let v0:=List.getD x0 (Int.toNat x1) Za;let v1:=List.getD v0.2.2.1 (Int.toNat x2) (0:Int);let v6:=Zk.fn (v0.2.2,(x2,()));let v8:=[((2:Int),(Zp.fn (v1,()),v6))];(((0:Int)≤x1∧x1 < ((List.length x0:Nat):Int))∧(((0:Int)≤x2∧x2 < ((List.length v0.2.2.1:Nat):Int))∧(((0:Int)≤x1∧x1 < ((List.length x0:Nat):Int))∧(Zk.pre (v0.2.2,(x2,()))∧cond (decide (v1 < (0:Int))) (Lp (σ:=Int×List (Zc)) (fun y4 R4=>let v2:=List.getD x0 (Int.toNat y4.1) Za;let v5:=[(v2.1,(v2.2.1,(Zk.fn (v2.2.2,(x2,())))))];let v7:=Z3.fn (v2,(x2,(Zp.fn (v1,()),((-(-(1:Int))),(v6,())))));cond (decide (y4.1 < ((List.length x0:Nat):Int))) (((0:Int)≤y4.1∧y4.1 < ((List.length x0:Nat):Int))∧cond (y4.1 == x1) (Zu IntKind.i64 (y4.1+(1:Int))∧R4 ((y4.1+(1:Int)),y4.2)) (((0:Int)≤x2∧x2 < ((List.length v2.2.2.1:Nat):Int))∧cond ((List.getD v2.2.2.1 (Int.toNat x2) (0:Int)) == (0:Int)) (Zk.pre (v2.2.2,(x2,()))∧((((List.length y4.2+List.length v5)*48)≤140737488355328∧(List.length y4.2+List.length v5)≤9223372036854775807)∧(Zu IntKind.i64 (y4.1+(1:Int))∧R4 ((y4.1+(1:Int)),(y4.2++v5))))) (Zp.pre (v1,())∧(Zu IntKind.i64 (-(-(1:Int)))∧(Z3.pre (v2,(x2,(Zp.fn (v1,()),((-(-(1:Int))),(v6,())))))∧((((List.length y4.2+List.length [v7])*48)≤140737488355328∧(List.length y4.2+List.length [v7])≤9223372036854775807)∧(Zu IntKind.i64 (y4.1+(1:Int))∧R4 ((y4.1+(1:Int)),(y4.2++[v7]))))))))) (Zp.pre (v1,())∧cond (decide ((1:Int) < Zp.fn (v1,()))) (Zp.pre (v1,())∧((((List.length y4.2+List.length v8)*48)≤140737488355328∧(List.length y4.2+List.length v8)≤9223372036854775807)∧Q (y4.2++v8))) (Q y4.2))) ((0:Int),([]:List (Zc)))) (Lp (σ:=Int×List (Zc)) (fun y4 R4=>let v2:=List.getD x0 (Int.toNat y4.1) Za;let v5:=[(v2.1,(v2.2.1,(Zk.fn (v2.2.2,(x2,())))))];let v9:=Z3.fn (v2,(x2,(Zp.fn (v1,()),((-(1:Int)),(v6,())))));cond (decide (y4.1 < ((List.length x0:Nat):Int))) (((0:Int)≤y4.1∧y4.1 < ((List.length x0:Nat):Int))∧cond (y4.1 == x1) (Zu IntKind.i64 (y4.1+(1:Int))∧R4 ((y4.1+(1:Int)),y4.2)) (((0:Int)≤x2∧x2 < ((List.length v2.2.2.1:Nat):Int))∧cond ((List.getD v2.2.2.1 (Int.toNat x2) (0:Int)) == (0:Int)) (Zk.pre (v2.2.2,(x2,()))∧((((List.length y4.2+List.length v5)*48)≤140737488355328∧(List.length y4.2+List.length v5)≤9223372036854775807)∧(Zu IntKind.i64 (y4.1+(1:Int))∧R4 ((y4.1+(1:Int)),(y4.2++v5))))) (Zp.pre (v1,())∧(Zu IntKind.i64 (-(1:Int))∧(Z3.pre (v2,(x2,(Zp.fn (v1,()),((-(1:Int)),(v6,())))))∧((((List.length y4.2+List.length [v9])*48)≤140737488355328∧(List.length y4.2+List.length [v9])≤9223372036854775807)∧(Zu IntKind.i64 (y4.1+(1:Int))∧R4 ((y4.1+(1:Int)),(y4.2++[v9]))))))))) (Zp.pre (v1,())∧cond (decide ((1:Int) < Zp.fn (v1,()))) (Zp.pre (v1,())∧((((List.length y4.2+List.length v8)*48)≤140737488355328∧(List.length y4.2+List.length v8)≤9223372036854775807)∧Q (y4.2++v8))) (Q y4.2))) ((0:Int),([]:List (Zc))))))))
theorem Lp.flt {α β : Type} {body : Int × List β → (Int × List β → Prop) → Prop} (l : List α) (d : α) (o : List β) (f : Nat × α → Bool) (g : Nat × α → β) (hl : l.length ≤ 9223372036854775807)
 (h:∀ (i:Nat) (t:List β) (R:Int×List β→Prop),i < l.length→(i:Int) < (l.length:Int)→Zu .i64 ((i:Int)+1)→t.length≤o.length+i→(f (i,l.getD i d)=true→R ((i:Int)+1,t++[g (i,l.getD i d)]))→(f (i,l.getD i d)=false→R ((i:Int)+1,t))→body ((i:Int),t) R)
 (h2:∀ R:Int×List β→Prop,(o++((Zbw d l).filter f).map g).length≤o.length+l.length→body ((l.length:Int),o++((Zbw d l).filter f).map g) R):Lp body (0,o):=by
 refine Lp.iter l.length (fun i y=>y=((i:Int),o++(((Zbw d l).take i).filter f).map g)) (by simp) ?_
 rintro i y hle rfl R hR
 have hlen:(o++(((Zbw d l).take i).filter f).map g).length≤o.length+i:=by
  have:=List.length_filter_le f ((Zbw d l).take i)
  rw [List.length_take] at this
  simp only [List.length_append,List.length_map];omega
 by_cases e:i < l.length
 ·have hR':=hR e _ rfl
  rw [Zj8 d l e,List.filter_append] at hR'
  refine h i _ R e (by omega) ⟨by omega,by omega⟩ hlen (fun hf=>?_) (fun hf=>?_)
  ·rw [List.filter_cons_of_pos hf,List.filter_nil,List.map_append,← List.append_assoc] at hR'
   exact hR'
  ·rw [List.filter_cons_of_neg (by rw [hf];simp),List.filter_nil,List.append_nil] at hR'
   exact hR'
 ·have:i=l.length:=by omega
  subst this
  have ht:(Zbw d l).take l.length=Zbw d l:=by rw [← ZfS d,List.take_length]
  rw [ht] at hlen ⊢
  exact h2 R hlen
theorem Zp5 {α:Type} (d:α) (l:List α):(Zbw d l).map (·.2)=l:=by
 apply List.ext_getElem (by simp [Zbw])
 intro i h1 h2
 simp only [Zbw,List.getElem_map,List.getElem_range]
 exact ZT h2
theorem ZdJ {α β:Type} (d:α) (l:List α) (f:α→Bool) (g:α→β):((Zbw d l).filter fun ix=>f ix.2).map (fun ix=>g ix.2)=(l.filter f).map g:=by
 have h:((Zbw d l).map (·.2)).filter f=l.filter f:=by rw [Zp5]
 rw [← h,List.filter_map,List.map_map]
 rfl
theorem ZqV {α:Type} {d:α} {l:List α} {ix:Nat×α} (h:ix∈Zbw d l):ix.1 < l.length∧ix.2=l.getD ix.1 d∧ix.2∈l:=by
 simp only [Zbw,List.mem_map,List.mem_range] at h
 obtain ⟨i,hi,rfl⟩:=h
 exact ⟨hi,rfl,Zj hi⟩
theorem Lp.flat {α β : Type} {body : Int × List β → (Int × List β → Prop) → Prop} (l : List α) (d : α) (o : List β) (g : α → List β) (hl : l.length ≤ 9223372036854775807)
 (h:∀ (i:Nat) (R:Int×List β→Prop),i < l.length→(i:Int) < (l.length:Int)→Zu .i64 ((i:Int)+1)→R ((i:Int)+1,(o++(l.take i).flatMap g)++g (l.getD i d))→body ((i:Int),o++(l.take i).flatMap g) R)
 (h2:∀ R:Int×List β→Prop,body ((l.length:Int),o++l.flatMap g) R):Lp body (0,o):=by
 refine Lp.iter l.length (fun i y=>y=((i:Int),o++(l.take i).flatMap g)) (by simp) ?_
 rintro i y hle rfl R hR
 by_cases e:i < l.length
 ·refine h i R e (by omega) ⟨by omega,by omega⟩ (hR e _ ?_)
  rw [ZbP (d:=d) e,List.flatMap_append]
  simp
 ·have:i=l.length:=by omega
  subst this
  rw [List.take_length]
  exact h2 R
theorem Zcu {α β:Type} {g:α→List β} {k:Nat}:∀ {l:List α},(∀ x∈l,(g x).length≤k)→(l.flatMap g).length≤l.length*k
 | [],_=>by simp
 | x::l,h=>by
   rw [List.flatMap_cons,List.length_append,List.length_cons,Nat.succ_mul]
   have h1:=h x (by simp)
   have h2:=Zcu (l:=l) fun y hy=>h y (List.mem_cons_of_mem _ hy)
   omega
theorem Zs8 {a b:Int} (ha:-1048576≤a∧a≤1048576) (hb:-1048576≤b∧b≤1048576):-1099511627776≤a*b∧a*b≤1099511627776 :=
 Zdb (n:=1048576) (m:=1048576) (by omega) (by omega) ha.1 ha.2 hb.1 hb.2
theorem Ziw {a:Int} (ha:-1048576≤a∧a≤1048576):-1048576≤Zbe a∧Zbe a≤1048576:=by unfold Zbe;omega
theorem Zt.spec (x:Pc) (hp:Zt.pre (x,())):Zt.wp x (fun r=>r=Zt.fn (x,())):=by
 obtain ⟨⟨k,h400,⟨hpl,hpb⟩,_,_⟩,h0,h1⟩:=hp
 simp only at h400 hpl hpb h0 h1
 have hfn:Zt.fn (x,())=[Zen x]:=rfl
 simp only [Zt.wp,hfn]
 unfold Zen
 have he:x.2.2.2.1.toNat < x.2.2.1.length:=by omega
 have hmem:=Zj (d:=ZbU) he
 obtain ⟨e,hee⟩:∃ e,x.2.2.1.getD x.2.2.2.1.toNat ZbU=e:=⟨_,rfl⟩
 simp only [hee] at hmem ⊢
 obtain ⟨heM,hea,heL,hek⟩:=hpb e hmem
 refine ⟨⟨h0,h1⟩,ZpT.of (P:=fun y=>y.1=Zbe e.2.1∧-y.2.1=(if e.2.1 < 0 then 1 else -1)) ?_ ?_⟩
 ·rintro ⟨size,s,b1,b2⟩ ⟨hy1,hy2⟩
  simp only at hy1 hy2
  simp only [hy1,hy2]
  have key:∀ o:List Zc,o=x.2.1→Lp (σ:=Int×List (Zc)) (fun y4 R4=>let v1:=List.getD x.2.2.1 (Int.toNat y4.1) (Za,((0:Int),(([]:List Int),(0:Int))));let v3:=[(v1.1.1,((Zbe e.2.1*v1.1.2.1),(ZM.fn (Zbe e.2.1,(v1.2.2,(((if e.2.1 < 0 then 1 else -1)*v1.2.1),(e.2.2,())))))))];cond (decide (y4.1 < ((List.length x.2.2.1:Nat):Int))) (((0:Int)≤y4.1∧y4.1 < ((List.length x.2.2.1:Nat):Int))∧cond (y4.1 != x.2.2.2.1) (Zu IntKind.i64 (Zbe e.2.1*v1.1.2.1)∧(Zu IntKind.i64 (if e.2.1 < 0 then 1 else -1)∧(Zu IntKind.i64 ((if e.2.1 < 0 then 1 else -1)*v1.2.1)∧(ZM.pre (Zbe e.2.1,(v1.2.2,(((if e.2.1 < 0 then 1 else -1)*v1.2.1),(e.2.2,()))))∧((((List.length y4.2+List.length v3)*48)≤140737488355328∧(List.length y4.2+List.length v3)≤9223372036854775807)∧(Zu IntKind.i64 (y4.1+(1:Int))∧R4 ((y4.1+(1:Int)),(y4.2++v3)))))))) (Zu IntKind.i64 (y4.1+(1:Int))∧R4 ((y4.1+(1:Int)),y4.2))) (cond (decide ((1:Int) < Zbe e.2.1)) ((((List.length y4.2+List.length [((2:Int),(Zbe e.2.1,e.2.2))])*48)≤140737488355328∧(List.length y4.2+List.length [((2:Int),(Zbe e.2.1,e.2.2))])≤9223372036854775807)∧[(y4.2++[((2:Int),(Zbe e.2.1,e.2.2))])]=[x.2.1++((Zbw ZbU x.2.2.1).filter fun jq=>decide ((jq.1:Int)≠x.2.2.2.1)).map (fun jq=>ZtD e jq.2)++(if 1 < Zbe e.2.1 then [(2,Zbe e.2.1,e.2.2)] else [])]) ([y4.2]=[x.2.1++((Zbw ZbU x.2.2.1).filter fun jq=>decide ((jq.1:Int)≠x.2.2.2.1)).map (fun jq=>ZtD e jq.2)++(if 1 < Zbe e.2.1 then [(2,Zbe e.2.1,e.2.2)] else [])]))) ((0:Int),o):=by
   intro o ho
   refine Lp.flt x.2.2.1 ZbU o (fun jq=>decide ((jq.1:Int)≠x.2.2.2.1)) (fun jq=>ZtD e jq.2) (by omega) (fun i t R hi hi' hf htl h1 h2=>?_) (fun R hlen=>?_)
   ·have hm:=Zj (d:=ZbU) hi
    simp only [decide_eq_true hi',Int.toNat_natCast,cond_true]
    obtain ⟨q,hq⟩:∃ q,x.2.2.1.getD i ZbU=q:=⟨_,rfl⟩
    simp only [hq] at hm h1 h2 ⊢
    obtain ⟨hqM,hqa,hqL,hqk⟩:=hpb q hm
    refine ⟨⟨by omega,hi'⟩,?_⟩
    by_cases hne:(i:Int)≠x.2.2.2.1
    ·rw [show ((i:Int) != x.2.2.2.1)=true by simpa using hne,cond_true]
     have hab:=Ziw hea
     have hpr:=Zs8 hab hqM
     have hs:-1048576≤(if e.2.1 < 0 then (1:Int) else -1)*q.2.1∧(if e.2.1 < 0 then (1:Int) else -1)*q.2.1≤1048576:=by split<;>omega
     have hsf:Zu IntKind.i64 (if e.2.1 < 0 then (1:Int) else -1):=by split<;>exact ⟨by omega,by omega⟩
     refine ⟨⟨by omega,by omega⟩,hsf,⟨by omega,by omega⟩,⟨hab,hqL,hs,heL,by show q.2.2.1.length=e.2.2.1.length;omega⟩,⟨by simp only [List.length_singleton];subst ho;omega,by simp only [List.length_singleton];subst ho;omega⟩,hf,h1 (decide_eq_true hne)⟩
    ·rw [show ((i:Int) != x.2.2.2.1)=false by simpa using hne,cond_false]
     exact ⟨hf,h2 (decide_eq_false hne)⟩
   ·simp only [Int.lt_irrefl,decide_false,cond_false]
    subst ho
    by_cases ha:1 < Zbe e.2.1
    ·rw [decide_eq_true ha,cond_true,if_pos ha]
     exact ⟨⟨by simp only [List.length_singleton];omega,by simp only [List.length_singleton];omega⟩,rfl⟩
    ·rw [decide_eq_false ha,cond_false,if_neg ha,List.append_nil]
  rintro (_ | _) hb
  ·simp only [cond_false,List.nil_append,List.length_nil,Nat.zero_add]
   exact ⟨⟨by omega,by omega⟩,key _ rfl⟩
  ·simp only [cond_true]
   exact key _ (hb rfl).symm
 ·intro R hR
  by_cases ha:e.2.1 < 0
  ·rw [decide_eq_true ha,cond_true]
   exact ⟨⟨by omega,by omega⟩,hR _ ⟨by simp only;unfold Zbe;omega,by simp only [if_pos ha];omega⟩⟩
  ·rw [decide_eq_false ha,cond_false]
   exact hR _ ⟨by simp only;unfold Zbe;omega,by simp only [if_neg ha]⟩
theorem Zr.spec (x:Pc) (hp:Zr.pre (x,())):Zr.wp x (fun r=>r=Zr.fn (x,())):=by
 obtain ⟨k,h400,_,⟨hll,hlb⟩,⟨hul,hub⟩⟩:=hp
 simp only at h400 hll hlb hul hub
 obtain ⟨g,hg⟩:∃ g:Part→List Zc,g=fun l=>x.2.2.2.2.2.1.map fun u=>(0,0,Zcf l.2.1 u.2.2 (-u.2.1) l.2.2):=⟨_,rfl⟩
 have hfn:Zr.fn (x,())=[x.2.1++x.2.2.2.2.1.flatMap g]:=by rw [hg]
 simp only [Zr.wp,hfn]
 have hgl:∀ l:List Part,l.length≤400→(l.flatMap g).length≤160000:=fun l hl=>by
  have:=Zcu (g:=g) (k:=400) (l:=l) fun y hy=>by rw [hg];simp only [List.length_map];exact hul
  have:=Nat.mul_le_mul hl (Nat.le_refl 400)
  omega
 have key:∀ o:List Zc,o=x.2.1→Lp (σ:=Int×List (Zc)) (fun y3 R3=>let v3:=List.getD x.2.2.2.2.1 (Int.toNat y3.1) (Za,((0:Int),(([]:List Int),(0:Int))));cond (decide (y3.1 < ((List.length x.2.2.2.2.1:Nat):Int))) (((0:Int)≤y3.1∧y3.1 < ((List.length x.2.2.2.2.1:Nat):Int))∧Lp (σ:=Int×List (Zc)) (fun y5 R5=>let v2:=List.getD x.2.2.2.2.2.1 (Int.toNat y5.1) (Za,((0:Int),(([]:List Int),(0:Int))));let v5:=[((0:Int),((0:Int),(ZM.fn (v3.2.1,(v2.2.2,((-v2.2.1),(v3.2.2,())))))))];cond (decide (y5.1 < ((List.length x.2.2.2.2.2.1:Nat):Int))) (((0:Int)≤y5.1∧y5.1 < ((List.length x.2.2.2.2.2.1:Nat):Int))∧(Zu IntKind.i64 (-v2.2.1)∧(ZM.pre (v3.2.1,(v2.2.2,((-v2.2.1),(v3.2.2,()))))∧((((List.length y5.2+List.length v5)*48)≤140737488355328∧(List.length y5.2+List.length v5)≤9223372036854775807)∧(Zu IntKind.i64 (y5.1+(1:Int))∧R5 ((y5.1+(1:Int)),(y5.2++v5))))))) (Zu IntKind.i64 (y3.1+(1:Int))∧R3 ((y3.1+(1:Int)),y5.2))) ((0:Int),y3.2)) ([y3.2]=[x.2.1++x.2.2.2.2.1.flatMap g])) ((0:Int),o):=by
  intro o ho
  refine Lp.flat x.2.2.2.2.1 ZbU o g (by omega) (fun i R hi hi' hf hR=>?_) (fun R=>?_)
  ·have hm:=Zj (d:=ZbU) hi
   simp only [decide_eq_true hi',Int.toNat_natCast,cond_true]
   obtain ⟨l,hl⟩:∃ l,x.2.2.2.2.1.getD i ZbU=l:=⟨_,rfl⟩
   simp only [hl] at hm hR ⊢
   obtain ⟨hqM,hqa,hqL,hqk⟩:=hlb l hm
   refine ⟨⟨by omega,hi'⟩,?_⟩
   have htk:(x.2.2.2.2.1.take i).length≤400:=by rw [List.length_take];omega
   have ho1:=hgl _ htk
   refine Lp.flt x.2.2.2.2.2.1 ZbU _ (fun _=>true) (fun ju=>(0,0,Zcf l.2.1 ju.2.2.2 (-ju.2.2.1) l.2.2)) (by omega) (fun j t R1 hj hj' hfj htl h1 h2=>?_) (fun R1 hlen=>?_)
   ·have hmu:=Zj (d:=ZbU) hj
    simp only [decide_eq_true hj',Int.toNat_natCast,cond_true]
    obtain ⟨u,hu⟩:∃ u,x.2.2.2.2.2.1.getD j ZbU=u:=⟨_,rfl⟩
    simp only [hu] at hmu h1 ⊢
    obtain ⟨huM,hua,huL,huk⟩:=hub u hmu
    have htl':t.length≤170000:=by rw [List.length_append] at htl;subst ho;omega
    exact ⟨⟨by omega,hj'⟩,⟨by omega,by omega⟩,⟨hqa,huL,⟨by show -1048576≤-u.2.1;omega,by show -u.2.1≤1048576;omega⟩,hqL,by show u.2.2.1.length=l.2.2.1.length;omega⟩,⟨by simp only [List.length_singleton];omega,by simp only [List.length_singleton];omega⟩,hfj,h1 trivial⟩
   ·simp only [Int.lt_irrefl,decide_false,cond_false]
    refine ⟨hf,?_⟩
    have e:=ZdJ ZbU x.2.2.2.2.2.1 (fun _=>true) (fun u=>((0:Int),(0:Int),Zcf l.2.1 u.2.2 (-u.2.1) l.2.2))
    rw [e,List.filter_eq_self.2 (fun _ _=>rfl)]
    rw [hg] at hR ⊢
    exact hR
  ·simp only [Int.lt_irrefl,decide_false,cond_false]
   rw [ho]
 rintro (_ | _) hb
 ·simp only [cond_false,List.nil_append,List.length_nil,Nat.zero_add]
  exact ⟨⟨by omega,by omega⟩,key _ rfl⟩
 ·simp only [cond_true]
  exact key _ (hb rfl).symm
theorem ZqI {n l:Int} (hl:l≠0) (hn:-1048576≤n∧n≤1048576):-1048576≤n.tdiv l∧n.tdiv l≤1048576:=by
 have h:(n.tdiv l).natAbs≤n.natAbs:=by rw [Int.natAbs_tdiv];exact Nat.div_le_self _ _
 omega
theorem Zl.spec (x:Pc) (l:Int) (w:Lin) (all:Bool) (hp:Zl.pre (x,l,w,all,())):Zl.wp x l w all (fun r=>r=Zl.fn (x,l,w,all,())):=by
 obtain ⟨⟨k,⟨h400,⟨hpl,hpb⟩,_,_⟩,hwk⟩,hl0,hw⟩:=hp
 simp only at h400 hpl hpb hwk hl0 hw
 have hfn:Zl.fn (x,l,w,all,())=x.2.1++(x.2.2.1.filter fun q=>all||decide (q.1.1=2)).map (fun q=>(q.1.1,q.1.2.1,Zcf 1 q.2.2 (q.2.1.tdiv l) w))++[(2,l,w)]:=rfl
 simp only [Zl.wp,hfn]
 have key:∀ o:List Zc,o=x.2.1→Lp (σ:=Int×List (Zc)) (fun y6 R6=>let v0:=List.getD x.2.2.1 (Int.toNat y6.1) (Za,((0:Int),(([]:List Int),(0:Int))));let v2:=[(v0.1.1,(v0.1.2.1,(ZM.fn ((1:Int),(v0.2.2,(Int.tdiv v0.2.1 l,(w,())))))))];cond (decide (y6.1 < ((List.length x.2.2.1:Nat):Int))) (((0:Int)≤y6.1∧y6.1 < ((List.length x.2.2.1:Nat):Int))∧(((!all)=true→((!all)=true∧True))∧(((!all)=true→((!all)=true∧True))∧(((!all)=true→((!all)=true∧True))∧((all=false→(!all)=true)∧cond (all||(v0.1.1 == (2:Int))) ((l≠(0:Int)∧Zu IntKind.i64 (Int.tdiv v0.2.1 l))∧(ZM.pre ((1:Int),(v0.2.2,(Int.tdiv v0.2.1 l,(w,()))))∧((((List.length y6.2+List.length v2)*48)≤140737488355328∧(List.length y6.2+List.length v2)≤9223372036854775807)∧(Zu IntKind.i64 (y6.1+(1:Int))∧R6 ((y6.1+(1:Int)),(y6.2++v2)))))) (Zu IntKind.i64 (y6.1+(1:Int))∧R6 ((y6.1+(1:Int)),y6.2))))))) ((((List.length y6.2+List.length ([((2:Int),(l,w))]))*48)≤140737488355328∧(List.length y6.2+List.length ([((2:Int),(l,w))]))≤9223372036854775807)∧(y6.2++[((2:Int),(l,w))])=x.2.1++(x.2.2.1.filter fun q=>all||decide (q.1.1=2)).map (fun q=>(q.1.1,q.1.2.1,Zcf 1 q.2.2 (q.2.1.tdiv l) w))++[(2,l,w)])) ((0:Int),o):=by
  intro o ho
  refine Lp.flt x.2.2.1 ZbU o (fun jq=>all||decide (jq.2.1.1=2)) (fun jq=>(jq.2.1.1,jq.2.1.2.1,Zcf 1 jq.2.2.2 (jq.2.2.1.tdiv l) w)) (by omega) (fun i t R hi hi' hf htl h1 h2=>?_) (fun R hlen=>?_)
  ·have hm:=Zj (d:=ZbU) hi
   simp only [decide_eq_true hi',Int.toNat_natCast,cond_true]
   obtain ⟨q,hq⟩:∃ q,x.2.2.1.getD i ZbU=q:=⟨_,rfl⟩
   simp only [hq] at hm h1 h2 ⊢
   obtain ⟨hqM,hqa,hqL,hqk⟩:=hpb q hm
   have htd:=ZqI hl0 hqa
   refine ⟨⟨by omega,hi'⟩,fun h=>⟨h,trivial⟩,fun h=>⟨h,trivial⟩,fun h=>⟨h,trivial⟩,fun h=>by rw [h];rfl,?_⟩
   have hcb:(all||(q.1.1 == 2))=(all||decide (q.1.1=2)):=rfl
   rw [hcb]
   cases hb:(all||decide (q.1.1=2)) with
   | true =>
     rw [cond_true]
     exact ⟨⟨hl0,⟨by omega,by omega⟩⟩,⟨⟨by show (-1048576:Int)≤1;omega,by show (1:Int)≤1048576;omega⟩,hqL,htd,hw,by show q.2.2.1.length=w.1.length;omega⟩,⟨by simp only [List.length_singleton];subst ho;omega,by simp only [List.length_singleton];subst ho;omega⟩,hf,h1 hb⟩
   | false =>
     rw [cond_false]
     exact ⟨hf,h2 hb⟩
  ·simp only [Int.lt_irrefl,decide_false,cond_false]
   subst ho
   refine ⟨⟨by simp only [List.length_singleton];omega,by simp only [List.length_singleton];omega⟩,?_⟩
   rw [ZdJ ZbU x.2.2.1 (fun q=>all||decide (q.1.1=2)) (fun q=>(q.1.1,q.1.2.1,Zcf 1 q.2.2 (q.2.1.tdiv l) w))]
 rintro (_ | _) hb
 ·simp only [cond_false,List.nil_append,List.length_nil,Nat.zero_add]
  exact ⟨⟨by omega,by omega⟩,key _ rfl⟩
 ·simp only [cond_true]
  exact key _ (hb rfl).symm
theorem ZgM {l:Lin} (h:ZcN l) (v:Nat):ZcN (ZcR l.1 v,l.2) :=
 ⟨by have : (ZcR l.1 v).length ≤ l.1.length := by unfold ZcR; simp; omega
     have:=h.1
     show (ZcR l.1 v).length≤_;omega,fun n hn=>h.2.1 n (ZnQ hn),h.2.2⟩
theorem Z3.spec (c:Zc) (v m k:Int) (w:Lin) (hp:Z3.pre (c,v,m,k,w,())):Z3.wp c v m k w (fun r=>r=Z3.fn (c,v,m,k,w,())):=by
 obtain ⟨⟨n,⟨hM,hL,hn⟩,hn4,hwn,hv0,hv1⟩,hcf,hm,hk,hw⟩:=hp
 simp only at hM hL hn hn4 hwn hv0 hv1 hcf hm hk hw
 simp only [Z3.wp,Z3.fn]
 have hlen:(v:Int) < (c.2.2.1.length:Int):=by omega
 have hcoef:c.2.2.1.getD v.toNat 0=Zf v.toNat c:=rfl
 have hpr:=Zs8 hM hm
 have hck:-1048576≤Zf v.toNat c*k∧Zf v.toNat c*k≤1048576:=by rcases hk with rfl | rfl<;>omega
 have hcl:(ZcR c.2.2.1 v.toNat).length=c.2.2.1.length - 1:=Zhu (by omega)
 refine ⟨⟨by show c.2.2.1.length≤1048576;omega,hv0,hlen⟩,⟨by omega,by omega⟩,⟨hv0,hlen⟩,⟨by rw [hcoef];omega,by rw [hcoef];omega⟩,⟨hm,ZgM hL _,by rw [hcoef];exact hck,hw,by show (ZcR c.2.2.1 v.toNat).length=w.1.length;omega⟩,rfl⟩
theorem ZF.spec (l:List (List Zc)) (hp:ZF.pre (l,())):ZF.wp l (fun r=>r=ZF.fn (l,())):=by
 have hfn:ZF.fn (l,())=Zd7 l:=rfl
 simp only [ZF.wp,hfn]
 have hpf:ZG.fn (l,())=ZfB l:=rfl
 simp only [hpf]
 refine ⟨hp,fun h=>⟨h,trivial⟩,fun h=>⟨h,trivial⟩,fun h=>by rw [h];rfl,?_⟩
 have ht:ZfK l=(l.foldlM Zb3 []).bind fun o=>if 400 < o.length then none else some o:=Zle l [] (by simp)
 unfold Zd7 ZfB
 simp only [ht]
 rcases ZaB (l.foldlM Zb3 []) with e | ⟨out,e⟩
 ·simp only [e]
  rfl
 ·simp only [e,Option.bind_some]
  by_cases h:400 < out.length
  ·simp only [if_pos h,decide_eq_true (show (400:Int) < ((out.length:Nat):Int) by omega),Bool.or_true,cond_true]
  ·simp only [if_neg h,decide_eq_false (show ¬ (400:Int) < ((out.length:Nat):Int) by omega)]
   simp
theorem pieceN.c {p:List Zc} {n:Int} (h:pieceN p n) {c:Zc} (hc:c∈p):Zh c=true∧(c.2.2.1.length:Int)=n:=h.2.1 c hc
theorem Zis {c:Zc} (h:Zh c=true):-1048576≤c.2.1∧c.2.1≤1048576:=by
 unfold Zh at h
 split at h
 ·simp only [Bool.and_eq_true,beq_iff_eq] at h;omega
 ·split at h
  ·simp only [Bool.and_eq_true,decide_eq_true_iff] at h;omega
  ·cases h
theorem Zfw {c:Zc} (h:Zh c=true):ZcN c.2.2:=by
 have hl:=ZaG.b (Zh.lin h)
 exact ⟨by show c.2.2.1.length≤1048576;omega,fun n hn=>by have:=hl.2.1 n hn;omega,by show -4294967296≤c.2.2.2;omega,by show c.2.2.2≤4294967296;omega⟩
theorem ZV.spec (p:List Zc) (eq v:Int) (hp:ZV.pre (p,eq,v,())):ZV.wp p eq v (fun r=>r=ZV.fn (p,eq,v,())):=by
 obtain ⟨⟨n,hN,hv0,hv1⟩,h0,h1,hne⟩:=hp
 simp only at hN hv0 hv1 h0 h1 hne
 have hfn:ZV.fn (p,eq,v,())=Zcs v.toNat p eq.toNat:=rfl
 have hwo:∀ l:Lin,Zk.fn (l,v,())=(ZcR l.1 v.toNat,l.2):=fun _=>rfl
 have hpu:∀ c m k w,Z3.fn (c,v,m,k,w,())=(c.1,c.2.1*m,Zcf m (ZaX v.toNat c) (Zf v.toNat c*k) w):=fun _ _ _ _=>rfl
 simp only [ZV.wp,hfn,Zp.fn,hwo,hpu]
 have he:eq.toNat < p.length:=by omega
 have hmem:=Zj (d:=Za) he
 have hsp:Zcs v.toNat p eq.toNat=((Zbw Za p).filter fun jc=>decide (jc.1≠eq.toNat)).map (fun jc=>if Zf v.toNat jc.2=0 then Zdd v.toNat jc.2 else ZlS v.toNat (p.getD eq.toNat Za) jc.2) ++
  (if 1 < Zbe (Zf v.toNat (p.getD eq.toNat Za)) then [(2,Zbe (Zf v.toNat (p.getD eq.toNat Za)),ZaX v.toNat (p.getD eq.toNat Za))] else []):=rfl
 rw [hsp]
 obtain ⟨e,hee⟩:∃ e,p.getD eq.toNat Za=e:=⟨_,rfl⟩
 simp only [hee] at hmem hne ⊢
 obtain ⟨hev,hel⟩:=hN.c hmem
 have hcoefe:e.2.2.1.getD v.toNat 0=Zf v.toNat e:=rfl
 simp only [hcoefe]
 obtain ⟨a,ha⟩:∃ a,Zf v.toNat e=a:=⟨_,rfl⟩
 have hab:=Zcq hev v.toNat
 simp only [ha] at hne hab ⊢
 have hel12:e.2.2.1.length≤12:=by have:=hN.2.2.2;omega
 refine ⟨⟨h0,h1⟩,⟨hv0,by omega⟩,⟨h0,h1⟩,⟨by show e.2.2.1.length≤1048576;omega,hv0,by show v < (e.2.2.1.length:Int);omega⟩,?_⟩
 have hsz:Ze2 a:=⟨by omega,by omega⟩
 have key:∀ k:Int,k=(if a < 0 then 1 else -1)→Lp (σ:=Int×List (Zc)) (fun y4 R4=>let v2:=List.getD p (Int.toNat y4.1) Za;let v5:=[(v2.1,(v2.2.1,(ZcR v2.2.2.1 v.toNat,v2.2.2.2)))];let v7:=((v2.1,v2.2.1*Zbe a,Zcf (Zbe a) (ZaX v.toNat v2) (Zf v.toNat v2*k) (ZcR e.2.2.1 v.toNat,e.2.2.2)):Zc);cond (decide (y4.1 < ((List.length p:Nat):Int))) (((0:Int)≤y4.1∧y4.1 < ((List.length p:Nat):Int))∧cond (y4.1 == eq) (Zu IntKind.i64 (y4.1+(1:Int))∧R4 ((y4.1+(1:Int)),y4.2)) (((0:Int)≤v∧v < ((List.length v2.2.2.1:Nat):Int))∧cond ((List.getD v2.2.2.1 (Int.toNat v) (0:Int)) == (0:Int)) (Zk.pre (v2.2.2,(v,()))∧((((List.length y4.2+List.length v5)*48)≤140737488355328∧(List.length y4.2+List.length v5)≤9223372036854775807)∧(Zu IntKind.i64 (y4.1+(1:Int))∧R4 ((y4.1+(1:Int)),(y4.2++v5))))) (Zp.pre (a,())∧(Zu IntKind.i64 k∧(Z3.pre (v2,(v,(Zbe a,(k,((ZcR e.2.2.1 v.toNat,e.2.2.2),())))))∧((((List.length y4.2+List.length [v7])*48)≤140737488355328∧(List.length y4.2+List.length [v7])≤9223372036854775807)∧(Zu IntKind.i64 (y4.1+(1:Int))∧R4 ((y4.1+(1:Int)),(y4.2++[v7]))))))))) (Zp.pre (a,())∧cond (decide ((1:Int) < Zbe a)) (Zp.pre (a,())∧((((List.length y4.2+List.length [((2:Int),(Zbe a,(ZcR e.2.2.1 v.toNat,e.2.2.2)))])*48)≤140737488355328∧(List.length y4.2+List.length [((2:Int),(Zbe a,(ZcR e.2.2.1 v.toNat,e.2.2.2)))])≤9223372036854775807)∧(y4.2++[((2:Int),(Zbe a,(ZcR e.2.2.1 v.toNat,e.2.2.2)))])=((Zbw Za p).filter fun jc=>decide (jc.1≠eq.toNat)).map (fun jc=>if Zf v.toNat jc.2=0 then Zdd v.toNat jc.2 else ZlS v.toNat e jc.2)++(if 1 < Zbe a then [(2,Zbe a,ZaX v.toNat e)] else []))) (y4.2=((Zbw Za p).filter fun jc=>decide (jc.1≠eq.toNat)).map (fun jc=>if Zf v.toNat jc.2=0 then Zdd v.toNat jc.2 else ZlS v.toNat e jc.2)++(if 1 < Zbe a then [(2,Zbe a,ZaX v.toNat e)] else [])))) ((0:Int),([]:List (Zc))):=by
  intro k hk
  have h400:=hN.1
  refine Lp.flt p Za [] (fun jc=>decide (jc.1≠eq.toNat)) (fun jc=>if Zf v.toNat jc.2=0 then Zdd v.toNat jc.2 else ZlS v.toNat e jc.2) (by omega) (fun i t R hi hi' hf htl h1 h2=>?_) (fun R hlen=>?_)
  ·have hm:=Zj (d:=Za) hi
   simp only [decide_eq_true hi',Int.toNat_natCast,cond_true]
   obtain ⟨c,hq⟩:∃ c,p.getD i Za=c:=⟨_,rfl⟩
   simp only [hq] at hm h1 h2 ⊢
   obtain ⟨hcv,hcl⟩:=hN.c hm
   refine ⟨⟨by omega,hi'⟩,?_⟩
   by_cases hie:(i:Int)=eq
   ·rw [show ((i:Int) == eq)=true by simpa using hie,cond_true]
    exact ⟨hf,h2 (by simp;omega)⟩
   ·rw [show ((i:Int) == eq)=false by simpa using hie,cond_false]
    have h1':=h1 (by simp;omega)
    have hcoefc:c.2.2.1.getD v.toNat 0=Zf v.toNat c:=rfl
    simp only [hcoefc]
    refine ⟨⟨hv0,by omega⟩,?_⟩
    simp only [List.length_nil,Nat.zero_add] at htl
    by_cases hc0:Zf v.toNat c=0
    ·rw [show (Zf v.toNat c == 0)=true by simpa using hc0,cond_true]
     rw [if_pos hc0] at h1'
     exact ⟨⟨by show c.2.2.1.length≤1048576;omega,hv0,by show v < (c.2.2.1.length:Int);omega⟩,⟨by simp only [List.length_singleton];omega,by simp only [List.length_singleton];omega⟩,hf,h1'⟩
    ·rw [show (Zf v.toNat c == 0)=false by simpa using hc0,cond_false]
     rw [if_neg hc0] at h1'
     have hput:ZlS v.toNat e c=(c.1,c.2.1*Zbe a,Zcf (Zbe a) (ZaX v.toNat c) (Zf v.toNat c*k) (ZcR e.2.2.1 v.toNat,e.2.2.2)):=by
      rw [hk];unfold ZlS;rw [ha];rfl
     rw [hput] at h1'
     have hcle:(ZcR e.2.2.1 v.toNat).length=e.2.2.1.length - 1:=Zhu (by omega)
     refine ⟨hsz,by rw [hk];split<;>exact ⟨by omega,by omega⟩,⟨⟨c.2.2.1.length,⟨Zis hcv,Zfw hcv,rfl⟩,by have:=hN.2.2.2;omega,by show (ZcR e.2.2.1 v.toNat).length+1=c.2.2.1.length;omega,hv0,by show v < (c.2.2.1.length:Int);omega⟩,Zcq hcv _,Ziw hab,by show k=1∨k=-1;rw [hk];split<;>simp,ZgM (Zfw hev) _⟩,⟨by simp only [List.length_singleton];omega,by simp only [List.length_singleton];omega⟩,hf,h1'⟩
  ·simp only [Int.lt_irrefl,decide_false,cond_false,List.nil_append] at hlen ⊢
   simp only [List.length_nil,Nat.zero_add] at hlen
   refine ⟨hsz,?_⟩
   by_cases h1a:1 < Zbe a
   ·rw [decide_eq_true h1a,cond_true,if_pos h1a]
    exact ⟨hsz,⟨by simp only [List.length_singleton];omega,by simp only [List.length_singleton];omega⟩,rfl⟩
   ·rw [decide_eq_false h1a,cond_false,if_neg h1a,List.append_nil]
 by_cases hneg:a < 0
 ·rw [decide_eq_true hneg,cond_true]
  exact key (-(-(1:Int))) (by rw [if_pos hneg];omega)
 ·rw [decide_eq_false hneg,cond_false]
  exact key (-(1:Int)) (by rw [if_neg hneg])
end Go.Proofs.YtgpdnmfpgkkgcaaGreatDoor
namespace Go.Proofs.YtgpdnmfpgkkgcaaGreatDoor
open Go
set_option linter.unusedVariables false
theorem Za3 {v:Nat} {p:List Zc} {c:Zc}:c∈Zw v p↔c∈p∧Zf v c≠0:=by simp [Zw]
theorem Zfq {v:Nat} {p:List Zc} (h:(Zbs v p).2=0):(Zbs v p).1=(ZfJ ((Zw v p).map fun c=>Zbe (Zf v c)):Int)∧1≤(Zbs v p).1∧(Zbs v p).1≤512:=by
 unfold Zbs at h ⊢
 rcases Zjv ((Zw v p).map fun c=>Zbe (Zf v c)) with h1 | h1 | ⟨h1,h2,h3,h4⟩
 ·rw [h] at h1;cases h1
 ·rw [h] at h1;cases h1
 ·rw [h3]
  have:=Zkw h2
  exact ⟨rfl,by omega,by omega⟩
theorem Zet {v:Nat} {p:List Zc} (h:(Zbs v p).2=0) {c:Zc} (hc:c∈Zw v p):ZbN v (Zbs v p).1 c*Zbe (Zf v c)=(Zbs v p).1∧1≤ZbN v (Zbs v p).1 c∧ZbN v (Zbs v p).1 c≤512∧1≤Zbe (Zf v c):=by
 obtain ⟨h1,h2,h3⟩:=Zfq h
 have ha:1≤Zbe (Zf v c):=by have:=(Za3.1 hc).2;unfold Zbe;omega
 have hd:Zbe (Zf v c) ∣ (Zbs v p).1:=by
  rw [h1]
  exact Zhw (List.mem_map_of_mem (f:=fun c=>Zbe (Zf v c)) hc)
 obtain ⟨l,hl⟩:∃ l,(Zbs v p).1=l:=⟨_,rfl⟩
 rw [hl] at h2 h3 hd ⊢
 unfold ZbN
 have hm:l.tdiv (Zbe (Zf v c))*Zbe (Zf v c)=l:=Int.tdiv_mul_cancel hd
 have hq:l.tdiv (Zbe (Zf v c))=l / Zbe (Zf v c):=Int.tdiv_eq_ediv_of_nonneg (by omega)
 refine ⟨hm,?_,?_,ha⟩
 ·rw [hq] at hm ⊢
  have h0:0≤l / Zbe (Zf v c):=Int.ediv_nonneg (by omega) (by omega)
  rcases Int.lt_or_le 0 (l / Zbe (Zf v c)) with h | h
  ·omega
  ·have:l / Zbe (Zf v c)=0:=by omega
   rw [this] at hm;omega
 ·rw [hq]
  exact Int.le_trans (Int.ediv_le_self _ (by omega)) h3
theorem Znl {v:Nat} {p:List Zc} {l:Int} (h:(ZeW v p l).2=0):1≤(ZeW v p l).1∧(ZeW v p l).1≤512∧l ∣ (ZeW v p l).1∧∀ c∈Zw v p,c.1=2→c.2.1*ZbN v l c ∣ (ZeW v p l).1:=by
 unfold ZeW at h ⊢
 rcases Zjv (l::((Zw v p).filter fun c=>decide (c.1=2)).map fun c=>c.2.1*ZbN v l c) with h1 | h1 | ⟨h1,h2,h3,h4⟩
 ·rw [h] at h1;cases h1
 ·rw [h] at h1;cases h1
 ·rw [h3]
  have:=Zkw h2
  refine ⟨by omega,by omega,Zhw (by simp),fun c hc h2'=>Zhw (List.mem_cons_of_mem _ ?_)⟩
  exact List.mem_map_of_mem (f:=fun c=>c.2.1*ZbN v l c) (List.mem_filter.2 ⟨hc,by simpa using h2'⟩)
def ZdO (B:Int) (n:Nat) (l:Lin):Prop:=l.1.length=n∧(∀ x∈l.1,-B≤x∧x≤B)∧-B≤l.2∧l.2≤B
theorem ZdO.small {B:Int} {n:Nat} {l:Lin} (h:ZdO B n l) (hB:B≤4294967296) (hn:n≤1048576):ZcN l :=
 ⟨by have:=h.1;omega,fun x hx=>by have:=h.2.1 x hx;omega,by have:=h.2.2;omega,by have:=h.2.2;omega⟩
theorem ZdO.linB {B:Int} {n:Nat} {l:Lin} (h:ZdO B n l) (hB:B≤2305843009213693952) (hn:n≤1048576):linB l :=
 ⟨by have:=h.1;omega,fun x hx=>by have:=h.2.1 x hx;unfold Ze2;omega,by have:=h.2.2;unfold Ze2;omega⟩
theorem ZdO.getD {B:Int} {n:Nat} {l:Lin} (h:ZdO B n l) (hB:0≤B) (i:Nat):-B≤l.1.getD i 0∧l.1.getD i 0≤B:=Zq5 (P:=fun x=>-B≤x∧x≤B) h.2.1 (by omega)
theorem Zkm {a b A B C D:Int} {l m:Lin} {n:Nat} (hA:0≤A) (hB:0≤B) (hC:0≤C) (hD:0≤D) (ha:-A≤a∧a≤A) (hl:ZdO C n l) (hb:-B≤b∧b≤B) (hm:ZdO D n m):ZdO (A*C+B*D) n (Zcf a l b m):=by
 have key:∀ x y:Int,(-C≤x∧x≤C)→(-D≤y∧y≤D)→-(A*C+B*D)≤a*x+b*y∧a*x+b*y≤A*C+B*D:=fun x y hx hy=>by
  have h1:=Zdb hA hC ha.1 ha.2 hx.1 hx.2
  have h2:=Zdb hB hD hb.1 hb.2 hy.1 hy.2
  omega
 refine ⟨by simp [Zcf,hl.1],fun x hx=>?_,key _ _ hl.2.2 hm.2.2⟩
 simp only [Zcf,List.mem_map,List.mem_range] at hx
 obtain ⟨i,hi,rfl⟩:=hx
 exact key _ _ (hl.getD hC i) (hm.getD hD i)
theorem Zch {c:Zc} {n:Int} {v:Nat} (h:Zh c=true∧(c.2.2.1.length:Int)=n) (hv:(v:Int) < n):ZdO 1048576 (n.toNat - 1) (ZaX v c):=by
 have hl:=ZaG.b (Zh.lin h.1)
 refine ⟨?_,fun x hx=>hl.2.1 x (ZnQ hx),hl.2.2⟩
 show (ZcR c.2.2.1 v).length=_
 rw [Zhu (by omega)];omega
theorem Ze1 {c:Zc} (h:Zh c=true):ZoW c:=by
 unfold Zh at h
 split at h
 ·rename_i h1;exact h1.elim .inl fun h=>.inr (.inl h)
 ·split at h
  ·rename_i h2
   simp only [Bool.and_eq_true,decide_eq_true_iff] at h
   exact .inr (.inr ⟨h2,by omega,by omega⟩)
  ·cases h
theorem ZnN {c:Zc} {n:Int} {v:Nat} (h:Zh c=true∧(c.2.2.1.length:Int)=n) (hv:(v:Int) < n) (hn:n≤12):condB (Zdd v c)∧(Zdd v c).2.2.1.length=n.toNat - 1:=by
 have hr:=Zch h hv
 have hk:=Ze1 h.1
 exact ⟨⟨hk,hr.linB (by omega) (by omega)⟩,hr.1⟩
theorem Zl6 {k m f:Int} {l l':Lin} (h:ZoW (k,m,l)) (hm:-1048576≤m∧m≤1048576) (h1:1≤f) (h2:f≤1048576):ZoW (k,m*f,l'):=by
 rcases h with h | h | ⟨h,h3,h4⟩
 ·exact .inl h
 ·exact .inr (.inl h)
 ·simp only at h h3 h4
  have h5:=Int.mul_le_mul h3 h1 (by omega) (by omega)
  have h6:=Zs8 hm (b:=f) (by omega)
  exact .inr (.inr ⟨h,by show 1≤m*f;omega,by show m*f≤2305843009213693952;omega⟩)
theorem Zv0 {c e : Zc} {n : Int} {v : Nat} (h : Zh c = true ∧ (c.2.2.1.length : Int) = n) (he : Zh e = true ∧ (e.2.2.1.length : Int) = n) (hv : (v : Int) < n) (hn : n ≤ 12) (h0 : Zf v e ≠ 0) :
 condB (ZlS v e c)∧(ZlS v e c).2.2.1.length=n.toNat - 1:=by
 have hr:=Zch h hv
 have hre:=Zch he hv
 have hab:=Ziw (Zcq he.1 v)
 have hcb:=Zcq h.1 v
 have ha1:1≤Zbe (Zf v e):=by unfold Zbe;omega
 have hs:-1048576≤Zf v c*(if Zf v e < 0 then 1 else -1)∧Zf v c*(if Zf v e < 0 then 1 else -1)≤1048576:=by split<;>omega
 have hm:=Zkm (A:=1048576) (B:=1048576) (by omega) (by omega) (by omega) (by omega) hab hr hs hre
 exact ⟨⟨Zl6 (Ze1 h.1) (Zis h.1) ha1 hab.2,hm.linB (by omega) (by omega)⟩,hm.1⟩
theorem ZhV {c:Zc} {n:Int} {v:Nat} {l:Int} (h:Zh c=true∧(c.2.2.1.length:Int)=n) (hv:(v:Int) < n) (hf:1≤ZbN v l c∧ZbN v l c≤512):ZdO 536870912 (n.toNat - 1) (Zjb v l c):=by
 have hr:=Zch h hv
 have key:∀ x:Int,(-1048576≤x∧x≤1048576)→-536870912≤ZbN v l c*x∧ZbN v l c*x≤536870912:=fun x hx =>
  Zdb (n:=512) (m:=1048576) (by omega) (by omega) (by omega) hf.2 hx.1 hx.2
 refine ⟨by simp [Zjb,hr.1],fun x hx=>?_,key _ hr.2.2⟩
 simp only [Zjb,List.mem_map] at hx
 obtain ⟨y,hy,rfl⟩:=hx
 exact key y (hr.2.1 y hy)
theorem ZvN {c : Zc} {n : Int} {v : Nat} {l : Int} {w : Lin} (h : Zh c = true ∧ (c.2.2.1.length : Int) = n) (hv : (v : Int) < n) (hn : n ≤ 12) (hf : 1 ≤ ZbN v l c ∧ ZbN v l c ≤ 512) (hw : ZdO 536871424 (n.toNat - 1) w) :
 condB (Zu7 v l w c)∧(Zu7 v l w c).2.2.1.length=n.toNat - 1:=by
 have hs:=ZhV h hv hf
 have hm:=Zkm (A:=1) (B:=1) (by omega) (by omega) (by omega) (by omega) (show (-1:Int)≤1∧(1:Int)≤1 by omega) hs (show -1≤ZmH (Zf v c)∧ZmH (Zf v c)≤1 by unfold ZmH;split<;>omega) hw
 exact ⟨⟨Zl6 (Ze1 h.1) (Zis h.1) hf.1 (by omega),hm.linB (by omega) (by omega)⟩,hm.1⟩
theorem Zlm {c:Zc} {n:Int} {v:Nat} {l:Int} {low:Bool} {j:Nat} (h:Zh c=true∧(c.2.2.1.length:Int)=n) (hv:(v:Int) < n) (hf:1≤ZbN v l c∧ZbN v l c≤512) (hj:j≤512):ZdO 536871424 (n.toNat - 1) (Zdx v l c low j):=by
 have hs:=ZhV h hv hf
 cases low with
 | true =>
   refine ⟨by simp [Zdx,hs.1],fun x hx=>?_,by have:=hs.2.2;simp only [Zdx,if_true];omega⟩
   simp only [Zdx,if_true,List.mem_map] at hx
   obtain ⟨y,hy,rfl⟩:=hx
   have:=hs.2.1 y hy
   omega
 | false =>
   refine ⟨by simp [Zdx,hs.1],fun x hx=>?_,by have:=hs.2.2;simp only [Zdx,Bool.false_eq_true,if_false];omega⟩
   simp only [Zdx,Bool.false_eq_true,if_false] at hx
   have:=hs.2.1 x hx
   omega
theorem Zk7 {n:Nat} {j:Nat} (hj:j≤512):ZdO 536871424 n (List.replicate n 0,(j:Int)) :=
 ⟨by simp,fun x hx=>by rw [(List.mem_replicate.1 hx).2];omega,by simp only;omega⟩
def Zjl (n:Nat) (q:List Zc):Prop:=q.length≤200000∧∀ c∈q,condB c∧c.2.2.1.length=n
theorem Zjl.D {n:Nat} {q:List Zc} (h:Zjl n q):ZaU q∧ZeD q n:=⟨⟨by have:=h.1;omega,fun c hc=>(h.2 c hc).1⟩,fun c hc=>(h.2 c hc).2⟩
section
variable {p:List Zc} {n:Int} {v:Nat}
theorem Zcm:(ZbH v p).length≤p.length:=by unfold ZbH;rw [List.length_map];exact List.length_filter_le _ _
theorem ZeG (h:pieceN p n) (hv:(v:Int) < n):∀ c∈ZbH v p,condB c∧c.2.2.1.length=n.toNat - 1:=fun c hc=>by
 simp only [ZbH,List.mem_map,List.mem_filter] at hc
 obtain ⟨d,⟨hd,_⟩,rfl⟩:=hc
 exact ZnN (h.c hd) hv h.2.2.2
theorem ZeF (h:pieceN p n) (hv:(v:Int) < n) {i:Nat} (hi:i < p.length) (h0:Zf v (p.getD i Za)≠0):Zjl (n.toNat - 1) (Zcs v p i):=by
 have hm:=Zj (d:=Za) hi
 have he:=h.c hm
 have hr:=Zch he hv
 have hab:=Ziw (Zcq he.1 v)
 refine ⟨?_,fun c hc=>?_⟩
 ·unfold Zcs
  have:=List.length_filter_le (fun jc:Nat×Zc=>decide (jc.1≠i)) (Zbw Za p)
  rw [ZfS] at this
  have:=h.1
  simp only [List.length_append,List.length_map]
  split<;>simp only [List.length_cons,List.length_nil]<;>omega
 ·unfold Zcs at hc
  rcases List.mem_append.1 hc with hc | hc
  ·simp only [List.mem_map,List.mem_filter] at hc
   obtain ⟨jc,⟨hj,_⟩,rfl⟩:=hc
   have hd:=h.c (ZqV hj).2.2
   split
   ·exact ZnN hd hv h.2.2.2
   ·exact Zv0 hd he hv h.2.2.2 h0
  ·split at hc
   ·rename_i h1
    simp only [List.mem_singleton] at hc
    subst hc
    exact ⟨⟨.inr (.inr ⟨rfl,by show 1≤Zbe _;omega,by show Zbe _≤_;omega⟩),hr.linB (by omega) (by have:=h.2.2.2;omega)⟩,hr.1⟩
   ·cases hc
theorem ZgR (h:pieceN p n) (hv:(v:Int) < n):Zjl (n.toNat - 1) (Zjj v p):=by
 have hle:∀ f:Zc→Bool,(p.filter f).length≤400:=fun f=>Nat.le_trans (List.length_filter_le _ _) h.1
 refine ⟨?_,fun c hc=>?_⟩
 ·unfold Zjj
  have h1:=Zcm (v:=v) (p:=p)
  have h2:=Zcu (g:=fun x=>(upP v p).map (Zmz v x)) (k:=400) (l:=ZbM v p) fun x hx=>by rw [List.length_map];exact hle _
  have h3:=Nat.mul_le_mul (hle fun c=>decide (Zf v c≠0∧c.1≠1∧c.1≠2∧0 < Zf v c)) (Nat.le_refl 400)
  have h4:(ZbM v p).length*400≤400*400:=h3
  have:=h.1
  rw [List.length_append];omega
 ·unfold Zjj at hc
  rcases List.mem_append.1 hc with hc | hc
  ·exact ZeG h hv c hc
  ·simp only [List.mem_flatMap,List.mem_map] at hc
   obtain ⟨x,hx,y,hy,rfl⟩:=hc
   have hx':=h.c (List.mem_filter.1 hx).1
   have hy':=h.c (List.mem_filter.1 hy).1
   have hcx:=Zcq hx'.1 v
   have hcy:=Zcq hy'.1 v
   have hm:=Zkm (A:=1048576) (B:=1048576) (by omega) (by omega) (by omega) (by omega) hcx (Zch hy' hv) (show -1048576≤-Zf v y∧-Zf v y≤1048576 by omega) (Zch hx' hv)
   exact ⟨⟨.inl rfl,hm.linB (by omega) (by have:=h.2.2.2;omega)⟩,hm.1⟩
theorem ZhO (h:pieceN p n) (hv:(v:Int) < n) (hl:(Zbs v p).2=0) {w:Lin} (hw:ZdO 536871424 (n.toNat - 1) w) (all:Bool):Zjl (n.toNat - 1) (Ze0 v p (Zbs v p).1 w all):=by
 obtain ⟨hl1,hl2,hl3⟩:=Zfq hl
 refine ⟨?_,fun c hc=>?_⟩
 ·unfold Ze0
  have h1:=Zcm (v:=v) (p:=p)
  have h2:=List.length_filter_le (fun c:Zc=>all||decide (c.1=2)) (Zw v p)
  have h3:(Zw v p).length≤p.length:=List.length_filter_le _ _
  have:=h.1
  simp only [List.length_append,List.length_map,List.length_cons,List.length_nil]
  omega
 ·unfold Ze0 at hc
  rcases List.mem_append.1 hc with hc | hc
  ·rcases List.mem_append.1 hc with hc | hc
   ·exact ZeG h hv c hc
   ·simp only [List.mem_map,List.mem_filter] at hc
    obtain ⟨d,⟨hd,_⟩,rfl⟩:=hc
    obtain ⟨_,f1,f2,_⟩:=Zet hl hd
    exact ZvN (h.c (Za3.1 hd).1) hv h.2.2.2 ⟨f1,f2⟩ hw
  ·simp only [List.mem_singleton] at hc
   subst hc
   exact ⟨⟨.inr (.inr ⟨rfl,hl2,by show (Zbs v p).1≤_;omega⟩),hw.linB (by omega) (by have:=h.2.2.2;omega)⟩,hw.1⟩
theorem ZfA (h:pieceN p n) (hv:(v:Int) < n) (hl:(Zbs v p).2=0) {d:Nat} (hd:d≤512):(ZbV v p (n.toNat - 1) (Zbs v p).1 d).length≤204800∧∀ q∈ZbV v p (n.toNat - 1) (Zbs v p).1 d,Zjl (n.toNat - 1) q:=by
 unfold ZbV
 split
 ·refine ⟨by simp;omega,fun q hq=>?_⟩
  simp only [List.mem_map,List.mem_range] at hq
  obtain ⟨j,hj,rfl⟩:=hq
  exact ZhO h hv hl (Zk7 (by omega)) false
 ·refine ⟨?_,fun q hq=>?_⟩
  ·have h2:=Zcu (g:=fun c=>(List.range d).map fun j=>Ze0 v p (Zbs v p).1 (Zdx v (Zbs v p).1 c (Zgq v p) j) true) (k:=512) (l:=ZlU v p) fun x hx=>by simp;omega
   have h3:(ZlU v p).length≤(Zw v p).length:=List.length_filter_le _ _
   have h4:(Zw v p).length≤p.length:=List.length_filter_le _ _
   have:=h.1
   have:=Nat.mul_le_mul (show (ZlU v p).length≤400 by omega) (Nat.le_refl 512)
   omega
  ·simp only [List.mem_flatMap,List.mem_map,List.mem_range] at hq
   obtain ⟨c,hc,j,hj,rfl⟩:=hq
   have hcp:=(List.mem_filter.1 hc).1
   obtain ⟨_,f1,f2,_⟩:=Zet hl hcp
   exact ZhO h hv hl (Zlm (h.c (Za3.1 hcp).1) hv ⟨f1,f2⟩ (by omega)) true
end
theorem ZvW (v:Nat) (p:List Zc):eqI v p=-1∨(0≤eqI v p∧(eqI v p).toNat < p.length∧Zf v (p.getD (eqI v p).toNat Za)≠0∧(p.getD (eqI v p).toNat Za).1=1):=by
 unfold eqI
 have key : ∀ (l : List Nat) (e : Int), (∀ i ∈ l, i < p.length) → (e = -1 ∨ (0 ≤ e ∧ e.toNat < p.length ∧ Zf v (p.getD e.toNat Za) ≠ 0 ∧ (p.getD e.toNat Za).1 = 1)) →
  (l.foldl (Zd2 v p) e=-1∨(0≤l.foldl (Zd2 v p) e∧(l.foldl (Zd2 v p) e).toNat < p.length∧Zf v (p.getD (l.foldl (Zd2 v p) e).toNat Za)≠0∧(p.getD (l.foldl (Zd2 v p) e).toNat Za).1=1)):=by
  intro l
  induction l with
  | nil=>exact fun e _ h=>h
  | cons i l ih =>
    refine fun e hl h=>ih _ (fun j hj=>hl j (List.mem_cons_of_mem _ hj)) ?_
    unfold Zd2
    split
    ·rename_i hc
     exact .inr ⟨by omega,by simpa using hl i (by simp),by simpa using hc.1,by simpa using hc.2.1⟩
    ·exact h
 exact key _ _ (fun i hi=>List.mem_range.1 hi) (.inl rfl)
theorem Zo5 {p:List Zc} {n:Int} {v:Nat} (h:pieceN p n) (hv:(v:Int) < n) {l:List (List Zc)} (hs:ZcJ p n.toNat v=some l):l.length≤204800∧∀ q∈l,Zjl (n.toNat - 1) q:=by
 unfold ZcJ at hs
 split at hs
 ·rename_i he
  cases hs
  rcases ZvW v p with h1 | ⟨_,h2,h3,_⟩
  ·omega
  ·exact ⟨by simp,fun q hq=>by rw [List.mem_singleton.1 hq];exact ZeF h hv h2 h3⟩
 ·split at hs
  ·cases hs
   exact ⟨by simp,fun q hq=>by rw [List.mem_singleton.1 hq];exact ⟨by have:=Zcm (v:=v) (p:=p);have:=h.1;omega,ZeG h hv⟩⟩
  ·split at hs
   ·cases hs
    exact ⟨by simp,fun q hq=>by rw [List.mem_singleton.1 hq];exact ZgR h hv⟩
   ·split at hs
    ·cases hs
    ·rename_i hl
     split at hs
     ·cases hs
     ·rename_i hd
      cases hs
      have hl:(Zbs v p).2=0:=by simpa using hl
      have hd:(ZeW v p (Zbs v p).1).2=0:=by simpa using hd
      have:=Znl hd
      exact ZfA h hv hl (by omega)
theorem ZeI {p:List Zc} {n v:Int} (h:pieceN p n) (hv0:0≤v) (hv:v < n) (h0:(Z4 p n v).2=0):PD (n.toNat - 1) (Z4 p n v).1∧Nm (Z4 p n v).1∧∃ l,ZcJ p n.toNat v.toNat=some l∧ZfK l=some (Z4 p n v).1:=by
 unfold Z4 at h0 ⊢
 rcases ZaB (ZcJ p n.toNat v.toNat) with e | ⟨l,e⟩
 ·rw [e] at h0;cases h0
 ·simp only [e] at h0 ⊢
  unfold Zd7 at h0 ⊢
  rcases ZaB (ZfK l) with e2 | ⟨out,e2⟩
  ·rw [e2] at h0;cases h0
  ·simp only [e2]
   have hg:=Zo5 h (v:=v.toNat) (by omega) e
   obtain ⟨k1,k2⟩:=PD.of_tid (fun q hq=>(hg.2 q hq).D) e2
   exact ⟨k1,k2,l,rfl,e2⟩
theorem PD.pieceN {n:Nat} {l:List (List Zc)} (h:PD n l) (hn:n≤12) {q:List Zc} (hq:q∈l):pieceN q (n:Int) :=
 ⟨by have:=(h.1.2 q hq).1;omega,fun c hc=>⟨(h.1.2 q hq).2 c hc,by rw [h.2 q hq c hc]⟩,by omega,by omega⟩
end Go.Proofs.YtgpdnmfpgkkgcaaGreatDoor
namespace Go.Proofs.YtgpdnmfpgkkgcaaGreatDoor
open Go
set_option linter.unusedVariables false
set_option maxRecDepth 4000
def Zs.wp (x0:List Zc) (x1:List Zc) (x2:Int) (Q:(List (List Zc))×Int→Prop):Prop:=let v18:=List.length ([]:List (Zc));Lp (σ:=Int×List Int) (fun y4 R4=>let v0:=List.getD x0 (Int.toNat y4.1) Za;let v1:=List.getD v0.2.2.1 (Int.toNat x2) (0:Int);let v2:=[Zp.fn (v1,())];cond (decide (y4.1 < ((List.length x0:Nat):Int))) (((0:Int)≤y4.1∧y4.1 < ((List.length x0:Nat):Int))∧(((0:Int)≤x2∧x2 < ((List.length v0.2.2.1:Nat):Int))∧cond (v1 != (0:Int)) (((0:Int)≤x2∧x2 < ((List.length v0.2.2.1:Nat):Int))∧(Zp.pre (v1,())∧((((List.length y4.2+List.length v2)*8)≤140737488355328∧(List.length y4.2+List.length v2)≤9223372036854775807)∧(Zu IntKind.i64 (y4.1+(1:Int))∧R4 ((y4.1+(1:Int)),(y4.2++v2)))))) (Zu IntKind.i64 (y4.1+(1:Int))∧R4 ((y4.1+(1:Int)),y4.2)))) (Zam.pre (y4.2,())∧cond ((Zam.fn (y4.2,())).2 != (0:Int)) (Q (([]:List (List (Zc))),(3:Int))) (Lp (σ:=Int×Int×Int×Int×(List Int)×List (Zc)) (fun y6 R6=>let v4:=List.getD x0 (Int.toNat y6.1) Za;let v5:=List.getD v4.2.2.1 (Int.toNat x2) (0:Int);let v6:=Int.tdiv ((Zam.fn (y4.2,())).1) (Zp.fn (v5,()));let v7:=Int.tdiv v5 (Zp.fn (v5,()));let v8:=ZB.fn (v6,(v4.2.2,((0:Int),(v4.2.2,()))));let v9:=List.length y6.2.2.2.2.2;let v10:=List.set v8.1 (Int.toNat x2) v7;let v11:=[(v4.1,((v4.2.1*v6),(v10,v8.2)))];let v12:=List.length y6.2.2.2.2.1;let v13:=List.length ([(v4.2.1*v6)]);let v14:=List.replicate (Int.toNat y6.2.1) (0:Int);let v16:=[((2:Int),((Zam.fn (y4.2,())).1,((List.set v14 (Int.toNat x2) (1:Int)),(0:Int))))];let v17:=Zam.fn (y6.2.2.2.2.1,());let v19:=List.length (y6.2.2.2.2.2++v16);cond (decide (y6.1 < ((List.length x0:Nat):Int))) (((0:Int)≤y6.1∧y6.1 < ((List.length x0:Nat):Int))∧(((0:Int)≤x2∧x2 < ((List.length v4.2.2.1:Nat):Int))∧cond (v5 == (0:Int)) (Zu IntKind.i64 (y6.1+(1:Int))∧R6 ((y6.1+(1:Int)),y6.2)) (Zp.pre (v5,())∧((Zp.fn (v5,())≠(0:Int)∧Zu IntKind.i64 v6)∧(Zu IntKind.i64 (v4.2.1*v6)∧(ZB.pre (v6,(v4.2.2,((0:Int),(v4.2.2,()))))∧(Zp.pre (v5,())∧((Zp.fn (v5,())≠(0:Int)∧Zu IntKind.i64 v7)∧(((0:Int)≤x2∧x2 < ((List.length v8.1:Nat):Int))∧(Int.toNat x2 < List.length v8.1∧((((v9+List.length v11)*48)≤140737488355328∧(v9+List.length v11)≤9223372036854775807)∧cond (v4.1 == (2:Int)) ((((v12+v13)*8)≤140737488355328∧(v12+v13)≤9223372036854775807)∧(Zu IntKind.i64 (y6.1+(1:Int))∧R6 ((y6.1+(1:Int)),(((List.length v10:Nat):Int),(y6.2.2.1,(y6.2.2.2.1,((y6.2.2.2.2.1++[(v4.2.1*v6)]),(y6.2.2.2.2.2++v11)))))))) (cond (decide ((0:Int) < v5)) (Zu IntKind.i64 (y6.2.2.1+(1:Int))∧(Zu IntKind.i64 (y6.1+(1:Int))∧R6 ((y6.1+(1:Int)),(((List.length v10:Nat):Int),((y6.2.2.1+(1:Int)),(y6.2.2.2.1,(y6.2.2.2.2.1,(y6.2.2.2.2.2++v11)))))))) (Zu IntKind.i64 (y6.2.2.2.1+(1:Int))∧(Zu IntKind.i64 (y6.1+(1:Int))∧R6 ((y6.1+(1:Int)),(((List.length v10:Nat):Int),(y6.2.2.1,((y6.2.2.2.1+(1:Int)),(y6.2.2.2.2.1,(y6.2.2.2.2.2++v11)))))))))))))))))))) (((0:Int)≤y6.2.1∧(y6.2.1≤y6.2.1∧((y6.2.1*((8:Nat):Int))≤(140737488355328:Int)∧y6.2.1≤(9223372036854775807:Int))))∧(((0:Int)≤x2∧x2 < ((List.length v14:Nat):Int))∧(Int.toNat x2 < List.length v14∧((((v9+List.length v16)*48)≤140737488355328∧(v9+List.length v16)≤9223372036854775807)∧(Zam.pre (y6.2.2.2.2.1,())∧cond (v17.2 != (0:Int)) (Q (([]:List (List (Zc))),(3:Int))) (((!(y6.2.2.1 == (0:Int)))=true→((!(y6.2.2.1 == (0:Int)))=true∧True))∧(((y6.2.2.1 == (0:Int))=false→(!(y6.2.2.1 == (0:Int)))=true)∧cond ((y6.2.2.1 == (0:Int))||(y6.2.2.2.1 == (0:Int))) (Lp (σ:=Int×List (List (Zc))) (fun y8 R8=>let v21:=ZK.fn ((y6.2.1 - (1:Int)),(y8.1,()));cond (decide (y8.1 < v17.1)) ((((v18+List.length x1)*48)≤140737488355328∧(v18+List.length x1)≤9223372036854775807)∧Lp (σ:=Int×List (Zc)) (fun y10 R10=>let v20:=List.getD (y6.2.2.2.2.2++v16) (Int.toNat y10.1) Za;let v22:=Z3.fn (v20,(x2,((1:Int),((1:Int),(v21,())))));cond (decide (y10.1 < ((v19:Nat):Int))) (((0:Int)≤y10.1∧y10.1 < ((v19:Nat):Int))∧(Int.toNat y10.1 < v19∧cond (v20.1 == (2:Int)) (Zu IntKind.i64 (y6.2.1 - (1:Int))∧(ZK.pre ((y6.2.1 - (1:Int)),(y8.1,()))∧(Z3.pre (v20,(x2,((1:Int),((1:Int),(v21,())))))∧((((List.length y10.2+List.length [v22])*48)≤140737488355328∧(List.length y10.2+List.length [v22])≤9223372036854775807)∧(Zu IntKind.i64 (y10.1+(1:Int))∧R10 ((y10.1+(1:Int)),(y10.2++[v22]))))))) (Zu IntKind.i64 (y10.1+(1:Int))∧R10 ((y10.1+(1:Int)),y10.2)))) ((((List.length y8.2+List.length [y10.2])*24)≤140737488355328∧(List.length y8.2+List.length [y10.2])≤9223372036854775807)∧(Zu IntKind.i64 (y8.1+(1:Int))∧R8 ((y8.1+(1:Int)),(y8.2++[y10.2]))))) ((0:Int),(([]:List (Zc))++x1))) (ZF.pre (y8.2,())∧Q (ZF.fn (y8.2,())))) ((0:Int),([]:List (List (Zc))))) (cond (decide (y6.2.2.2.1 < y6.2.2.1)) (Lp (σ:=Int×List (List (Zc))) (fun y8 R8=>let v24:=List.getD (y6.2.2.2.2.2++v16) (Int.toNat y8.1) Za;let v26:=Zk.fn (v24.2.2,(x2,()));cond (decide (y8.1 < ((v19:Nat):Int))) (((0:Int)≤y8.1∧y8.1 < ((v19:Nat):Int))∧(Int.toNat y8.1 < v19∧(((!(v24.1 == (2:Int)))=true→((!(v24.1 == (2:Int)))=true∧True))∧(((!(v24.1 == (2:Int)))=true→((!(v24.1 == (2:Int)))=true∧True))∧(((!(v24.1 == (2:Int)))=true→((!(v24.1 == (2:Int)))=true∧((!(v24.1 == (2:Int)))=true∧((0:Int)≤x2∧x2 < ((List.length v24.2.2.1:Nat):Int)))))∧(((!(v24.1 == (2:Int)))=true→((!(v24.1 == (2:Int)))=true∧True))∧(((!(v24.1 == (2:Int)))=true→((!(v24.1 == (2:Int)))=true∧((!(v24.1 == (2:Int)))=true∧True)))∧(((v24.1 == (2:Int))=false→(!(v24.1 == (2:Int)))=true)∧cond ((v24.1 == (2:Int))||((List.getD v24.2.2.1 (Int.toNat x2) (0:Int)) != (-(1:Int)))) (Zu IntKind.i64 (y8.1+(1:Int))∧R8 ((y8.1+(1:Int)),y8.2)) (Zk.pre (v24.2.2,(x2,()))∧Lp (σ:=Int×List (List (Zc))) (fun y10 R10=>let v27:=ZK.fn ((y6.2.1 - (1:Int)),(y10.1,()));let v28:=ZB.fn ((-(-(1:Int))),(v26,((-(1:Int)),(v27,()))));cond (decide (y10.1 < v17.1)) (Zu IntKind.i64 (-(-(1:Int)))∧(Zu IntKind.i64 (y6.2.1 - (1:Int))∧(ZK.pre ((y6.2.1 - (1:Int)),(y10.1,()))∧(ZB.pre ((-(-(1:Int))),(v26,((-(1:Int)),(v27,()))))∧((((v18+List.length x1)*48)≤140737488355328∧(v18+List.length x1)≤9223372036854775807)∧Lp (σ:=Int×((List Int)×Int)×(List (Zc))×(List Int)×Int) (fun y12 R12=>let v29:=List.getD (y6.2.2.2.2.2++v16) (Int.toNat y12.1) Za;let v30:=Z3.fn (v29,(x2,((1:Int),((1:Int),(y12.2.2.2,())))));cond (decide (y12.1 < ((v19:Nat):Int))) (((0:Int)≤y12.1∧y12.1 < ((v19:Nat):Int))∧(Int.toNat y12.1 < v19∧(Z3.pre (v29,(x2,((1:Int),((1:Int),(y12.2.2.2,())))))∧((((List.length y12.2.2.1+List.length [v30])*48)≤140737488355328∧(List.length y12.2.2.1+List.length [v30])≤9223372036854775807)∧(Zu IntKind.i64 (y12.1+(1:Int))∧R12 ((y12.1+(1:Int)),(y12.2.1,((y12.2.2.1++[v30]),y12.2.2.2)))))))) ((((List.length y10.2+List.length [y12.2.2.1])*24)≤140737488355328∧(List.length y10.2+List.length [y12.2.2.1])≤9223372036854775807)∧(Zu IntKind.i64 (y10.1+(1:Int))∧R10 ((y10.1+(1:Int)),(y10.2++[y12.2.2.1]))))) ((0:Int),(v28,((([]:List (Zc))++x1),v28)))))))) (Zu IntKind.i64 (y8.1+(1:Int))∧R8 ((y8.1+(1:Int)),y10.2))) ((0:Int),y8.2)))))))))) (ZF.pre (y8.2,())∧Q (ZF.fn (y8.2,())))) ((0:Int),([]:List (List (Zc))))) (Lp (σ:=Int×List (List (Zc))) (fun y8 R8=>let v24:=List.getD (y6.2.2.2.2.2++v16) (Int.toNat y8.1) Za;let v26:=Zk.fn (v24.2.2,(x2,()));cond (decide (y8.1 < ((v19:Nat):Int))) (((0:Int)≤y8.1∧y8.1 < ((v19:Nat):Int))∧(Int.toNat y8.1 < v19∧(((!(v24.1 == (2:Int)))=true→((!(v24.1 == (2:Int)))=true∧True))∧(((!(v24.1 == (2:Int)))=true→((!(v24.1 == (2:Int)))=true∧True))∧(((!(v24.1 == (2:Int)))=true→((!(v24.1 == (2:Int)))=true∧((!(v24.1 == (2:Int)))=true∧((0:Int)≤x2∧x2 < ((List.length v24.2.2.1:Nat):Int)))))∧(((!(v24.1 == (2:Int)))=true→((!(v24.1 == (2:Int)))=true∧True))∧(((!(v24.1 == (2:Int)))=true→((!(v24.1 == (2:Int)))=true∧((!(v24.1 == (2:Int)))=true∧True)))∧(((v24.1 == (2:Int))=false→(!(v24.1 == (2:Int)))=true)∧cond ((v24.1 == (2:Int))||((List.getD v24.2.2.1 (Int.toNat x2) (0:Int)) != (1:Int))) (Zu IntKind.i64 (y8.1+(1:Int))∧R8 ((y8.1+(1:Int)),y8.2)) (Zk.pre (v24.2.2,(x2,()))∧Lp (σ:=Int×List (List (Zc))) (fun y10 R10=>let v27:=ZK.fn ((y6.2.1 - (1:Int)),(y10.1,()));let v31:=ZB.fn ((-(1:Int)),(v26,((1:Int),(v27,()))));cond (decide (y10.1 < v17.1)) (Zu IntKind.i64 (-(1:Int))∧(Zu IntKind.i64 (y6.2.1 - (1:Int))∧(ZK.pre ((y6.2.1 - (1:Int)),(y10.1,()))∧(ZB.pre ((-(1:Int)),(v26,((1:Int),(v27,()))))∧((((v18+List.length x1)*48)≤140737488355328∧(v18+List.length x1)≤9223372036854775807)∧Lp (σ:=Int×((List Int)×Int)×(List (Zc))×(List Int)×Int) (fun y12 R12=>let v29:=List.getD (y6.2.2.2.2.2++v16) (Int.toNat y12.1) Za;let v30:=Z3.fn (v29,(x2,((1:Int),((1:Int),(y12.2.2.2,())))));cond (decide (y12.1 < ((v19:Nat):Int))) (((0:Int)≤y12.1∧y12.1 < ((v19:Nat):Int))∧(Int.toNat y12.1 < v19∧(Z3.pre (v29,(x2,((1:Int),((1:Int),(y12.2.2.2,())))))∧((((List.length y12.2.2.1+List.length [v30])*48)≤140737488355328∧(List.length y12.2.2.1+List.length [v30])≤9223372036854775807)∧(Zu IntKind.i64 (y12.1+(1:Int))∧R12 ((y12.1+(1:Int)),(y12.2.1,((y12.2.2.1++[v30]),y12.2.2.2)))))))) ((((List.length y10.2+List.length [y12.2.2.1])*24)≤140737488355328∧(List.length y10.2+List.length [y12.2.2.1])≤9223372036854775807)∧(Zu IntKind.i64 (y10.1+(1:Int))∧R10 ((y10.1+(1:Int)),(y10.2++[y12.2.2.1]))))) ((0:Int),(v31,((([]:List (Zc))++x1),v31)))))))) (Zu IntKind.i64 (y8.1+(1:Int))∧R8 ((y8.1+(1:Int)),y10.2))) ((0:Int),y8.2)))))))))) (ZF.pre (y8.2,())∧Q (ZF.fn (y8.2,())))) ((0:Int),([]:List (List (Zc)))))))))))))) ((0:Int),((0:Int),((0:Int),((0:Int),(([(Zam.fn (y4.2,())).1]),([]:List (Zc)))))))))) ((0:Int),([]:List Int))
def ZS.wp (x0:List Zc) (x1:Int) (x2:Int) (Q:(List (List Zc))×Int→Prop):Prop:=Lp (σ:=Int×Int×(List (Zc))×(List (Zc))×(List (Zc))×List (Zc)) (fun y4 R4=>let v0:=List.getD x0 (Int.toNat y4.1) Za;let v1:=List.getD v0.2.2.1 (Int.toNat x2) (0:Int);let v3:=[(v0.1,(v0.2.1,(Zk.fn (v0.2.2,(x2,())))))];let v4:=List.getD x0 (Int.toNat y4.2.1) Za;let v5:=List.getD v4.2.2.1 (Int.toNat x2) (0:Int);let v6:=List.length y4.2.2.2.2.1;let v7:=List.length y4.2.2.2.2.2;let v8:=ZV.fn (x0,(y4.2.1,(x2,())));cond (decide (y4.1 < ((List.length x0:Nat):Int))) (((0:Int)≤y4.1∧y4.1 < ((List.length x0:Nat):Int))∧(((0:Int)≤x2∧x2 < ((List.length v0.2.2.1:Nat):Int))∧cond (v1 == (0:Int)) (Zk.pre (v0.2.2,(x2,()))∧((((List.length y4.2.2.1+List.length v3)*48)≤140737488355328∧(List.length y4.2.2.1+List.length v3)≤9223372036854775807)∧(Zu IntKind.i64 (y4.1+(1:Int))∧R4 ((y4.1+(1:Int)),(y4.2.1,((y4.2.2.1++v3),y4.2.2.2)))))) (cond (v0.1 == (1:Int)) (((!(decide (y4.2.1 < (0:Int))))=true→((!(decide (y4.2.1 < (0:Int))))=true∧Zp.pre (v1,())))∧(((!(decide (y4.2.1 < (0:Int))))=true→((!(decide (y4.2.1 < (0:Int))))=true∧((!(decide (y4.2.1 < (0:Int))))=true∧((0:Int)≤y4.2.1∧y4.2.1 < ((List.length x0:Nat):Int)))))∧(((!(decide (y4.2.1 < (0:Int))))=true→((!(decide (y4.2.1 < (0:Int))))=true∧True))∧(((!(decide (y4.2.1 < (0:Int))))=true→((!(decide (y4.2.1 < (0:Int))))=true∧True))∧(((!(decide (y4.2.1 < (0:Int))))=true→((!(decide (y4.2.1 < (0:Int))))=true∧True))∧(((!(decide (y4.2.1 < (0:Int))))=true→((!(decide (y4.2.1 < (0:Int))))=true∧((!(decide (y4.2.1 < (0:Int))))=true∧((0:Int)≤x2∧x2 < ((List.length v4.2.2.1:Nat):Int)))))∧(((!(decide (y4.2.1 < (0:Int))))=true→((!(decide (y4.2.1 < (0:Int))))=true∧True))∧(((!(decide (y4.2.1 < (0:Int))))=true→((!(decide (y4.2.1 < (0:Int))))=true∧Zp.pre (v5,())))∧(((!(decide (y4.2.1 < (0:Int))))=true→((!(decide (y4.2.1 < (0:Int))))=true∧((!(decide (y4.2.1 < (0:Int))))=true∧True)))∧((decide (y4.2.1 < (0:Int))=false→(!(decide (y4.2.1 < (0:Int))))=true)∧cond (decide (y4.2.1 < (0:Int))||decide (Zp.fn (v1,()) < Zp.fn (v5,()))) (Zu IntKind.i64 (y4.1+(1:Int))∧R4 ((y4.1+(1:Int)),(y4.1,y4.2.2))) (Zu IntKind.i64 (y4.1+(1:Int))∧R4 ((y4.1+(1:Int)),y4.2)))))))))))) (cond (v0.1 == (2:Int)) ((((List.length y4.2.2.2.1+List.length [v0])*48)≤140737488355328∧(List.length y4.2.2.2.1+List.length [v0])≤9223372036854775807)∧(Zu IntKind.i64 (y4.1+(1:Int))∧R4 ((y4.1+(1:Int)),(y4.2.1,(y4.2.2.1,((y4.2.2.2.1++[v0]),y4.2.2.2.2)))))) (cond (decide ((0:Int) < v1)) ((((v6+List.length [v0])*48)≤140737488355328∧(v6+List.length [v0])≤9223372036854775807)∧(Zu IntKind.i64 (y4.1+(1:Int))∧R4 ((y4.1+(1:Int)),(y4.2.1,(y4.2.2.1,(y4.2.2.2.1,((y4.2.2.2.2.1++[v0]),y4.2.2.2.2.2))))))) ((((v7+List.length [v0])*48)≤140737488355328∧(v7+List.length [v0])≤9223372036854775807)∧(Zu IntKind.i64 (y4.1+(1:Int))∧R4 ((y4.1+(1:Int)),(y4.2.1,(y4.2.2.1,(y4.2.2.2.1,(y4.2.2.2.2.1,(y4.2.2.2.2.2++[v0]))))))))))))) (cond (decide ((0:Int)≤y4.2.1)) (ZV.pre (x0,(y4.2.1,(x2,())))∧(ZF.pre ([v8],())∧Q (ZF.fn ([v8],())))) (((((List.length y4.2.2.2.1:Nat):Int) == (0:Int))=true→((((List.length y4.2.2.2.1:Nat):Int) == (0:Int))=true∧True))∧(((((List.length y4.2.2.2.1:Nat):Int) == (0:Int))=true→((((List.length y4.2.2.2.1:Nat):Int) == (0:Int))=true∧True))∧(((((List.length y4.2.2.2.1:Nat):Int) == (0:Int))=true→((((List.length y4.2.2.2.1:Nat):Int) == (0:Int))=true∧True))∧((((((List.length y4.2.2.2.1:Nat):Int) == (0:Int))&&(!(((v6:Nat):Int) == (0:Int))))=true→(((((List.length y4.2.2.2.1:Nat):Int) == (0:Int))&&(!(((v6:Nat):Int) == (0:Int))))=true∧True))∧((((((List.length y4.2.2.2.1:Nat):Int) == (0:Int))&&(!(((v6:Nat):Int) == (0:Int))))=true→(((((List.length y4.2.2.2.1:Nat):Int) == (0:Int))&&(!(((v6:Nat):Int) == (0:Int))))=true∧True))∧(((((List.length y4.2.2.2.1:Nat):Int) == (0:Int))=true→((((List.length y4.2.2.2.1:Nat):Int) == (0:Int))=true∧((((v6:Nat):Int) == (0:Int))=false→((((List.length y4.2.2.2.1:Nat):Int) == (0:Int))&&(!(((v6:Nat):Int) == (0:Int))))=true)))∧(((((List.length y4.2.2.2.1:Nat):Int) == (0:Int))=true→(((List.length y4.2.2.2.1:Nat):Int) == (0:Int))=true)∧cond ((((List.length y4.2.2.2.1:Nat):Int) == (0:Int))&&((((v6:Nat):Int) == (0:Int))||(((v7:Nat):Int) == (0:Int)))) (ZF.pre ([y4.2.2.1],())∧Q (ZF.fn ([y4.2.2.1],()))) (Lp (σ:=Int×Bool) (fun y6 R6=>let v11:=List.getD y4.2.2.2.2.1 (Int.toNat y6.1) Za;let v12:=List.getD v11.2.2.1 (Int.toNat x2) (0:Int);cond (decide (y6.1 < ((v6:Nat):Int))) (((0:Int)≤y6.1∧y6.1 < ((v6:Nat):Int))∧(Int.toNat y6.1 < v6∧Lp (σ:=Int×Bool) (fun y8 R8=>let v13:=List.getD y4.2.2.2.2.2 (Int.toNat y8.1) Za;cond (decide (y8.1 < ((v7:Nat):Int))) (((0:Int)≤y8.1∧y8.1 < ((v7:Nat):Int))∧(Int.toNat y8.1 < v7∧((y8.2=true→(y8.2=true∧True))∧((y8.2=true→(y8.2=true∧True))∧((y8.2=true→(y8.2=true∧(y8.2=true∧((0:Int)≤x2∧x2 < ((List.length v11.2.2.1:Nat):Int)))))∧((y8.2=true→(y8.2=true∧True))∧((y8.2=true→(y8.2=true∧True))∧((y8.2=true→(y8.2=true∧True))∧(((y8.2&&(!(v12 == (1:Int))))=true→((y8.2&&(!(v12 == (1:Int))))=true∧True))∧(((y8.2&&(!(v12 == (1:Int))))=true→((y8.2&&(!(v12 == (1:Int))))=true∧True))∧(((y8.2&&(!(v12 == (1:Int))))=true→((y8.2&&(!(v12 == (1:Int))))=true∧((y8.2&&(!(v12 == (1:Int))))=true∧((0:Int)≤x2∧x2 < ((List.length v13.2.2.1:Nat):Int)))))∧(((y8.2&&(!(v12 == (1:Int))))=true→((y8.2&&(!(v12 == (1:Int))))=true∧True))∧(((y8.2&&(!(v12 == (1:Int))))=true→((y8.2&&(!(v12 == (1:Int))))=true∧True))∧((y8.2=true→(y8.2=true∧((v12 == (1:Int))=false→(y8.2&&(!(v12 == (1:Int))))=true)))∧((y8.2=true→y8.2=true)∧(Zu IntKind.i64 (y8.1+(1:Int))∧R8 ((y8.1+(1:Int)),(y8.2&&((v12 == (1:Int))||((List.getD v13.2.2.1 (Int.toNat x2) (0:Int)) == (-(1:Int)))))))))))))))))))))) (Zu IntKind.i64 (y6.1+(1:Int))∧R6 ((y6.1+(1:Int)),y8.2))) ((0:Int),y6.2))) (cond y6.2 (Lp (σ:=Int×List (Zc)) (fun y8 R8=>let v15:=List.getD y4.2.2.2.2.1 (Int.toNat y8.1) Za;let v18:=List.getD v15.2.2.1 (Int.toNat x2) (0:Int);let v20:=Zk.fn (v15.2.2,(x2,()));cond (decide (y8.1 < ((v6:Nat):Int))) (((0:Int)≤y8.1∧y8.1 < ((v6:Nat):Int))∧(Int.toNat y8.1 < v6∧Lp (σ:=Int×List (Zc)) (fun y10 R10=>let v16:=List.getD y4.2.2.2.2.2 (Int.toNat y10.1) Za;let v17:=List.getD v16.2.2.1 (Int.toNat x2) (0:Int);let v19:=Zk.fn (v16.2.2,(x2,()));let v22:=[((0:Int),((0:Int),(ZB.fn (v18,(v19,((-v17),(v20,())))))))];cond (decide (y10.1 < ((v7:Nat):Int))) (((0:Int)≤y10.1∧y10.1 < ((v7:Nat):Int))∧(Int.toNat y10.1 < v7∧(((0:Int)≤x2∧x2 < ((List.length v15.2.2.1:Nat):Int))∧(Zk.pre (v16.2.2,(x2,()))∧(((0:Int)≤x2∧x2 < ((List.length v16.2.2.1:Nat):Int))∧(Zu IntKind.i64 (-v17)∧(Zk.pre (v15.2.2,(x2,()))∧(ZB.pre (v18,(v19,((-v17),(v20,()))))∧((((List.length y10.2+List.length v22)*48)≤140737488355328∧(List.length y10.2+List.length v22)≤9223372036854775807)∧(Zu IntKind.i64 (y10.1+(1:Int))∧R10 ((y10.1+(1:Int)),(y10.2++v22)))))))))))) (Zu IntKind.i64 (y8.1+(1:Int))∧R8 ((y8.1+(1:Int)),y10.2))) ((0:Int),y8.2))) (ZF.pre ([y8.2],())∧Q (ZF.fn ([y8.2],())))) ((0:Int),y4.2.2.1)) (Zs.pre (x0,(y4.2.2.1,(x2,())))∧Q (Zs.fn (x0,(y4.2.2.1,(x2,()))))))) ((0:Int),(((List.length y4.2.2.2.1:Nat):Int) == (0:Int))))))))))))) ((0:Int),((-(1:Int)),(([]:List (Zc)),(([]:List (Zc)),(([]:List (Zc)),([]:List (Zc)))))))
def Zng (v:Nat) (l:Int) (c:Zc):Zc:=(c.1,c.2.1*ZbN v l c,((Zcf (ZbN v l c) c.2.2 0 c.2.2).1.set v ((Zf v c).tdiv (Zbe (Zf v c))),(Zcf (ZbN v l c) c.2.2 0 c.2.2).2))
theorem Zdc (f:Int) (l:Lin):Zcf f l 0 l=(l.1.map fun n=>f*n,f*l.2):=by
 unfold Zcf
 congr 1
 ·apply List.ext_getElem (by simp)
  intro i h1 h2
  simp only [List.length_map,List.length_range] at h1
  simp only [List.getElem_map,List.getElem_range]
  rw [ZT h1];omega
 ·omega
theorem ZoO {l:List Int} {i:Nat} {x:Int}:ZcR (l.set i x) i=ZcR l i:=by
 unfold ZcR
 rw [List.take_set_of_le (Nat.le_refl i),List.drop_set_of_lt (Nat.lt_succ_self i)]
theorem ZsB {l:List Int} {i:Nat} {g:Int→Int}:ZcR (l.map g) i=(ZcR l i).map g:=by
 unfold ZcR
 rw [List.map_append,List.map_take,List.map_drop]
theorem ZsS {n i:Nat} {x:Int} (h:i < n):ZcR (List.replicate n x) i=List.replicate (n - 1) x:=by
 unfold ZcR
 rw [List.take_replicate,List.drop_replicate,List.replicate_append_replicate]
 congr 1;omega
theorem ZkD {a:Int} (h:a≠0):a.tdiv (Zbe a)=ZmH a:=by
 unfold ZmH Zbe
 split
 ·rw [show max a (-a)=-a by omega,Int.tdiv_neg,Int.tdiv_self h]
 ·rw [show max a (-a)=a by omega,Int.tdiv_self h]
theorem Ziq (v:Nat) (l:Int) (c:Zc):ZaX v (Zng v l c)=Zjb v l c:=by
 unfold ZaX Zng Zjb
 simp only [Zdc,ZoO,ZsB]
 rfl
theorem Ziy {v:Nat} {l:Int} {c:Zc} (h:v < c.2.2.1.length) (h0:Zf v c≠0):Zf v (Zng v l c)=ZmH (Zf v c):=by
 show List.getD (List.set (Zcf (ZbN v l c) c.2.2 0 c.2.2).1 v ((Zf v c).tdiv (Zbe (Zf v c)))) v 0=_
 rw [Zdc,List.getD_eq_getElem?_getD,List.getElem?_set]
 simp [h,ZkD h0]
def Zd3 (N v:Nat) (l:Int):Zc:=(2,l,(List.replicate N (0:Int)).set v 1,0)
theorem ZiD {N v:Nat} {l:Int} (h:v < N):ZaX v (Zd3 N v l)=(List.replicate (N - 1) 0,0):=by
 unfold ZaX Zd3
 simp only [ZoO,ZsS h]
theorem Zin {N v:Nat} {l:Int} (h:v < N):Zf v (Zd3 N v l)=1:=by
 show List.getD (List.set (List.replicate N (0:Int)) v 1) v 0=1
 rw [List.getD_eq_getElem?_getD,List.getElem?_set]
 simp [h]
theorem Zsr {k:Nat} {w:Lin} (h:w.1.length=k):Zcf 1 (List.replicate k 0,0) 1 w=w:=by
 obtain ⟨C,K⟩:=w
 unfold Zcf
 congr 1
 ·apply List.ext_getElem (by simpa using h.symm)
  intro i h1 h2
  simp only [List.length_map,List.length_range,List.length_replicate] at h1
  simp only [List.getElem_map,List.getElem_range]
  rw [ZT (by simpa using h1),ZT h2];simp
 ·simp
def ZrV (v:Nat) (w:Lin) (c:Zc):Zc:=(c.1,c.2.1*1,Zcf 1 (ZaX v c) (Zf v c*1) w)
theorem ZsU {v:Nat} {l:Int} {w:Lin} {c:Zc} (h:v < c.2.2.1.length) (h0:Zf v c≠0):ZrV v w (Zng v l c)=Zu7 v l w c:=by
 unfold ZrV Zu7
 rw [Ziq,Ziy h h0,Int.mul_one,Int.mul_one]
 rfl
theorem Zpo {N v:Nat} {l:Int} {w:Lin} (h:v < N) (hw:w.1.length=N - 1):ZrV v w (Zd3 N v l)=(2,l,w):=by
 unfold ZrV
 rw [ZiD h,Zin h,Int.mul_one,Int.mul_one,Zsr hw]
 rfl
theorem Zur {p : List Zc} {n : Int} {v : Nat} (h : pieceN p n) (hv : (v : Int) < n) {l : Int} {w : Lin} (hw : w.1.length = n.toNat - 1) (all : Bool) :
 ZbH v p++((((Zw v p).map (Zng v l))++[Zd3 n.toNat v l]).filter fun c=>all||decide (c.1=2)).map (ZrV v w)=Ze0 v p l w all:=by
 unfold Ze0
 rw [List.filter_append,List.map_append,← List.append_assoc]
 congr 1
 ·congr 1
  rw [List.filter_map,List.map_map]
  have e:((fun c:Zc=>all||decide (c.1=2))∘Zng v l)=fun c:Zc=>all||decide (c.1=2):=rfl
  rw [e]
  apply List.map_congr_left
  intro c hc
  have hcp:=Za3.1 (List.mem_filter.1 hc).1
  have:=(h.c hcp.1).2
  exact ZsU (by omega) hcp.2
 ·rw [List.filter_cons_of_pos (by simp [Zd3]),List.filter_nil]
  simp only [List.map_cons,List.map_nil]
  rw [Zpo (by omega) hw]
theorem Zil {α β:Type} (f:α→Bool) (g:α→List β):∀ l:List α,(l.flatMap fun x=>if f x=true then g x else [])=(l.filter f).flatMap g
 | []=>rfl
 | x::l=>by
   rw [List.flatMap_cons,Zil f g l]
   by_cases hf:f x=true
   ·rw [if_pos hf,List.filter_cons_of_pos hf,List.flatMap_cons]
   ·rw [if_neg hf,List.filter_cons_of_neg hf,List.nil_append]
theorem ZjJ (v:Nat) (q:List Zc) (c:Zc):Zw v (q++[c])=Zw v q++if Zf v c≠0 then [c] else []:=by
 unfold Zw
 rw [List.filter_append]
 congr 1
 by_cases h:Zf v c≠0<;>simp [h]
theorem ZrL (v:Nat) (q:List Zc) (c:Zc):(ZbM v (q++[c])).length=(ZbM v q).length+if Zf v c≠0∧c.1≠1∧c.1≠2∧0 < Zf v c then 1 else 0:=by
 unfold ZbM
 rw [List.filter_append,List.length_append]
 congr 1
 by_cases h:Zf v c≠0∧c.1≠1∧c.1≠2∧0 < Zf v c
 ·rw [if_pos h,List.filter_cons_of_pos (by simpa using h)];rfl
 ·rw [if_neg h,List.filter_cons_of_neg (by simpa using h)];rfl
theorem ZsG (v:Nat) (q:List Zc) (c:Zc):(upP v (q++[c])).length=(upP v q).length+if Zf v c≠0∧c.1≠1∧c.1≠2∧¬ 0 < Zf v c then 1 else 0:=by
 unfold upP
 rw [List.filter_append,List.length_append]
 congr 1
 by_cases h:Zf v c≠0∧c.1≠1∧c.1≠2∧¬ 0 < Zf v c
 ·rw [if_pos h,List.filter_cons_of_pos (by simpa using h)];rfl
 ·rw [if_neg h,List.filter_cons_of_neg (by simpa using h)];rfl
theorem Zre {c:Zc} (h:Zh c=true) (h2:c.1=2):1≤c.2.1∧c.2.1≤512:=by
 unfold Zh at h
 rw [if_neg (by omega),if_pos h2] at h
 simp only [Bool.and_eq_true,decide_eq_true_iff] at h
 omega
theorem Zkr {c:Zc} {n:Int} {v:Nat} {l:Int} (h:Zh c=true∧(c.2.2.1.length:Int)=n) (hv:(v:Int) < n) (hn:n≤12) (hf:1≤ZbN v l c∧ZbN v l c≤512) (h0:Zf v c≠0):Zwb n.toNat (Zng v l c):=by
 have hM:-512≤c.2.1∧c.2.1≤512:=by
  rcases Ze1 h.1 with h1 | h1 | ⟨h1,_,_⟩
  ·have:=h.1;unfold Zh at this;rw [if_pos (.inl h1)] at this;simp only [Bool.and_eq_true,beq_iff_eq] at this;omega
  ·have:=h.1;unfold Zh at this;rw [if_pos (.inr h1)] at this;simp only [Bool.and_eq_true,beq_iff_eq] at this;omega
  ·have:=Zre h.1 h1;omega
 have hm:=Zdb (n:=512) (m:=512) (by omega) (by omega) hM.1 hM.2 (show -512≤ZbN v l c by omega) hf.2
 have hl:=ZaG.b (Zh.lin h.1)
 have key:∀ x:Int,(-1048576≤x∧x≤1048576)→-536870912≤ZbN v l c*x∧ZbN v l c*x≤536870912:=fun x hx =>
  Zdb (n:=512) (m:=1048576) (by omega) (by omega) (by omega) hf.2 hx.1 hx.2
 have hlen:(Zng v l c).2.2.1.length=n.toNat:=by
  show ((Zcf (ZbN v l c) c.2.2 0 c.2.2).1.set v _).length=_
  rw [Zdc,List.length_set,List.length_map];omega
 refine ⟨by show -1048576≤c.2.1*ZbN v l c∧c.2.1*ZbN v l c≤1048576;omega,⟨by show (Zng v l c).2.2.1.length≤_;omega,fun x hx=>?_,?_⟩,hlen⟩
 ·have hx':x∈(Zcf (ZbN v l c) c.2.2 0 c.2.2).1.set v ((Zf v c).tdiv (Zbe (Zf v c))):=hx
  rw [ZkD h0,Zdc] at hx'
  rcases List.mem_or_eq_of_mem_set hx' with hx' | rfl
  ·simp only [List.mem_map] at hx'
   obtain ⟨y,hy,rfl⟩:=hx'
   have:=key y (hl.2.1 y hy)
   omega
  ·unfold ZmH;split<;>omega
 ·show -4294967296≤(Zcf (ZbN v l c) c.2.2 0 c.2.2).2∧(Zcf (ZbN v l c) c.2.2 0 c.2.2).2≤4294967296
  rw [Zdc]
  have:=key _ hl.2.2
  simp only;omega
theorem Zqe {N v:Nat} {l:Int} (hN:N≤12) (hl:1≤l∧l≤512):Zwb N (Zd3 N v l):=by
 refine ⟨by show -1048576≤l∧l≤1048576;omega,⟨by show ((List.replicate N (0:Int)).set v 1).length≤_;rw [List.length_set,List.length_replicate];omega,fun x hx=>?_,by show (-4294967296:Int)≤0∧(0:Int)≤4294967296;omega⟩,by show ((List.replicate N (0:Int)).set v 1).length=N;rw [List.length_set,List.length_replicate]⟩
 have hx':x∈(List.replicate N (0:Int)).set v 1:=hx
 rcases List.mem_or_eq_of_mem_set hx' with hx' | rfl
 ·rw [(List.mem_replicate.1 hx').2];omega
 ·omega
theorem Zfn {β:Type} (g:Nat→β) (j:Nat):(List.range (j+1)).map g=(List.range j).map g++[g j]:=by
 rw [List.range_succ,List.map_append];rfl
theorem Zs.spec (p free:List Zc) (v:Int) (hp:Zs.pre (p,free,v,())):Zs.wp p free v (fun r=>r=Zs.fn (p,free,v,())):=by
 obtain ⟨⟨n,hN,hv0,hv1⟩,hfree,hne,hno1⟩:=hp
 simp only at hN hv0 hv1 hfree hne hno1
 obtain ⟨V,rfl⟩:∃ V:Nat,v=(V:Int):=⟨v.toNat,by omega⟩
 simp only [Int.toNat_natCast] at hfree hne hno1
 have hn12:=hN.2.2.2
 have h400:=hN.1
 have hVn:V < n.toNat:=by omega
 have hfn:Zs.fn (p,free,(V:Int),())=ZvO p free V:=rfl
 have hwo:∀ l:Lin,Zk.fn (l,(V:Int),())=(ZcR l.1 V,l.2):=fun _=>rfl
 have hpu:∀ c w,Z3.fn (c,(V:Int),1,1,w,())=ZrV V w c:=fun _ _=>rfl
 have hmx:∀ a l b m,ZB.fn (a,l,b,m,())=Zcf a l b m:=fun _ _ _ _=>rfl
 have hma:∀ l,ZF.fn (l,())=Zd7 l:=fun _=>rfl
 have hnu:∀ a b,ZK.fn (a,b,())=(List.replicate a.toNat 0,b):=fun _ _=>rfl
 have hlc:∀ l,Zam.fn (l,())=ZhH l:=fun _=>rfl
 simp only [Zs.wp,hfn,Zp.fn,hwo,hpu,hmx,hma,hnu,hlc,Int.toNat_natCast]
 have hszc:∀ c∈p,Zp.pre (Zf V c,()):=fun c hc=>by
  have:=Zcq (hN.c hc).1 V
  exact ⟨by show -2305843009213693952≤Zf V c;omega,by show Zf V c≤2305843009213693952;omega⟩
 have hpartlen:(Zw V p).length≤400:=Nat.le_trans (List.length_filter_le _ _) h400
 refine Lp.flt p Za [] (fun jc=>decide (Zf V jc.2≠0)) (fun jc=>Zbe (Zf V jc.2)) (by omega) (fun i t R hi hi' hf htl h1 h2=>?_) (fun R _=>?_)
 ·have hm:=Zj (d:=Za) hi
  simp only [decide_eq_true hi',Int.toNat_natCast,cond_true]
  obtain ⟨c,hq⟩:∃ c,p.getD i Za=c:=⟨_,rfl⟩
  simp only [hq] at hm h1 h2 ⊢
  have hlen:(V:Int) < (c.2.2.1.length:Int):=by have:=(hN.c hm).2;omega
  have hcoef:c.2.2.1.getD V 0=Zf V c:=rfl
  simp only [hcoef,List.length_nil,Nat.zero_add] at htl ⊢
  refine ⟨⟨by omega,hi'⟩,⟨by omega,hlen⟩,?_⟩
  by_cases h0:Zf V c=0
  ·rw [show (Zf V c != 0)=false by simpa using h0,cond_false]
   exact ⟨hf,h2 (by simpa using h0)⟩
  ·rw [show (Zf V c != 0)=true by simpa using h0,cond_true]
   exact ⟨⟨by omega,hlen⟩,hszc c hm,⟨by simp only [List.length_singleton];omega,by simp only [List.length_singleton];omega⟩,hf,h1 (by simpa using h0)⟩
 simp only [Int.lt_irrefl,decide_false,cond_false,List.nil_append]
 have hall:((Zbw Za p).filter fun jc=>decide (Zf V jc.2≠0)).map (fun jc=>Zbe (Zf V jc.2))=(Zw V p).map fun c=>Zbe (Zf V c):=ZdJ Za p (fun c=>decide (Zf V c≠0)) (fun c=>Zbe (Zf V c))
 simp only [hall]
 have hL:ZhH ((Zw V p).map fun c=>Zbe (Zf V c))=Zbs V p:=rfl
 simp only [hL]
 have hres:ZvO p free V=if (Zbs V p).2≠0 then ([],3) else if (ZeW V p (Zbs V p).1).2≠0 then ([],3)
  else Zd7 (ZbV V p ((p.getD 0 Za).2.2.1.length - 1) (Zbs V p).1 (ZeW V p (Zbs V p).1).1.toNat):=rfl
 rw [hres]
 refine ⟨fun x hx=>?_,?_⟩
 ·obtain ⟨c,hc,rfl⟩:=List.mem_map.1 hx
  have:=Ziw (Zcq (hN.c (Za3.1 hc).1).1 V)
  omega
 by_cases hl0:(Zbs V p).2=0
 rotate_left
 ·rw [show ((Zbs V p).2 != 0)=true by simpa using hl0,cond_true,if_pos hl0]
 rw [show ((Zbs V p).2 != 0)=false by simpa using hl0,cond_false,if_neg (by simpa using hl0)]
 obtain ⟨_,hl1,hl512⟩:=Zfq hl0
 have hfac:∀ c∈Zw V p,1≤ZbN V (Zbs V p).1 c∧ZbN V (Zbs V p).1 c≤512:=fun c hc=>⟨(Zet hl0 hc).2.1,(Zet hl0 hc).2.2.1⟩
 obtain ⟨l,hl⟩:∃ l,(Zbs V p).1=l:=⟨_,rfl⟩
 simp only [hl] at hl1 hl512 hfac ⊢
 refine Lp.iter p.length (fun i z=>z=((i:Int),(if Zw V (p.take i)=[] then (0:Int) else n),((ZbM V (p.take i)).length:Int),((upP V (p.take i)).length:Int),l::((Zw V (p.take i)).filter fun c=>decide (c.1=2)).map (fun c=>c.2.1*ZbN V l c),(Zw V (p.take i)).map (Zng V l))) (by simp [Zw,ZbM,upP]) ?_
 rintro i z hle rfl R1 hR1
 by_cases e:i < p.length
 ·have e':(i:Int) < (p.length:Int):=by omega
  have hm:=Zj (d:=Za) e
  have hR1':=hR1 e _ rfl
  rw [ZbP (d:=Za) e,ZjJ,ZrL,ZsG] at hR1'
  simp only [decide_eq_true e',Int.toNat_natCast,cond_true]
  obtain ⟨c,hq⟩:∃ c,p.getD i Za=c:=⟨_,rfl⟩
  simp only [hq] at hm hR1' ⊢
  have hcn:=hN.c hm
  have hlen:(V:Int) < (c.2.2.1.length:Int):=by have:=hcn.2;omega
  have hcoef:c.2.2.1.getD V 0=Zf V c:=rfl
  simp only [hcoef]
  have hfi:Zu IntKind.i64 ((i:Int)+1):=⟨by omega,by omega⟩
  refine ⟨⟨by omega,e'⟩,⟨by omega,hlen⟩,?_⟩
  by_cases h0:Zf V c=0
  ·rw [show (Zf V c == 0)=true by simpa using h0,cond_true]
   have hif:(if Zf V c≠0 then [c] else [])=([]:List Zc):=if_neg (by simpa using h0)
   have hif1:(if Zf V c≠0∧c.1≠1∧c.1≠2∧0 < Zf V c then 1 else 0)=0:=if_neg (fun h=>h.1 h0)
   have hif2:(if Zf V c≠0∧c.1≠1∧c.1≠2∧¬ 0 < Zf V c then 1 else 0)=0:=if_neg (fun h=>h.1 h0)
   rw [hif,hif1,hif2,List.append_nil] at hR1'
   exact ⟨hfi,hR1'⟩
  ·rw [show (Zf V c == 0)=false by simpa using h0,cond_false]
   have hcp:c∈Zw V p:=Za3.2 ⟨hm,h0⟩
   obtain ⟨f1,f2⟩:=hfac c hcp
   have hab:=Ziw (Zcq hcn.1 V)
   have ha1:Zbe (Zf V c)≠0:=fun h=>h0 (Zqy.1 h)
   have hmed:=Zkr hcn (by omega) hn12 ⟨f1,f2⟩ h0
   have hc1:=hno1 c hcp
   have hlq:(Zw V (p.take i)).length≤i:=Nat.le_trans (List.length_filter_le _ _) (by rw [List.length_take];omega)
   have hlow:(ZbM V (p.take i)).length≤i:=Nat.le_trans (List.length_filter_le _ _) (by rw [List.length_take];omega)
   have hup:(upP V (p.take i)).length≤i:=Nat.le_trans (List.length_filter_le _ _) (by rw [List.length_take];omega)
   have hdq:=List.length_filter_le (fun c:Zc=>decide (c.1=2)) (Zw V (p.take i))
   have hif:(if Zf V c≠0 then [c] else [])=[c]:=if_pos h0
   rw [hif,if_neg (show ¬ Zw V (p.take i)++[c]=[] by simp)] at hR1'
   have hfacq:l.tdiv (Zbe (Zf V c))=ZbN V l c:=rfl
   have hscl:((c.1,c.2.1*ZbN V l c,(Zcf (ZbN V l c) c.2.2 0 c.2.2).1.set V ((Zf V c).tdiv (Zbe (Zf V c))),(Zcf (ZbN V l c) c.2.2 0 c.2.2).2):Zc)=Zng V l c:=rfl
   have hslen:((Zcf (ZbN V l c) c.2.2 0 c.2.2).1.set V ((Zf V c).tdiv (Zbe (Zf V c)))).length=n.toNat:=hmed.2.2
   have hmlen:(Zcf (ZbN V l c) c.2.2 0 c.2.2).1.length=n.toNat:=by rw [List.length_set] at hslen;exact hslen
   have hMf:Zu IntKind.i64 (c.2.1*ZbN V l c):=by have:=hmed.1;have h:-1048576≤c.2.1*ZbN V l c∧c.2.1*ZbN V l c≤1048576:=this;exact ⟨by omega,by omega⟩
   have hsg:Zu IntKind.i64 ((Zf V c).tdiv (Zbe (Zf V c))):=by rw [ZkD h0];unfold ZmH;split<;>exact ⟨by omega,by omega⟩
   have hvs:=Zfw hcn.1
   simp only [hfacq,hscl,hslen,hmlen]
   refine ⟨hszc c hm,⟨ha1,⟨by omega,by omega⟩⟩,hMf,⟨⟨by show -1048576≤ZbN V l c;omega,by show ZbN V l c≤1048576;omega⟩,hvs,⟨by show (-1048576:Int)≤0;omega,by show (0:Int)≤1048576;omega⟩,hvs,rfl⟩,hszc c hm,⟨ha1,hsg⟩,⟨by omega,by omega⟩,by omega,⟨by simp only [List.length_singleton,List.length_map];omega,by simp only [List.length_singleton,List.length_map];omega⟩,?_⟩
   rw [List.map_append,List.map_cons,List.map_nil,List.filter_append] at hR1'
   have hnn:((n.toNat:Nat):Int)=n:=by omega
   by_cases h2:c.1=2
   ·rw [show (c.1 == 2)=true by simpa using h2,cond_true]
    rw [if_neg (fun h=>h.2.2.1 h2),if_neg (fun h=>h.2.2.1 h2),List.filter_cons_of_pos (by simpa using h2),List.filter_nil,List.map_append] at hR1'
    refine ⟨⟨by simp only [List.length_cons,List.length_nil,List.length_map];omega,by simp only [List.length_cons,List.length_nil,List.length_map];omega⟩,hfi,?_⟩
    rw [hnn]
    exact hR1'
   ·rw [show (c.1 == 2)=false by simpa using h2,cond_false]
    rw [List.filter_cons_of_neg (by simpa using h2),List.filter_nil,List.append_nil] at hR1'
    by_cases hpos:0 < Zf V c
    ·rw [decide_eq_true hpos,cond_true]
     rw [if_pos ⟨h0,hc1,h2,hpos⟩,if_neg (fun h=>h.2.2.2 hpos)] at hR1'
     refine ⟨⟨by omega,by omega⟩,hfi,?_⟩
     rw [hnn]
     exact hR1'
    ·rw [decide_eq_false hpos,cond_false]
     rw [if_neg (fun h=>hpos h.2.2.2),if_pos ⟨h0,hc1,h2,hpos⟩] at hR1'
     refine ⟨⟨by omega,by omega⟩,hfi,?_⟩
     rw [hnn]
     exact hR1'
 have hip:i=p.length:=by omega
 subst hip
 simp only [Int.lt_irrefl,decide_false,cond_false,List.take_length,if_neg hne]
 obtain ⟨N,rfl⟩:∃ N:Nat,n=(N:Int):=⟨n.toNat,by omega⟩
 simp only [Int.toNat_natCast] at hVn ⊢
 have hwh:(((2:Int),(l,((List.set (List.replicate N (0:Int)) V (1:Int)),(0:Int)))):Zc)=Zd3 N V l:=rfl
 have hdd:ZhH (l::((Zw V p).filter fun c=>decide (c.1=2)).map (fun c=>c.2.1*ZbN V l c))=ZeW V p l:=rfl
 simp only [hwh,hdd,List.length_replicate]
 have hdq:=List.length_filter_le (fun c:Zc=>decide (c.1=2)) (Zw V p)
 refine ⟨⟨by omega,by omega,by omega,by omega⟩,⟨by omega,by omega⟩,hVn,⟨by simp only [List.length_singleton,List.length_map];omega,by simp only [List.length_singleton,List.length_map];omega⟩,fun x hx=>?_,?_⟩
 ·rcases List.mem_cons.1 hx with rfl | hx
  ·omega
  ·obtain ⟨c,hc,rfl⟩:=List.mem_map.1 hx
   obtain ⟨hc,_⟩:=List.mem_filter.1 hc
   obtain ⟨f1,f2⟩:=hfac c hc
   have:=Zs8 (Zis (hN.c (Za3.1 hc).1).1) (b:=ZbN V l c) (by omega)
   omega
 by_cases hd0:(ZeW V p l).2=0
 rotate_left
 ·rw [show ((ZeW V p l).2 != 0)=true by simpa using hd0,cond_true,if_pos hd0]
 rw [show ((ZeW V p l).2 != 0)=false by simpa using hd0,cond_false,if_neg (by simpa using hd0)]
 obtain ⟨hd1,hd512,_,_⟩:=Znl hd0
 obtain ⟨d,hd⟩:∃ d:Nat,(ZeW V p l).1=(d:Int):=⟨(ZeW V p l).1.toNat,by omega⟩
 simp only [hd,Int.toNat_natCast] at hd1 hd512 ⊢
 have hlen0:(p.getD 0 Za).2.2.1.length=N:=by
  have hp0:0 < p.length:=by
   rcases hp0:p with _ | ⟨c,q⟩
   ·rw [hp0] at hne;exact absurd rfl hne
   ·simp
  have:=(hN.c (Zj (d:=Za) hp0)).2
  omega
 rw [hlen0]
 have hN12:N≤12:=by omega
 have hputs:∀ (w:Lin) (all:Bool),w.1.length=N - 1→free++((((Zw V p).map (Zng V l))++[Zd3 N V l]).filter fun c=>all||decide (c.1=2)).map (ZrV V w)=Ze0 V p l w all:=fun w all hw=>by
  rw [hfree]
  exact Zur hN (by omega) hw all
 have hfl:free.length≤400:=by rw [hfree];exact Nat.le_trans Zcm h400
 obtain ⟨W,hW⟩:∃ W,(Zw V p).map (Zng V l)++[Zd3 N V l]=W:=⟨_,rfl⟩
 have hWlen:W.length≤401:=by rw [← hW];simp;omega
 have hWmed:∀ c∈W,Zwb N c∧(-1048576≤Zf V c∧Zf V c≤1048576):=fun c hc=>by
  rw [← hW] at hc
  rcases List.mem_append.1 hc with hc | hc
  ·obtain ⟨c',hc',rfl⟩:=List.mem_map.1 hc
   have hcp:=Za3.1 hc'
   have hcn:=hN.c hcp.1
   refine ⟨Zkr hcn (by omega) hn12 (hfac c' hc') hcp.2,?_⟩
   rw [Ziy (by have:=hcn.2;omega) hcp.2]
   unfold ZmH;split<;>omega
  ·rw [List.mem_singleton.1 hc]
   refine ⟨Zqe hN12 ⟨hl1,hl512⟩,?_⟩
   rw [Zin hVn];omega
 simp only [hW] at hputs ⊢
 have hgood:=ZfA hN (v:=V) (by omega) hl0 (d:=d) (by omega)
 simp only [hl,Int.toNat_natCast] at hgood
 have hpre:∀ L,L=ZbV V p (N - 1) l d→ZF.pre (L,()):=fun L hL=>by
  rw [hL]
  exact ⟨Nat.le_trans hgood.1 (by omega),fun q hq=>⟨(hgood.2 q hq).D.1,_,(hgood.2 q hq).D.2⟩⟩
 have hnum:∀ j:Nat,j≤512→ZK.pre ((N:Int) - 1,(j:Int),()):=fun j _=>⟨by show (0:Int)≤(N:Int) - 1;omega,by show (N:Int) - 1≤1048576;omega⟩
 have hNt:((N:Int) - 1).toNat=N - 1:=by omega
 simp only [hNt]
 refine ⟨fun h=>⟨h,trivial⟩,fun h=>by rw [h];rfl,?_⟩
 by_cases hAB:ZbM V p=[]∨upP V p=[]
 ·have hc:(((ZbM V p).length:Int) == 0||((upP V p).length:Int) == 0)=true:=by
   rcases hAB with h | h<;>simp [h]
  rw [hc,cond_true]
  have hT:ZbV V p (N - 1) l d=(List.range d).map fun (j:Nat)=>Ze0 V p l (List.replicate (N - 1) 0,(j:Int)) false:=by
   unfold ZbV;rw [if_pos hAB]
  refine Lp.iter d (fun j z=>z=((j:Int),(List.range j).map fun (j:Nat)=>Ze0 V p l (List.replicate (N - 1) 0,(j:Int)) false)) rfl ?_
  rintro j z hj rfl R2 hR2
  by_cases ej:j < d
  ·simp only [decide_eq_true (show (j:Int) < (d:Int) by omega),cond_true,List.length_nil,Nat.zero_add]
   refine ⟨⟨by omega,by omega⟩,?_⟩
   have hR2':=hR2 ej _ rfl
   rw [Zfn] at hR2'
   refine Lp.flt W Za free (fun jc=>decide (jc.2.1=2)) (fun jc=>ZrV V (List.replicate (N - 1) 0,(j:Int)) jc.2) (by omega) (fun i t R3 hi hi' hf htl h1 h2=>?_) (fun R3 _=>?_)
   ·have hm:=Zj (d:=Za) hi
    simp only [decide_eq_true hi',Int.toNat_natCast,cond_true]
    obtain ⟨c,hq⟩:∃ c,W.getD i Za=c:=⟨_,rfl⟩
    simp only [hq] at hm h1 h2 ⊢
    refine ⟨⟨by omega,hi'⟩,hi,?_⟩
    by_cases h2':c.1=2
    ·rw [show (c.1 == 2)=true by simpa using h2',cond_true]
     obtain ⟨hmed,hcf⟩:=hWmed c hm
     exact ⟨⟨by omega,by omega⟩,hnum j (by omega),⟨⟨N,hmed,by omega,by show (List.replicate (N - 1) (0:Int)).length+1=N;rw [List.length_replicate];omega,by show (0:Int)≤V;omega,by show (V:Int) < N;omega⟩,hcf,by show (-1048576:Int)≤1∧(1:Int)≤1048576;omega,.inl rfl,(Zk7 (n:=N - 1) (j:=j) (by omega)).small (by omega) (by omega)⟩,⟨by simp only [List.length_singleton];omega,by simp only [List.length_singleton];omega⟩,hf,h1 (by simpa using h2')⟩
    ·rw [show (c.1 == 2)=false by simpa using h2',cond_false]
     exact ⟨hf,h2 (by simpa using h2')⟩
   ·simp only [Int.lt_irrefl,decide_false,cond_false]
    have hq:=hputs (List.replicate (N - 1) 0,(j:Int)) false (by simp)
    rw [ZdJ Za W (fun c=>decide (c.1=2)) (ZrV V (List.replicate (N - 1) 0,(j:Int)))]
    simp only [Bool.false_or] at hq
    rw [hq]
    exact ⟨⟨by simp only [List.length_singleton,List.length_map,List.length_range];omega,by simp only [List.length_singleton,List.length_map,List.length_range];omega⟩,⟨by omega,by omega⟩,hR2'⟩
  ·have:j=d:=by omega
   subst this
   simp only [Int.lt_irrefl,decide_false,cond_false]
   exact ⟨hpre _ hT.symm,by rw [hT]⟩
 ·have hc:(((ZbM V p).length:Int) == 0||((upP V p).length:Int) == 0)=false:=by
   simp only [not_or] at hAB
   have h1:(ZbM V p).length≠0:=fun h=>hAB.1 (List.eq_nil_of_length_eq_zero h)
   have h2:(upP V p).length≠0:=fun h=>hAB.2 (List.eq_nil_of_length_eq_zero h)
   simp;omega
  rw [hc,cond_false]
  have hT:ZbV V p (N - 1) l d=(ZlU V p).flatMap fun c=>(List.range d).map fun (j:Nat)=>Ze0 V p l (Zdx V l c (Zgq V p) j) true:=by
   unfold ZbV;rw [if_neg hAB]
  have side:∀ (s:Int) (low:Bool),Zgq V p=low→s=(if low then 1 else -1)→W.flatMap (fun b=>if (decide (b.1≠2)&&decide (Zf V b=s))=true then (List.range d).map (fun (j:Nat)=>Ze0 V p l (if low then ((ZaX V b).1.map fun n=>-1*n,-1*(ZaX V b).2+j) else ((ZaX V b).1,(ZaX V b).2+-j)) true) else [])=ZbV V p (N - 1) l d:=by
   intro s low hlow hs
   rw [hT,Zil,← hW,List.filter_append,List.flatMap_append]
   have hw2:([Zd3 N V l].filter fun b=>decide (b.1≠2)&&decide (Zf V b=s))=[]:=by
    rw [List.filter_cons_of_neg (by simp [Zd3])];rfl
   rw [hw2,List.flatMap_nil,List.append_nil,List.filter_map]
   unfold ZlU
   rw [List.flatMap_map]
   have hfilt:((Zw V p).filter ((fun b=>decide (b.1≠2)&&decide (Zf V b=s))∘Zng V l))=(Zw V p).filter fun c=>decide (c.1≠2∧decide (0 < Zf V c)=Zgq V p):=by
    apply List.filter_congr
    intro c hc
    have hcp:=Za3.1 hc
    have hcs:=Ziy (l:=l) (show V < c.2.2.1.length by have:=(hN.c hcp.1).2;omega) hcp.2
    show (decide (c.1≠2)&&decide (Zf V (Zng V l c)=s))=_
    rw [hcs,hlow,hs]
    have h0:=hcp.2
    unfold ZmH
    by_cases h2:c.1=2
    ·simp [h2]
    ·cases low with
     | true=>simp [h2];omega
     | false=>simp [h2];omega
   rw [hfilt]
   congr 1
   funext c
   rw [Ziq,hlow]
   rfl
  have hby:∀ (b:Zc) (low:Bool) (s:Int) (j:Nat),s=(if low then 1 else -1)→(ZaX V b).1.length=N - 1→Zcf (-s) (ZaX V b) s (List.replicate (N - 1) 0,(j:Int))=if low then ((ZaX V b).1.map fun n=>-1*n,-1*(ZaX V b).2+j) else ((ZaX V b).1,(ZaX V b).2+-j):=by
   intro b low s j hs hb
   have hz:(List.replicate (N - 1) (0:Int),(j:Int))=(List.replicate (ZaX V b).1.length 0,(j:Int)):=by rw [hb]
   rw [hz,ZqX]
   cases low with
   | true=>rw [hs];simp
   | false=>rw [hs];simp
  have restlen:∀ b∈W,(ZaX V b).1.length=N - 1:=fun b hb=>by
   have:=(hWmed b hb).1.2.2
   show (ZcR b.2.2.1 V).length=_
   rw [Zhu (by omega),this]
  have loop : ∀ (s : Int) (low : Bool), Zgq V p = low → s = (if low then 1 else -1) → ∀ body : Int × List (List Zc) → (Int × List (List Zc) → Prop) → Prop,
   (∀ (i:Nat) (t:List (List Zc)) (R:Int×List (List Zc)→Prop),i < W.length→t.length≤401*512→W.getD i Za∈W→(decide ((W.getD i Za).1≠2)&&decide (Zf V (W.getD i Za)=s))=false→R ((i:Int)+1,t)→body ((i:Int),t) R) →
   (∀ (i:Nat) (t:List (List Zc)) (R:Int×List (List Zc)→Prop),i < W.length→t.length≤401*512→W.getD i Za∈W→(decide ((W.getD i Za).1≠2)&&decide (Zf V (W.getD i Za)=s))=true→R ((i:Int)+1,t++(List.range d).map (fun (j:Nat)=>Ze0 V p l (Zcf (-s) (ZaX V (W.getD i Za)) s (List.replicate (N - 1) 0,(j:Int))) true))→body ((i:Int),t) R) →
   (∀ R:Int×List (List Zc)→Prop,body ((W.length:Int),ZbV V p (N - 1) l d) R)→Lp body (0,[]):=by
   intro s low hlow hs body hb1 hb2 hb3
   have hside:=side s low hlow hs
   refine Lp.flat W Za [] (fun b=>if (decide (b.1≠2)&&decide (Zf V b=s))=true then (List.range d).map (fun (j:Nat)=>Ze0 V p l (if low then ((ZaX V b).1.map fun n=>-1*n,-1*(ZaX V b).2+j) else ((ZaX V b).1,(ZaX V b).2+-j)) true) else []) (by omega) (fun i R hi hi' hf hR=>?_) (fun R=>?_)
   ·have hm:=Zj (d:=Za) hi
    rw [List.nil_append] at hR ⊢
    have htl:((W.take i).flatMap fun b=>if (decide (b.1≠2)&&decide (Zf V b=s))=true then (List.range d).map (fun (j:Nat)=>Ze0 V p l (if low then ((ZaX V b).1.map fun n=>-1*n,-1*(ZaX V b).2+j) else ((ZaX V b).1,(ZaX V b).2+-j)) true) else []).length≤401*512:=by
     have h1:=Zcu (g:=fun b=>if (decide (b.1≠2)&&decide (Zf V b=s))=true then (List.range d).map (fun (j:Nat)=>Ze0 V p l (if low then ((ZaX V b).1.map fun n=>-1*n,-1*(ZaX V b).2+j) else ((ZaX V b).1,(ZaX V b).2+-j)) true) else []) (k:=512) (l:=W.take i) fun x _=>by
      split
      ·simp;omega
      ·simp
     have h2:(W.take i).length≤401:=by rw [List.length_take];omega
     exact Nat.le_trans h1 (Nat.mul_le_mul h2 (Nat.le_refl 512))
    cases hcnd:(decide ((W.getD i Za).1≠2)&&decide (Zf V (W.getD i Za)=s)) with
    | false =>
      rw [hcnd,if_neg (by simp),List.append_nil] at hR
      exact hb1 i _ R hi htl hm hcnd hR
    | true =>
      rw [hcnd,if_pos rfl] at hR
      refine hb2 i _ R hi htl hm hcnd ?_
      have e:(fun (j:Nat)=>Ze0 V p l (Zcf (-s) (ZaX V (W.getD i Za)) s (List.replicate (N - 1) 0,(j:Int))) true)=fun (j:Nat)=>Ze0 V p l (if low then ((ZaX V (W.getD i Za)).1.map fun n=>-1*n,-1*(ZaX V (W.getD i Za)).2+j) else ((ZaX V (W.getD i Za)).1,(ZaX V (W.getD i Za)).2+-j)) true:=by
       funext j
       rw [hby _ low s j hs (restlen _ hm)]
      rw [e]
      exact hR
   ·rw [List.nil_append,hside]
    exact hb3 R
  have hmixpre:∀ (b:Zc) (s:Int) (j:Nat),b∈W→s=1∨s=-1→j≤512→ZB.pre (-s,ZaX V b,s,(List.replicate (N - 1) 0,(j:Int)),())∧ZcN (Zcf (-s) (ZaX V b) s (List.replicate (N - 1) 0,(j:Int)))∧(Zcf (-s) (ZaX V b) s (List.replicate (N - 1) 0,(j:Int))).1.length=N - 1:=by
   intro b s j hb hs hj
   obtain ⟨hmed,_⟩:=hWmed b hb
   have hrl:=restlen b hb
   have hsm:ZcN (ZaX V b):=ZgM hmed.2.1 V
   have hbd:ZdO 536870912 (N - 1) (ZaX V b):=by
    rw [← hW] at hb
    rcases List.mem_append.1 hb with hb | hb
    ·obtain ⟨c,hc,rfl⟩:=List.mem_map.1 hb
     rw [Ziq]
     exact ZhV (hN.c (Za3.1 hc).1) (by omega) (hfac c hc)
    ·rw [List.mem_singleton.1 hb,ZiD hVn]
     exact ⟨by simp,fun x hx=>by rw [(List.mem_replicate.1 hx).2];omega,by simp only;omega⟩
   have hnb:=Zk7 (n:=N - 1) hj
   have hs':-1≤-s∧-s≤1:=by omega
   have hs'':-1≤s∧s≤1:=by omega
   have hm:=Zkm (A:=1) (B:=1) (by omega) (by omega) (by omega) (by omega) hs' hbd hs'' hnb
   exact ⟨⟨by show -1048576≤-s∧-s≤1048576;omega,hsm,by show -1048576≤s∧s≤1048576;omega,hnb.small (by omega) (by omega),by show (ZaX V b).1.length=(List.replicate (N - 1) (0:Int)).length;rw [List.length_replicate];exact hrl⟩,hm.small (by omega) (by omega),hm.1⟩
  have hlowS:decide (((upP V p).length:Int) < ((ZbM V p).length:Int))=!Zgq V p:=by
   unfold Zgq
   by_cases h:(ZbM V p).length≤(upP V p).length
   ·rw [decide_eq_true h,decide_eq_false (by omega)];rfl
   ·rw [decide_eq_false h,decide_eq_true (by omega)];rfl
  rw [hlowS]
  cases hlow:Zgq V p with
  | false =>
    simp only [Bool.not_false,cond_true]
    refine loop (-1) false hlow rfl _ ?_ ?_ ?_
    ·intro i t R hi ht hm hcnd hR
     have hi':(i:Int) < (W.length:Int):=by omega
     simp only [decide_eq_true hi',Int.toNat_natCast,cond_true]
     obtain ⟨b,hq⟩:∃ b,W.getD i Za=b:=⟨_,rfl⟩
     simp only [hq] at hm hcnd ⊢
     have hbl:=(hWmed b hm).1.2.2
     have hcoef:b.2.2.1.getD V 0=Zf V b:=rfl
     simp only [hcoef]
     refine ⟨⟨by omega,hi'⟩,hi,fun h=>⟨h,trivial⟩,fun h=>⟨h,trivial⟩,fun h=>⟨h,h,by omega,by omega⟩,fun h=>⟨h,trivial⟩,fun h=>⟨h,h,trivial⟩,fun h=>by rw [h];rfl,?_⟩
     have:(b.1 == 2||Zf V b != -1)=true:=by
      revert hcnd
      by_cases h2:b.1=2<;>by_cases h3:Zf V b=-1<;>simp [h2,h3]
     rw [this,cond_true]
     exact ⟨⟨by omega,by omega⟩,hR⟩
    ·intro i t R hi ht hm hcnd hR
     have hi':(i:Int) < (W.length:Int):=by omega
     simp only [decide_eq_true hi',Int.toNat_natCast,cond_true]
     obtain ⟨b,hq⟩:∃ b,W.getD i Za=b:=⟨_,rfl⟩
     simp only [hq] at hm hcnd hR ⊢
     have hbl:=(hWmed b hm).1.2.2
     have hcoef:b.2.2.1.getD V 0=Zf V b:=rfl
     have hrest:(ZcR b.2.2.1 V,b.2.2.2)=ZaX V b:=rfl
     simp only [hcoef,hrest]
     refine ⟨⟨by omega,hi'⟩,hi,fun h=>⟨h,trivial⟩,fun h=>⟨h,trivial⟩,fun h=>⟨h,h,by omega,by omega⟩,fun h=>⟨h,trivial⟩,fun h=>⟨h,h,trivial⟩,fun h=>by rw [h];rfl,?_⟩
     have:(b.1 == 2||Zf V b != -1)=false:=by
      revert hcnd
      by_cases h2:b.1=2<;>by_cases h3:Zf V b=-1<;>simp [h2,h3]
     rw [this,cond_false]
     refine ⟨⟨by show b.2.2.1.length≤1048576;omega,by show (0:Int)≤V;omega,by show (V:Int) < (b.2.2.1.length:Int);omega⟩,?_⟩
     refine Lp.iter d (fun j z=>z=((j:Int),t++(List.range j).map (fun (j:Nat)=>Ze0 V p l (Zcf (-(-1)) (ZaX V b) (-1) (List.replicate (N - 1) 0,(j:Int))) true))) (by simp) ?_
     rintro j z hj rfl R2 hR2
     by_cases ej:j < d
     ·simp only [decide_eq_true (show (j:Int) < (d:Int) by omega),cond_true,List.length_nil,Nat.zero_add]
      have hR2':=hR2 ej _ rfl
      rw [Zfn,← List.append_assoc] at hR2'
      obtain ⟨hmp,hms,hml⟩:=hmixpre b (-1) j hm (.inr rfl) (by omega)
      refine ⟨⟨by omega,by omega⟩,⟨by omega,by omega⟩,hnum j (by omega),hmp,⟨by omega,by omega⟩,?_⟩
      obtain ⟨by_,hbye⟩:∃ w:Lin,Zcf (-(-1)) (ZaX V b) (-1) (List.replicate (N - 1) 0,(j:Int))=w:=⟨_,rfl⟩
      simp only [hbye] at hmp hms hml hR2' ⊢
      refine Lp.iter W.length (fun k z=>z=((k:Int),by_,free++(W.take k).map (ZrV V by_),by_)) (by simp) ?_
      rintro k z hk rfl R3 hR3
      by_cases ek:k < W.length
      ·have ek':(k:Int) < (W.length:Int):=by omega
       have hmk:=Zj (d:=Za) ek
       have hR3':=hR3 ek _ rfl
       rw [ZbP (d:=Za) ek,List.map_append,List.map_cons,List.map_nil,← List.append_assoc] at hR3'
       simp only [decide_eq_true ek',Int.toNat_natCast,cond_true]
       obtain ⟨hmed,hcf⟩:=hWmed _ hmk
       exact ⟨⟨by omega,ek'⟩,ek,⟨⟨N,hmed,by omega,by show by_.1.length+1=N;omega,by show (0:Int)≤V;omega,by show (V:Int) < N;omega⟩,hcf,by show (-1048576:Int)≤1∧(1:Int)≤1048576;omega,.inl rfl,hms⟩,⟨by simp only [List.length_singleton,List.length_append,List.length_map,List.length_take];omega,by simp only [List.length_singleton,List.length_append,List.length_map,List.length_take];omega⟩,⟨by omega,by omega⟩,hR3'⟩
      ·have:k=W.length:=by omega
       subst this
       simp only [Int.lt_irrefl,decide_false,cond_false,List.take_length]
       have hq2:=hputs by_ true hml
       simp only [Bool.true_or] at hq2
       rw [List.filter_eq_self.2 (fun _ _=>rfl)] at hq2
       rw [hq2]
       exact ⟨⟨by simp only [List.length_singleton,List.length_append,List.length_map,List.length_range];omega,by simp only [List.length_singleton,List.length_append,List.length_map,List.length_range];omega⟩,⟨by omega,by omega⟩,hR2'⟩
     ·have:j=d:=by omega
      subst this
      simp only [Int.lt_irrefl,decide_false,cond_false]
      exact ⟨⟨by omega,by omega⟩,hR⟩
    ·intro R
     simp only [Int.lt_irrefl,decide_false,cond_false]
     exact ⟨hpre _ rfl,trivial⟩
  | true =>
    simp only [Bool.not_true,cond_false]
    refine loop 1 true hlow rfl _ ?_ ?_ ?_
    ·intro i t R hi ht hm hcnd hR
     have hi':(i:Int) < (W.length:Int):=by omega
     simp only [decide_eq_true hi',Int.toNat_natCast,cond_true]
     obtain ⟨b,hq⟩:∃ b,W.getD i Za=b:=⟨_,rfl⟩
     simp only [hq] at hm hcnd ⊢
     have hbl:=(hWmed b hm).1.2.2
     have hcoef:b.2.2.1.getD V 0=Zf V b:=rfl
     simp only [hcoef]
     refine ⟨⟨by omega,hi'⟩,hi,fun h=>⟨h,trivial⟩,fun h=>⟨h,trivial⟩,fun h=>⟨h,h,by omega,by omega⟩,fun h=>⟨h,trivial⟩,fun h=>⟨h,h,trivial⟩,fun h=>by rw [h];rfl,?_⟩
     have:(b.1 == 2||Zf V b != 1)=true:=by
      revert hcnd
      by_cases h2:b.1=2<;>by_cases h3:Zf V b=1<;>simp [h2,h3]
     rw [this,cond_true]
     exact ⟨⟨by omega,by omega⟩,hR⟩
    ·intro i t R hi ht hm hcnd hR
     have hi':(i:Int) < (W.length:Int):=by omega
     simp only [decide_eq_true hi',Int.toNat_natCast,cond_true]
     obtain ⟨b,hq⟩:∃ b,W.getD i Za=b:=⟨_,rfl⟩
     simp only [hq] at hm hcnd hR ⊢
     have hbl:=(hWmed b hm).1.2.2
     have hcoef:b.2.2.1.getD V 0=Zf V b:=rfl
     have hrest:(ZcR b.2.2.1 V,b.2.2.2)=ZaX V b:=rfl
     simp only [hcoef,hrest]
     refine ⟨⟨by omega,hi'⟩,hi,fun h=>⟨h,trivial⟩,fun h=>⟨h,trivial⟩,fun h=>⟨h,h,by omega,by omega⟩,fun h=>⟨h,trivial⟩,fun h=>⟨h,h,trivial⟩,fun h=>by rw [h];rfl,?_⟩
     have:(b.1 == 2||Zf V b != 1)=false:=by
      revert hcnd
      by_cases h2:b.1=2<;>by_cases h3:Zf V b=1<;>simp [h2,h3]
     rw [this,cond_false]
     refine ⟨⟨by show b.2.2.1.length≤1048576;omega,by show (0:Int)≤V;omega,by show (V:Int) < (b.2.2.1.length:Int);omega⟩,?_⟩
     refine Lp.iter d (fun j z=>z=((j:Int),t++(List.range j).map (fun (j:Nat)=>Ze0 V p l (Zcf (-1) (ZaX V b) 1 (List.replicate (N - 1) 0,(j:Int))) true))) (by simp) ?_
     rintro j z hj rfl R2 hR2
     by_cases ej:j < d
     ·simp only [decide_eq_true (show (j:Int) < (d:Int) by omega),cond_true,List.length_nil,Nat.zero_add]
      have hR2':=hR2 ej _ rfl
      rw [Zfn,← List.append_assoc] at hR2'
      obtain ⟨hmp,hms,hml⟩:=hmixpre b 1 j hm (.inl rfl) (by omega)
      refine ⟨⟨by omega,by omega⟩,⟨by omega,by omega⟩,hnum j (by omega),hmp,⟨by omega,by omega⟩,?_⟩
      obtain ⟨by_,hbye⟩:∃ w:Lin,Zcf (-1) (ZaX V b) 1 (List.replicate (N - 1) 0,(j:Int))=w:=⟨_,rfl⟩
      simp only [hbye] at hmp hms hml hR2' ⊢
      refine Lp.iter W.length (fun k z=>z=((k:Int),by_,free++(W.take k).map (ZrV V by_),by_)) (by simp) ?_
      rintro k z hk rfl R3 hR3
      by_cases ek:k < W.length
      ·have ek':(k:Int) < (W.length:Int):=by omega
       have hmk:=Zj (d:=Za) ek
       have hR3':=hR3 ek _ rfl
       rw [ZbP (d:=Za) ek,List.map_append,List.map_cons,List.map_nil,← List.append_assoc] at hR3'
       simp only [decide_eq_true ek',Int.toNat_natCast,cond_true]
       obtain ⟨hmed,hcf⟩:=hWmed _ hmk
       exact ⟨⟨by omega,ek'⟩,ek,⟨⟨N,hmed,by omega,by show by_.1.length+1=N;omega,by show (0:Int)≤V;omega,by show (V:Int) < N;omega⟩,hcf,by show (-1048576:Int)≤1∧(1:Int)≤1048576;omega,.inl rfl,hms⟩,⟨by simp only [List.length_singleton,List.length_append,List.length_map,List.length_take];omega,by simp only [List.length_singleton,List.length_append,List.length_map,List.length_take];omega⟩,⟨by omega,by omega⟩,hR3'⟩
      ·have:k=W.length:=by omega
       subst this
       simp only [Int.lt_irrefl,decide_false,cond_false,List.take_length]
       have hq2:=hputs by_ true hml
       simp only [Bool.true_or] at hq2
       rw [List.filter_eq_self.2 (fun _ _=>rfl)] at hq2
       rw [hq2]
       exact ⟨⟨by simp only [List.length_singleton,List.length_append,List.length_map,List.length_range];omega,by simp only [List.length_singleton,List.length_append,List.length_map,List.length_range];omega⟩,⟨by omega,by omega⟩,hR2'⟩
     ·have:j=d:=by omega
      subst this
      simp only [Int.lt_irrefl,decide_false,cond_false]
      exact ⟨⟨by omega,by omega⟩,hR⟩
    ·intro R
     simp only [Int.lt_irrefl,decide_false,cond_false]
     exact ⟨hpre _ rfl,trivial⟩
def eqJ (v:Nat) (p:List Zc) (i:Nat):Int:=(List.range i).foldl (Zd2 v p) (-1)
theorem Zks (v:Nat) (p:List Zc) (i:Nat):eqJ v p (i+1)=Zd2 v p (eqJ v p i) i:=by
 unfold eqJ
 rw [List.range_succ,List.foldl_append];rfl
theorem ZlQ (v:Nat) (p:List Zc):∀ i,i≤p.length→eqJ v p i=-1∧(∀ j,j < i→Zf v (p.getD j Za)≠0→(p.getD j Za).1≠1)∨(0≤eqJ v p i∧eqJ v p i < (i:Int)∧Zf v (p.getD (eqJ v p i).toNat Za)≠0∧(p.getD (eqJ v p i).toNat Za).1=1)
 | 0,_=>.inl ⟨rfl,fun j hj=>absurd hj (by omega)⟩
 | i+1,hi=>by
   rw [Zks]
   have ih:=ZlQ v p i (by omega)
   unfold Zd2
   split
   ·rename_i h
    exact .inr ⟨by omega,by omega,by simpa using h.1,by simpa using h.2.1⟩
   ·rename_i h
    rcases ih with ⟨h1,h2⟩ | ⟨h1,h2,h3⟩
    ·refine .inl ⟨h1,fun j hj hc=>?_⟩
     by_cases e:j=i
     ·subst e
      exact fun hk=>h ⟨hc,hk,.inl (by omega)⟩
     ·exact h2 j (by omega) hc
    ·exact .inr ⟨h1,by omega,h3⟩
theorem Zjr (v:Nat) (q:List Zc) (c:Zc):ZbH v (q++[c])=ZbH v q++if Zf v c=0 then [Zdd v c] else []:=by
 unfold ZbH
 rw [List.filter_append,List.map_append]
 congr 1
 by_cases h:Zf v c=0<;>simp [h]
theorem ZlM (v:Nat) (q:List Zc) (c:Zc):Zf9 v (q++[c])=Zf9 v q++if Zf v c≠0∧c.1=2 then [c] else []:=by
 unfold Zf9
 rw [List.filter_append]
 congr 1
 by_cases h:Zf v c≠0∧c.1=2
 ·rw [if_pos h,List.filter_cons_of_pos (by simpa using h)];rfl
 ·rw [if_neg h,List.filter_cons_of_neg (by simpa using h)];rfl
theorem ZjB (v:Nat) (q:List Zc) (c:Zc):ZbM v (q++[c])=ZbM v q++if Zf v c≠0∧c.1≠1∧c.1≠2∧0 < Zf v c then [c] else []:=by
 unfold ZbM
 rw [List.filter_append]
 congr 1
 by_cases h:Zf v c≠0∧c.1≠1∧c.1≠2∧0 < Zf v c
 ·rw [if_pos h,List.filter_cons_of_pos (by simpa using h)];rfl
 ·rw [if_neg h,List.filter_cons_of_neg (by simpa using h)];rfl
theorem ZlT (v:Nat) (q:List Zc) (c:Zc):upP v (q++[c])=upP v q++if Zf v c≠0∧c.1≠1∧c.1≠2∧¬ 0 < Zf v c then [c] else []:=by
 unfold upP
 rw [List.filter_append]
 congr 1
 by_cases h:Zf v c≠0∧c.1≠1∧c.1≠2∧¬ 0 < Zf v c
 ·rw [if_pos h,List.filter_cons_of_pos (by simpa using h)];rfl
 ·rw [if_neg h,List.filter_cons_of_neg (by simpa using h)];rfl
theorem ZcP {f:Zc→Bool} {p:List Zc} (i:Nat):((p.take i).filter f).length≤i:=Nat.le_trans (List.length_filter_le _ _) (by rw [List.length_take];omega)
theorem Zki {q:List Zc} {n:Nat} (h:Zjl n q):ZF.pre ([q],()) :=
 ⟨by show ([q]:List (List Zc)).length≤_;simp,fun r hr=>by
  have hr':r∈[q]:=hr
  rw [List.mem_singleton.1 hr']
  exact ⟨h.D.1,n,h.D.2⟩⟩
theorem ZS.spec (p:List Zc) (n v:Int) (hp:ZS.pre (p,n,v,())):ZS.wp p n v (fun r=>r=ZS.fn (p,n,v,())):=by
 obtain ⟨hN,hv0,hv1⟩:=hp
 simp only at hN hv0 hv1
 obtain ⟨V,rfl⟩:∃ V:Nat,v=(V:Int):=⟨v.toNat,by omega⟩
 obtain ⟨N,rfl⟩:∃ N:Nat,n=(N:Int):=⟨n.toNat,by omega⟩
 have h400:=hN.1
 have hn12:=hN.2.2.2
 have hfn:ZS.fn (p,(N:Int),(V:Int),())=Z4 p N V:=rfl
 have hwo:∀ l:Lin,Zk.fn (l,(V:Int),())=(ZcR l.1 V,l.2):=fun _=>rfl
 have hmx:∀ a l b m,ZB.fn (a,l,b,m,())=Zcf a l b m:=fun _ _ _ _=>rfl
 have hma:∀ l,ZF.fn (l,())=Zd7 l:=fun _=>rfl
 have hso:∀ p (i:Int),ZV.fn (p,i,(V:Int),())=Zcs V p i.toNat:=fun _ _=>rfl
 have hre:∀ p free,Zs.fn (p,free,(V:Int),())=ZvO p free V:=fun _ _=>rfl
 simp only [ZS.wp,hfn,Zp.fn,hwo,hmx,hma,hso,hre,Int.toNat_natCast]
 have hszc:∀ c∈p,Zp.pre (Zf V c,()):=fun c hc=>by
  have:=Zcq (hN.c hc).1 V
  exact ⟨by show -2305843009213693952≤Zf V c;omega,by show Zf V c≤2305843009213693952;omega⟩
 refine Lp.iter p.length (fun i z=>z=((i:Int),eqJ V p i,ZbH V (p.take i),Zf9 V (p.take i),ZbM V (p.take i),upP V (p.take i))) (by simp [eqJ,ZbH,Zf9,ZbM,upP]) ?_
 rintro i z hle rfl R hR
 by_cases e:i < p.length
 ·have e':(i:Int) < (p.length:Int):=by omega
  have hm:=Zj (d:=Za) e
  have hR':=hR e _ rfl
  rw [ZbP (d:=Za) e,Zjr,ZlM,ZjB,ZlT,Zks] at hR'
  simp only [decide_eq_true e',Int.toNat_natCast,cond_true]
  have hpick:Zd2 V p (eqJ V p i) i=if Zf V (p.getD i Za)≠0∧(p.getD i Za).1=1∧(eqJ V p i < 0∨Zbe (Zf V (p.getD i Za)) < Zbe (Zf V (p.getD (eqJ V p i).toNat Za))) then (i:Int) else eqJ V p i:=rfl
  rw [hpick] at hR'
  obtain ⟨c,hq⟩:∃ c,p.getD i Za=c:=⟨_,rfl⟩
  simp only [hq] at hm hR' ⊢
  have hcn:=hN.c hm
  have hlen:(V:Int) < (c.2.2.1.length:Int):=by have:=hcn.2;omega
  have hcoef:c.2.2.1.getD V 0=Zf V c:=rfl
  simp only [hcoef]
  have hfi:Zu IntKind.i64 ((i:Int)+1):=⟨by omega,by omega⟩
  have l1:=ZcP (f:=fun c=>decide (Zf V c=0)) (p:=p) i
  have l2:(Zf9 V (p.take i)).length≤i:=ZcP i
  have l3:(ZbM V (p.take i)).length≤i:=ZcP i
  have l4:(upP V (p.take i)).length≤i:=ZcP i
  have l1':(ZbH V (p.take i)).length≤i:=by unfold ZbH;rw [List.length_map];exact l1
  refine ⟨⟨by omega,e'⟩,⟨by omega,hlen⟩,?_⟩
  by_cases h0:Zf V c=0
  ·rw [show (Zf V c == 0)=true by simpa using h0,cond_true]
   rw [if_neg (fun h=>h.1 h0),if_pos h0,if_neg (fun h=>h.1 h0),if_neg (fun h=>h.1 h0),if_neg (fun h=>h.1 h0),List.append_nil,List.append_nil,List.append_nil] at hR'
   exact ⟨⟨by show c.2.2.1.length≤1048576;omega,by show (0:Int)≤V;omega,by show (V:Int) < (c.2.2.1.length:Int);omega⟩,⟨by simp only [List.length_singleton];omega,by simp only [List.length_singleton];omega⟩,hfi,hR'⟩
  ·rw [show (Zf V c == 0)=false by simpa using h0,cond_false]
   rw [if_neg (show ¬ Zf V c=0 from h0),List.append_nil] at hR'
   by_cases h1:c.1=1
   ·rw [show (c.1 == 1)=true by simpa using h1,cond_true]
    rw [if_neg (show ¬ (Zf V c≠0∧c.1=2) from fun h=>by omega),if_neg (show ¬ (Zf V c≠0∧c.1≠1∧c.1≠2∧0 < Zf V c) from fun h=>h.2.1 h1),if_neg (show ¬ (Zf V c≠0∧c.1≠1∧c.1≠2∧¬ 0 < Zf V c) from fun h=>h.2.1 h1),List.append_nil,List.append_nil,List.append_nil] at hR'
    have hJ:=ZlQ V p i (by omega)
    obtain ⟨E,hE⟩:∃ E,eqJ V p i=E:=⟨_,rfl⟩
    simp only [hE] at hJ hR' ⊢
    by_cases hE0:E < 0
    ·simp only [decide_eq_true hE0,Bool.not_true,Bool.true_or,cond_true]
     rw [if_pos ⟨h0,h1,.inl hE0⟩] at hR'
     simp only [Bool.false_eq_true,false_implies,true_and,Bool.true_eq_false]
     exact ⟨hfi,hR'⟩
    ·have hEp:0≤E∧E < (i:Int):=by rcases hJ with h | h<;>omega
     have hmE:=Zj (d:=Za) (show E.toNat < p.length by omega)
     obtain ⟨ce,hce⟩:∃ ce,p.getD E.toNat Za=ce:=⟨_,rfl⟩
     simp only [hce] at hmE hR' ⊢
     have hce2:=(hN.c hmE).2
     have hcoefe:ce.2.2.1.getD V 0=Zf V ce:=rfl
     simp only [hcoefe,decide_eq_false hE0,Bool.not_false,Bool.false_or]
     refine ⟨fun h=>⟨h,hszc c hm⟩,fun h=>⟨h,h,by omega,by omega⟩,fun h=>⟨h,trivial⟩,fun h=>⟨h,trivial⟩,fun h=>⟨h,trivial⟩,fun h=>⟨h,h,by omega,by omega⟩,fun h=>⟨h,trivial⟩,fun h=>⟨h,hszc ce hmE⟩,fun h=>⟨h,h,trivial⟩,fun _=>trivial,?_⟩
     by_cases hlt:Zbe (Zf V c) < Zbe (Zf V ce)
     ·rw [decide_eq_true hlt,cond_true]
      rw [if_pos ⟨h0,h1,.inr hlt⟩] at hR'
      exact ⟨hfi,hR'⟩
     ·rw [decide_eq_false hlt,cond_false]
      rw [if_neg (fun h=>h.2.2.elim hE0 hlt)] at hR'
      exact ⟨hfi,hR'⟩
   ·rw [show (c.1 == 1)=false by simpa using h1,cond_false]
    rw [if_neg (fun h=>h1 h.2.1)] at hR'
    by_cases h2:c.1=2
    ·rw [show (c.1 == 2)=true by simpa using h2,cond_true]
     rw [if_pos ⟨h0,h2⟩,if_neg (fun h=>h.2.2.1 h2),if_neg (fun h=>h.2.2.1 h2),List.append_nil,List.append_nil] at hR'
     exact ⟨⟨by simp only [List.length_singleton];omega,by simp only [List.length_singleton];omega⟩,hfi,hR'⟩
    ·rw [show (c.1 == 2)=false by simpa using h2,cond_false]
     rw [if_neg (show ¬ (Zf V c≠0∧c.1=2) from fun h=>h2 h.2),List.append_nil] at hR'
     by_cases hpos:0 < Zf V c
     ·rw [decide_eq_true hpos,cond_true]
      rw [if_pos ⟨h0,h1,h2,hpos⟩,if_neg (fun h=>h.2.2.2 hpos),List.append_nil] at hR'
      exact ⟨⟨by simp only [List.length_singleton];omega,by simp only [List.length_singleton];omega⟩,hfi,hR'⟩
     ·rw [decide_eq_false hpos,cond_false]
      rw [if_neg (fun h=>hpos h.2.2.2),if_pos ⟨h0,h1,h2,hpos⟩,List.append_nil] at hR'
      exact ⟨⟨by simp only [List.length_singleton];omega,by simp only [List.length_singleton];omega⟩,hfi,hR'⟩
 have:i=p.length:=by omega
 subst this
 simp only [Int.lt_irrefl,decide_false,cond_false,List.take_length]
 have hJ:=ZlQ V p p.length (Nat.le_refl _)
 have hJe:eqJ V p p.length=eqI V p:=rfl
 rw [hJe] at hJ ⊢
 have hsh:Z4 p N V=match ZcJ p N V with
  | none=>([],3)
  | some l=>Zd7 l:=rfl
 have hN':pieceN p (N:Int):=hN
 by_cases hE:0≤eqI V p
 ·rw [decide_eq_true hE,cond_true]
  rcases hJ with h | ⟨h1,h2,h3,h4⟩
  ·omega
  ·have hS:ZcJ p N V=some [Zcs V p (eqI V p).toNat]:=by unfold ZcJ;rw [if_pos hE]
   rw [hsh,hS]
   exact ⟨⟨⟨(N:Int),hN,by show (0:Int)≤V;omega,hv1⟩,h1,h2,h3⟩,Zki (ZeF hN (v:=V) (by omega) (by omega) h3),rfl⟩
 ·rw [decide_eq_false hE,cond_false]
  have hno1:∀ c∈Zw V p,c.1≠1:=fun c hc=>by
   have hcp:=Za3.1 hc
   obtain ⟨j,hj,hjc⟩:=ZbO (d:=Za) hcp.1
   rcases hJ with ⟨_,h⟩ | h
   ·have:=h j hj
    rw [hjc] at this
    exact this hcp.2
   ·omega
  refine ⟨fun h=>⟨h,trivial⟩,fun h=>⟨h,trivial⟩,fun h=>⟨h,trivial⟩,fun h=>⟨h,trivial⟩,fun h=>⟨h,trivial⟩,fun h=>⟨h,fun h2=>by rw [h,h2];rfl⟩,fun h=>h,?_⟩
  have hnil:∀ l:List Zc,(((l.length:Nat):Int) == 0)=l.isEmpty:=fun l=>by cases l<;>simp;omega
  simp only [hnil]
  have hlowlen:(ZbM V p).length≤400:=Nat.le_trans (List.length_filter_le _ _) h400
  have huplen:(upP V p).length≤400:=Nat.le_trans (List.length_filter_le _ _) h400
  by_cases hA:Zf9 V p=[]∧(ZbM V p=[]∨upP V p=[])
  ·have hc:((Zf9 V p).isEmpty&&((ZbM V p).isEmpty||(upP V p).isEmpty))=true:=by
    rcases hA with ⟨h1,h2 | h2⟩<;>simp [h1,h2]
   rw [hc,cond_true]
   have hS:ZcJ p N V=some [ZbH V p]:=by unfold ZcJ;rw [if_neg hE,if_pos hA]
   rw [hsh,hS]
   exact ⟨Zki (n:=N - 1) ⟨by have:=Zcm (v:=V) (p:=p);omega,ZeG hN (v:=V) (by omega)⟩,rfl⟩
  ·have hc:((Zf9 V p).isEmpty&&((ZbM V p).isEmpty||(upP V p).isEmpty))=false:=by
    cases hh:((Zf9 V p).isEmpty&&((ZbM V p).isEmpty||(upP V p).isEmpty)) with
    | false=>rfl
    | true =>
      simp only [Bool.and_eq_true,Bool.or_eq_true,List.isEmpty_iff] at hh
      exact absurd hh hA
   rw [hc,cond_false]
   refine Lp.iter (ZbM V p).length (fun i z=>z=((i:Int),(Zf9 V p).isEmpty&&((ZbM V p).take i).all fun x=>(upP V p).all fun y=>decide (Zf V x=1∨Zf V y=-1))) (by simp) ?_
   rintro i z hi rfl R1 hR1
   by_cases e:i < (ZbM V p).length
   ·have e':(i:Int) < ((ZbM V p).length:Int):=by omega
    have hm:=Zj (d:=Za) e
    have hR1':=hR1 e _ rfl
    rw [ZbP (d:=Za) e,List.all_append] at hR1'
    simp only [decide_eq_true e',Int.toNat_natCast,cond_true]
    obtain ⟨x,hx⟩:∃ x,(ZbM V p).getD i Za=x:=⟨_,rfl⟩
    simp only [hx] at hm hR1' ⊢
    have hxn:=hN.c (List.mem_filter.1 hm).1
    have hxl:(V:Int) < (x.2.2.1.length:Int):=by have:=hxn.2;omega
    refine ⟨⟨by omega,e'⟩,e,?_⟩
    have hcoefx:x.2.2.1.getD V 0=Zf V x:=rfl
    simp only [hcoefx]
    obtain ⟨b0,hb0⟩:∃ b0,((Zf9 V p).isEmpty&&((ZbM V p).take i).all fun x=>(upP V p).all fun y=>decide (Zf V x=1∨Zf V y=-1))=b0:=⟨_,rfl⟩
    rw [← Bool.and_assoc,hb0] at hR1'
    simp only [hb0]
    refine Lp.iter (upP V p).length (fun j z=>z=((j:Int),b0&&((upP V p).take j).all fun y=>decide (Zf V x=1∨Zf V y=-1))) (by simp) ?_
    rintro j z hj rfl R2 hR2
    by_cases ej:j < (upP V p).length
    ·have ej':(j:Int) < ((upP V p).length:Int):=by omega
     have hmy:=Zj (d:=Za) ej
     have hR2':=hR2 ej _ rfl
     rw [ZbP (d:=Za) ej,List.all_append] at hR2'
     simp only [decide_eq_true ej',Int.toNat_natCast,cond_true]
     obtain ⟨y,hy⟩:∃ y,(upP V p).getD j Za=y:=⟨_,rfl⟩
     simp only [hy] at hmy hR2' ⊢
     have hyn:=hN.c (List.mem_filter.1 hmy).1
     have hyl:(V:Int) < (y.2.2.1.length:Int):=by have:=hyn.2;omega
     have hcoefy:y.2.2.1.getD V 0=Zf V y:=rfl
     simp only [hcoefy]
     obtain ⟨b1,hb1⟩:∃ b1,(b0&&((upP V p).take j).all fun y=>decide (Zf V x=1∨Zf V y=-1))=b1:=⟨_,rfl⟩
     rw [← Bool.and_assoc,hb1] at hR2'
     simp only [hb1]
     refine ⟨⟨by omega,ej'⟩,ej,fun h=>⟨h,trivial⟩,fun h=>⟨h,trivial⟩,fun h=>⟨h,h,by omega,hxl⟩,fun h=>⟨h,trivial⟩,fun h=>⟨h,trivial⟩,fun h=>⟨h,trivial⟩,fun h=>⟨h,trivial⟩,fun h=>⟨h,trivial⟩,fun h=>⟨h,h,by omega,hyl⟩,fun h=>⟨h,trivial⟩,fun h=>⟨h,trivial⟩,fun h=>⟨h,fun h2=>by rw [h,h2];rfl⟩,fun h=>h,⟨by omega,by omega⟩,?_⟩
     have hbb:(Zf V x == 1||Zf V y == -(1:Int))=([y].all fun y=>decide (Zf V x=1∨Zf V y=-1)):=by
      rw [List.all_cons,List.all_nil,Bool.and_true]
      by_cases k1:Zf V x=1<;>by_cases k2:Zf V y=-1<;>simp [k1,k2]
     rw [hbb]
     exact hR2'
    ·have:j=(upP V p).length:=by omega
     subst this
     simp only [Int.lt_irrefl,decide_false,cond_false,List.take_length]
     refine ⟨⟨by omega,by omega⟩,?_⟩
     rw [List.all_cons,List.all_nil,Bool.and_true] at hR1'
     exact hR1'
   ·have:i=(ZbM V p).length:=by omega
    subst this
    simp only [Int.lt_irrefl,decide_false,cond_false,List.take_length]
    have hex:((Zf9 V p).isEmpty&&(ZbM V p).all fun x=>(upP V p).all fun y=>decide (Zf V x=1∨Zf V y=-1))=ZgW V p:=rfl
    rw [hex]
    cases hX:ZgW V p with
    | true =>
      rw [cond_true]
      have hS:ZcJ p N V=some [Zjj V p]:=by unfold ZcJ;rw [if_neg hE,if_neg hA,if_pos hX]
      rw [hsh,hS]
      refine Lp.flat (ZbM V p) Za (ZbH V p) (fun x=>(upP V p).map (Zmz V x)) (by omega) (fun i R hi hi' hf hR=>?_) (fun R=>?_)
      ·have hm:=Zj (d:=Za) hi
       simp only [decide_eq_true hi',Int.toNat_natCast,cond_true]
       obtain ⟨x,hx⟩:∃ x,(ZbM V p).getD i Za=x:=⟨_,rfl⟩
       simp only [hx] at hm hR ⊢
       have hxn:=hN.c (List.mem_filter.1 hm).1
       have hxl:(V:Int) < (x.2.2.1.length:Int):=by have:=hxn.2;omega
       have hcoefx:x.2.2.1.getD V 0=Zf V x:=rfl
       have hrx:(ZcR x.2.2.1 V,x.2.2.2)=ZaX V x:=rfl
       simp only [hcoefx,hrx]
       refine ⟨⟨by omega,hi'⟩,hi,?_⟩
       have hol:(ZbH V p++((ZbM V p).take i).flatMap fun x=>(upP V p).map (Zmz V x)).length≤160400:=by
        have h1:=Zcu (g:=fun x=>(upP V p).map (Zmz V x)) (k:=400) (l:=(ZbM V p).take i) fun x _=>by rw [List.length_map];exact huplen
        have h2:((ZbM V p).take i).length≤400:=by rw [List.length_take];omega
        have h3:=Nat.mul_le_mul h2 (Nat.le_refl 400)
        have h4:=Zcm (v:=V) (p:=p)
        rw [List.length_append];omega
       obtain ⟨o,ho⟩:∃ o,ZbH V p++((ZbM V p).take i).flatMap (fun x=>(upP V p).map (Zmz V x))=o:=⟨_,rfl⟩
       simp only [ho] at hol hR ⊢
       refine Lp.flt (upP V p) Za o (fun _=>true) (fun jy=>Zmz V x jy.2) (by omega) (fun j t R2 hj hj' hfj htl h1 h2=>?_) (fun R2 hlen=>?_)
       ·have hmy:=Zj (d:=Za) hj
        simp only [decide_eq_true hj',Int.toNat_natCast,cond_true]
        obtain ⟨y,hy⟩:∃ y,(upP V p).getD j Za=y:=⟨_,rfl⟩
        simp only [hy] at hmy h1 ⊢
        have hyn:=hN.c (List.mem_filter.1 hmy).1
        have hyl:(V:Int) < (y.2.2.1.length:Int):=by have:=hyn.2;omega
        have hcoefy:y.2.2.1.getD V 0=Zf V y:=rfl
        have hry:(ZcR y.2.2.1 V,y.2.2.2)=ZaX V y:=rfl
        simp only [hcoefy,hry]
        have hbx:=Zcq hxn.1 V
        have hby:=Zcq hyn.1 V
        have hxr:=Zch hxn (v:=V) (by omega)
        have hyr:=Zch hyn (v:=V) (by omega)
        refine ⟨⟨by omega,hj'⟩,hj,⟨by omega,hxl⟩,⟨by show y.2.2.1.length≤1048576;omega,by show (0:Int)≤V;omega,hyl⟩,⟨by omega,hyl⟩,⟨by omega,by omega⟩,⟨by show x.2.2.1.length≤1048576;omega,by show (0:Int)≤V;omega,hxl⟩,⟨hbx,hyr.small (by omega) (by omega),by show -1048576≤-Zf V y∧-Zf V y≤1048576;omega,hxr.small (by omega) (by omega),by show (ZaX V y).1.length=(ZaX V x).1.length;rw [hxr.1,hyr.1]⟩,⟨by simp only [List.length_singleton];omega,by simp only [List.length_singleton];omega⟩,hfj,h1 trivial⟩
       ·simp only [Int.lt_irrefl,decide_false,cond_false]
        refine ⟨hf,?_⟩
        have e:=ZdJ Za (upP V p) (fun _=>true) (Zmz V x)
        rw [e,List.filter_eq_self.2 (fun _ _=>rfl)]
        exact hR
      ·simp only [Int.lt_irrefl,decide_false,cond_false]
       exact ⟨Zki (ZgR hN (v:=V) (by omega)),rfl⟩
    | false =>
      rw [cond_false]
      have hpn:Zw V p≠[]:=fun h=>by
       have hdiv:Zf9 V p=[]:=by
        apply List.eq_nil_iff_forall_not_mem.2
        intro c hc
        have hc':=List.mem_filter.1 hc
        have:c∈Zw V p:=Za3.2 ⟨hc'.1,(by simpa using hc'.2:Zf V c≠0∧c.1=2).1⟩
        rw [h] at this;cases this
       have hlow:ZbM V p=[]:=by
        apply List.eq_nil_iff_forall_not_mem.2
        intro c hc
        have hc':=List.mem_filter.1 hc
        have hcc:Zf V c≠0∧c.1≠1∧c.1≠2∧0 < Zf V c:=of_decide_eq_true hc'.2
        have:c∈Zw V p:=Za3.2 ⟨hc'.1,hcc.1⟩
        rw [h] at this;cases this
       exact hA ⟨hdiv,.inl hlow⟩
      refine ⟨⟨⟨(N:Int),hN,by show (0:Int)≤V;omega,hv1⟩,rfl,hpn,hno1⟩,?_⟩
      have hlen0:(p.getD 0 Za).2.2.1.length=N:=by
       have hp0:0 < p.length:=by
        rcases hp0:p with _ | ⟨c,q⟩
        ·rw [hp0] at hpn;exact absurd rfl hpn
        ·simp
       have:=(hN.c (Zj (d:=Za) hp0)).2
       omega
      have hres:ZvO p (ZbH V p) V=if (Zbs V p).2≠0 then ([],3) else if (ZeW V p (Zbs V p).1).2≠0 then ([],3)
       else Zd7 (ZbV V p ((p.getD 0 Za).2.2.1.length - 1) (Zbs V p).1 (ZeW V p (Zbs V p).1).1.toNat):=rfl
      have hS:ZcJ p N V=if (Zbs V p).2≠0 then none else if (ZeW V p (Zbs V p).1).2≠0 then none else some (ZbV V p (N - 1) (Zbs V p).1 (ZeW V p (Zbs V p).1).1.toNat):=by
       unfold ZcJ;rw [if_neg hE,if_neg hA,if_neg (by rw [hX];simp)]
      rw [hres,hsh,hS,hlen0]
      split
      ·rfl
      ·split
       ·rfl
       ·rfl
end Go.Proofs.YtgpdnmfpgkkgcaaGreatDoor
