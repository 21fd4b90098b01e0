/- Part of a proof that a law of the program holds for every input: what the functions answer, in plain Lean. No conditions. -/
import Derived.Test.YtgpdnmfpgkkgcaaGreatDoorP12
namespace Go.Proofs.YtgpdnmfpgkkgcaaGreatDoor
open Go
set_option linter.unusedVariables false
set_option maxRecDepth 4000
def ZN.wp (x0:Int) (x1:Lin) (x2:Int) (x3:Lin) (Q:Lin→Prop):Prop:=(((0:Int)≤((List.length x1.1:Nat):Int)∧(((List.length x1.1:Nat):Int)≤((List.length x1.1:Nat):Int)∧((((List.length x1.1:Nat):Int)*((8:Nat):Int))≤(140737488355328:Int)∧((List.length x1.1:Nat):Int)≤(9223372036854775807:Int))))∧(Zr IntKind.i64 (x0*x1.2)∧(Zr IntKind.i64 (x2*x3.2)∧(Zr IntKind.i64 ((x0*x1.2)+(x2*x3.2))∧Lp (σ:=Int×List Int) (fun y5 R5=>let v2:=List.getD x1.1 (Int.toNat y5.1) (0:Int);let v3:=List.getD x3.1 (Int.toNat y5.1) (0:Int);cond (decide (y5.1 < ((List.length x1.1:Nat):Int))) (((0:Int)≤y5.1∧y5.1 < ((List.length x1.1:Nat):Int))∧(Zr IntKind.i64 (x0*v2)∧(((0:Int)≤y5.1∧y5.1 < ((List.length x3.1:Nat):Int))∧(Zr IntKind.i64 (x2*v3)∧(Zr IntKind.i64 ((x0*v2)+(x2*v3))∧(((0:Int)≤y5.1∧y5.1 < ((List.length y5.2:Nat):Int))∧(Int.toNat y5.1 < List.length y5.2∧(Zr IntKind.i64 (y5.1+(1:Int))∧R5 ((y5.1+(1:Int)),(List.set y5.2 (Int.toNat y5.1) ((x0*v2)+(x2*v3)))))))))))) (Q (y5.2,((x0*x1.2)+(x2*x3.2))))) ((0:Int),(List.replicate (Int.toNat ((List.length x1.1:Nat):Int)) (0:Int)))))))
def Zah.wp (x0:Lin) (x1:Int) (Q:Lin→Prop):Prop:=((List.length x0.1*8)≤140737488355328∧(Zr IntKind.i64 (x0.2+x1)∧Q (x0.1,(x0.2+x1))))
def Zae.wp (x0:List Zc) (x1:Int) (Q:Int→Prop):Prop:=let v0:=List.replicate (Int.toNat x1) (0:Int);(((0:Int)≤x1∧(x1≤x1∧((x1*((8:Nat):Int))≤(140737488355328:Int)∧x1≤(9223372036854775807:Int))))∧(((0:Int)≤x1∧(x1≤x1∧((x1*((8:Nat):Int))≤(140737488355328:Int)∧x1≤(9223372036854775807:Int))))∧Lp (σ:=Int×Int×Int×(List Int)×List Int) (fun y3 R3=>let v1:=List.getD x0 (Int.toNat y3.1) Za;cond (decide (y3.1 < ((List.length x0:Nat):Int))) (((0:Int)≤y3.1∧y3.1 < ((List.length x0:Nat):Int))∧Lp (σ:=Int×Int×Int×(List Int)×List Int) (fun y5 R5=>let v2:=List.getD v1.2.2.1 (Int.toNat y5.1) (0:Int);let v3:=List.getD y5.2.2.2.1 (Int.toNat y5.1) (0:Int);let v5:=List.getD y5.2.2.2.2 (Int.toNat y5.1) (0:Int);cond (decide (y5.1 < ((List.length v1.2.2.1:Nat):Int))) (((0:Int)≤y5.1∧y5.1 < ((List.length v1.2.2.1:Nat):Int))∧cond (v2 == (0:Int)) (Zr IntKind.i64 (y5.1+(1:Int))∧R5 ((y5.1+(1:Int)),y5.2)) (cond (v1.1 == (1:Int)) (((!(v2 == (1:Int)))=true→((!(v2 == (1:Int)))=true∧True))∧(((v2 == (1:Int))=false→(!(v2 == (1:Int)))=true)∧cond ((v2 == (1:Int))||(v2 == (-(1:Int)))) (Zr IntKind.i64 (y5.1+(1:Int))∧R5 ((y5.1+(1:Int)),(Max.max y5.2.1 y5.1,(Max.max y5.2.2.1 y5.1,y5.2.2.2)))) (Zr IntKind.i64 (y5.1+(1:Int))∧R5 ((y5.1+(1:Int)),(y5.2.1,(Max.max y5.2.2.1 y5.1,y5.2.2.2)))))) (((v1.1 == (0:Int))=true→((v1.1 == (0:Int))=true∧True))∧(((v1.1 == (0:Int))=true→(v1.1 == (0:Int))=true)∧cond ((v1.1 == (0:Int))&&decide ((0:Int) < v2)) (((0:Int)≤y5.1∧y5.1 < ((List.length y5.2.2.2.1:Nat):Int))∧(Int.toNat y5.1 < List.length y5.2.2.2.1∧(Zr IntKind.i64 (v3+(1:Int))∧(((0:Int)≤y5.1∧y5.1 < ((List.length y5.2.2.2.1:Nat):Int))∧(Int.toNat y5.1 < List.length y5.2.2.2.1∧(Zr IntKind.i64 (y5.1+(1:Int))∧R5 ((y5.1+(1:Int)),(y5.2.1,(y5.2.2.1,((List.set y5.2.2.2.1 (Int.toNat y5.1) (v3+(1:Int))),y5.2.2.2.2)))))))))) (cond (v1.1 == (0:Int)) (((0:Int)≤y5.1∧y5.1 < ((List.length y5.2.2.2.2:Nat):Int))∧(Int.toNat y5.1 < List.length y5.2.2.2.2∧(Zr IntKind.i64 (v5+(1:Int))∧(((0:Int)≤y5.1∧y5.1 < ((List.length y5.2.2.2.2:Nat):Int))∧(Int.toNat y5.1 < List.length y5.2.2.2.2∧(Zr IntKind.i64 (y5.1+(1:Int))∧R5 ((y5.1+(1:Int)),(y5.2.1,(y5.2.2.1,(y5.2.2.2.1,(List.set y5.2.2.2.2 (Int.toNat y5.1) (v5+(1:Int))))))))))))) (Zr IntKind.i64 (y5.1+(1:Int))∧R5 ((y5.1+(1:Int)),y5.2))))))) (Zr IntKind.i64 (y3.1+(1:Int))∧R3 ((y3.1+(1:Int)),y5.2))) ((0:Int),y3.2)) (cond (decide ((0:Int)≤y3.2.1)) (Q y3.2.1) (cond (decide ((0:Int)≤y3.2.2.1)) (Q y3.2.2.1) (Lp (σ:=Int×Int) (fun y5 R5=>let v7:=List.getD y3.2.2.2.1 (Int.toNat y5.1) (0:Int);let v8:=List.getD y3.2.2.2.2 (Int.toNat y5.1) (0:Int);let v9:=List.getD y3.2.2.2.1 (Int.toNat y5.2) (0:Int);let v10:=List.getD y3.2.2.2.2 (Int.toNat y5.2) (0:Int);cond (decide (y5.1 < x1)) (((0:Int)≤y5.1∧y5.1 < ((List.length y3.2.2.2.1:Nat):Int))∧(Int.toNat y5.1 < List.length y3.2.2.2.1∧(((0:Int)≤y5.1∧y5.1 < ((List.length y3.2.2.2.2:Nat):Int))∧(Int.toNat y5.1 < List.length y3.2.2.2.2∧(Zr IntKind.i64 (v7*v8)∧(((0:Int)≤y5.2∧y5.2 < ((List.length y3.2.2.2.1:Nat):Int))∧(Int.toNat y5.2 < List.length y3.2.2.2.1∧(((0:Int)≤y5.2∧y5.2 < ((List.length y3.2.2.2.2:Nat):Int))∧(Int.toNat y5.2 < List.length y3.2.2.2.2∧(Zr IntKind.i64 (v9*v10)∧cond (decide ((v7*v8)≤(v9*v10))) (Zr IntKind.i64 (y5.1+(1:Int))∧R5 ((y5.1+(1:Int)),y5.1)) (Zr IntKind.i64 (y5.1+(1:Int))∧R5 ((y5.1+(1:Int)),y5.2)))))))))))) (Q y5.2)) ((0:Int),(0:Int)))))) ((0:Int),((-(1:Int)),((-(1:Int)),(v0,v0))))))
def Zu.wp (x0:Int×(List Zc)×(List (Zc×Int×Lin))×Int×(List (Zc×Int×Lin))×(List (Zc×Int×Lin))×(List (Zc×Int×Lin))) (Q:(List (List Zc))→Prop):Prop:=let v0:=List.getD x0.2.2.1 (Int.toNat x0.2.2.2.1) (Za,((0:Int),(([]:List Int),(0:Int))));let v5:=List.length ([]:List (Zc));(((0:Int)≤x0.2.2.2.1∧x0.2.2.2.1 < ((List.length x0.2.2.1:Nat):Int))∧ZqF (σ:=Int×Int×Bool×Int) (fun y2=>let v4:=[((2:Int),(y2.1,v0.2.2))];∀ b3:Bool,((b3=true→x0.2.1=([]:List (Zc)))→cond b3 (Lp (σ:=Int×List (Zc)) (fun y4 R4=>let v1:=List.getD x0.2.2.1 (Int.toNat y4.1) (Za,((0:Int),(([]:List Int),(0:Int))));let v3:=[(v1.1.1,((y2.1*v1.1.2.1),(ZN.fn (y2.1,(v1.2.2,(((-y2.2.1)*v1.2.1),(v0.2.2,())))))))];cond (decide (y4.1 < ((List.length x0.2.2.1:Nat):Int))) (((0:Int)≤y4.1∧y4.1 < ((List.length x0.2.2.1:Nat):Int))∧cond (y4.1 != x0.2.2.2.1) (Zr IntKind.i64 (y2.1*v1.1.2.1)∧(Zr IntKind.i64 (-y2.2.1)∧(Zr IntKind.i64 ((-y2.2.1)*v1.2.1)∧(ZN.pre (y2.1,(v1.2.2,(((-y2.2.1)*v1.2.1),(v0.2.2,()))))∧((((List.length y4.2+List.length v3)*48)≤140737488355328∧(List.length y4.2+List.length v3)≤9223372036854775807)∧(Zr IntKind.i64 (y4.1+(1:Int))∧R4 ((y4.1+(1:Int)),(y4.2++v3)))))))) (Zr IntKind.i64 (y4.1+(1:Int))∧R4 ((y4.1+(1:Int)),y4.2))) (cond (decide ((1:Int) < y2.1)) ((((List.length y4.2+List.length v4)*48)≤140737488355328∧(List.length y4.2+List.length v4)≤9223372036854775807)∧Q ([(y4.2++v4)])) (Q [y4.2]))) ((0:Int),([]:List (Zc)))) ((((v5+List.length x0.2.1)*48)≤140737488355328∧(v5+List.length x0.2.1)≤9223372036854775807)∧Lp (σ:=Int×List (Zc)) (fun y4 R4=>let v1:=List.getD x0.2.2.1 (Int.toNat y4.1) (Za,((0:Int),(([]:List Int),(0:Int))));let v3:=[(v1.1.1,((y2.1*v1.1.2.1),(ZN.fn (y2.1,(v1.2.2,(((-y2.2.1)*v1.2.1),(v0.2.2,())))))))];cond (decide (y4.1 < ((List.length x0.2.2.1:Nat):Int))) (((0:Int)≤y4.1∧y4.1 < ((List.length x0.2.2.1:Nat):Int))∧cond (y4.1 != x0.2.2.2.1) (Zr IntKind.i64 (y2.1*v1.1.2.1)∧(Zr IntKind.i64 (-y2.2.1)∧(Zr IntKind.i64 ((-y2.2.1)*v1.2.1)∧(ZN.pre (y2.1,(v1.2.2,(((-y2.2.1)*v1.2.1),(v0.2.2,()))))∧((((List.length y4.2+List.length v3)*48)≤140737488355328∧(List.length y4.2+List.length v3)≤9223372036854775807)∧(Zr IntKind.i64 (y4.1+(1:Int))∧R4 ((y4.1+(1:Int)),(y4.2++v3)))))))) (Zr IntKind.i64 (y4.1+(1:Int))∧R4 ((y4.1+(1:Int)),y4.2))) (cond (decide ((1:Int) < y2.1)) ((((List.length y4.2+List.length v4)*48)≤140737488355328∧(List.length y4.2+List.length v4)≤9223372036854775807)∧Q ([(y4.2++v4)])) (Q [y4.2]))) ((0:Int),(([]:List (Zc))++x0.2.1))))) (fun J2=>cond (decide (v0.2.1 < (0:Int))) (Zr IntKind.i64 (-v0.2.1)∧J2 ((-v0.2.1),((-(1:Int)),(decide (v0.2.1 < (0:Int)),v0.2.1)))) (J2 (v0.2.1,((1:Int),(decide (v0.2.1 < (0:Int)),v0.2.1))))))
def Zs.wp (x0:Int×(List Zc)×(List (Zc×Int×Lin))×Int×(List (Zc×Int×Lin))×(List (Zc×Int×Lin))×(List (Zc×Int×Lin))) (Q:(List (List Zc))→Prop):Prop:=let v0:=List.length x0.2.2.2.2.1;let v1:=List.length x0.2.2.2.2.2.1;let v6:=List.length ([]:List (Zc));∀ b2:Bool,((b2=true→x0.2.1=([]:List (Zc)))→cond b2 (Lp (σ:=Int×List (Zc)) (fun y3 R3=>let v3:=List.getD x0.2.2.2.2.1 (Int.toNat y3.1) (Za,((0:Int),(([]:List Int),(0:Int))));cond (decide (y3.1 < ((v0:Nat):Int))) (((0:Int)≤y3.1∧y3.1 < ((v0:Nat):Int))∧Lp (σ:=Int×List (Zc)) (fun y5 R5=>let v2:=List.getD x0.2.2.2.2.2.1 (Int.toNat y5.1) (Za,((0:Int),(([]:List Int),(0:Int))));let v5:=[((0:Int),((0:Int),(ZN.fn (v3.2.1,(v2.2.2,((-v2.2.1),(v3.2.2,())))))))];cond (decide (y5.1 < ((v1:Nat):Int))) (((0:Int)≤y5.1∧y5.1 < ((v1:Nat):Int))∧(Zr IntKind.i64 (-v2.2.1)∧(ZN.pre (v3.2.1,(v2.2.2,((-v2.2.1),(v3.2.2,()))))∧((((List.length y5.2+List.length v5)*48)≤140737488355328∧(List.length y5.2+List.length v5)≤9223372036854775807)∧(Zr IntKind.i64 (y5.1+(1:Int))∧R5 ((y5.1+(1:Int)),(y5.2++v5))))))) (Zr IntKind.i64 (y3.1+(1:Int))∧R3 ((y3.1+(1:Int)),y5.2))) ((0:Int),y3.2)) (Q [y3.2])) ((0:Int),([]:List (Zc)))) ((((v6+List.length x0.2.1)*48)≤140737488355328∧(v6+List.length x0.2.1)≤9223372036854775807)∧Lp (σ:=Int×List (Zc)) (fun y3 R3=>let v3:=List.getD x0.2.2.2.2.1 (Int.toNat y3.1) (Za,((0:Int),(([]:List Int),(0:Int))));cond (decide (y3.1 < ((v0:Nat):Int))) (((0:Int)≤y3.1∧y3.1 < ((v0:Nat):Int))∧Lp (σ:=Int×List (Zc)) (fun y5 R5=>let v2:=List.getD x0.2.2.2.2.2.1 (Int.toNat y5.1) (Za,((0:Int),(([]:List Int),(0:Int))));let v5:=[((0:Int),((0:Int),(ZN.fn (v3.2.1,(v2.2.2,((-v2.2.1),(v3.2.2,())))))))];cond (decide (y5.1 < ((v1:Nat):Int))) (((0:Int)≤y5.1∧y5.1 < ((v1:Nat):Int))∧(Zr IntKind.i64 (-v2.2.1)∧(ZN.pre (v3.2.1,(v2.2.2,((-v2.2.1),(v3.2.2,()))))∧((((List.length y5.2+List.length v5)*48)≤140737488355328∧(List.length y5.2+List.length v5)≤9223372036854775807)∧(Zr IntKind.i64 (y5.1+(1:Int))∧R5 ((y5.1+(1:Int)),(y5.2++v5))))))) (Zr IntKind.i64 (y3.1+(1:Int))∧R3 ((y3.1+(1:Int)),y5.2))) ((0:Int),y3.2)) (Q [y3.2])) ((0:Int),(([]:List (Zc))++x0.2.1))))
def Zl.wp (x0:Int×(List Zc)×(List (Zc×Int×Lin))×Int×(List (Zc×Int×Lin))×(List (Zc×Int×Lin))×(List (Zc×Int×Lin))) (x1:Int) (x2:Lin) (x3:Bool) (Q:(List Zc)→Prop):Prop:=let v3:=List.length ([((2:Int),(x1,x2))]);let v4:=List.length ([]:List (Zc));∀ b5:Bool,((b5=true→x0.2.1=([]:List (Zc)))→cond b5 (Lp (σ:=Int×List (Zc)) (fun y6 R6=>let v0:=List.getD x0.2.2.1 (Int.toNat y6.1) (Za,((0:Int),(([]:List Int),(0:Int))));let v2:=[(v0.1.1,(v0.1.2.1,(ZN.fn ((1:Int),(v0.2.2,(Int.tdiv v0.2.1 x1,(x2,())))))))];cond (decide (y6.1 < ((List.length x0.2.2.1:Nat):Int))) (((0:Int)≤y6.1∧y6.1 < ((List.length x0.2.2.1:Nat):Int))∧(((!x3)=true→((!x3)=true∧True))∧(((!x3)=true→((!x3)=true∧True))∧(((!x3)=true→((!x3)=true∧True))∧((x3=false→(!x3)=true)∧cond (x3||(v0.1.1 == (2:Int))) ((x1≠(0:Int)∧Zr IntKind.i64 (Int.tdiv v0.2.1 x1))∧(ZN.pre ((1:Int),(v0.2.2,(Int.tdiv v0.2.1 x1,(x2,()))))∧((((List.length y6.2+List.length v2)*48)≤140737488355328∧(List.length y6.2+List.length v2)≤9223372036854775807)∧(Zr IntKind.i64 (y6.1+(1:Int))∧R6 ((y6.1+(1:Int)),(y6.2++v2)))))) (Zr IntKind.i64 (y6.1+(1:Int))∧R6 ((y6.1+(1:Int)),y6.2))))))) ((((List.length y6.2+v3)*48)≤140737488355328∧(List.length y6.2+v3)≤9223372036854775807)∧Q (y6.2++[((2:Int),(x1,x2))]))) ((0:Int),([]:List (Zc)))) ((((v4+List.length x0.2.1)*48)≤140737488355328∧(v4+List.length x0.2.1)≤9223372036854775807)∧Lp (σ:=Int×List (Zc)) (fun y6 R6=>let v0:=List.getD x0.2.2.1 (Int.toNat y6.1) (Za,((0:Int),(([]:List Int),(0:Int))));let v2:=[(v0.1.1,(v0.1.2.1,(ZN.fn ((1:Int),(v0.2.2,(Int.tdiv v0.2.1 x1,(x2,())))))))];cond (decide (y6.1 < ((List.length x0.2.2.1:Nat):Int))) (((0:Int)≤y6.1∧y6.1 < ((List.length x0.2.2.1:Nat):Int))∧(((!x3)=true→((!x3)=true∧True))∧(((!x3)=true→((!x3)=true∧True))∧(((!x3)=true→((!x3)=true∧True))∧((x3=false→(!x3)=true)∧cond (x3||(v0.1.1 == (2:Int))) ((x1≠(0:Int)∧Zr IntKind.i64 (Int.tdiv v0.2.1 x1))∧(ZN.pre ((1:Int),(v0.2.2,(Int.tdiv v0.2.1 x1,(x2,()))))∧((((List.length y6.2+List.length v2)*48)≤140737488355328∧(List.length y6.2+List.length v2)≤9223372036854775807)∧(Zr IntKind.i64 (y6.1+(1:Int))∧R6 ((y6.1+(1:Int)),(y6.2++v2)))))) (Zr IntKind.i64 (y6.1+(1:Int))∧R6 ((y6.1+(1:Int)),y6.2))))))) ((((List.length y6.2+v3)*48)≤140737488355328∧(List.length y6.2+v3)≤9223372036854775807)∧Q (y6.2++[((2:Int),(x1,x2))]))) ((0:Int),(([]:List (Zc))++x0.2.1))))
def Zap.wp (x0:Int) (x1:Int) (Q:Int→Prop):Prop:=let v0:=IntKind.wrap IntKind.u64 x1;let v1:=Z8.fn (x0,(v0,()));(((!(decide ((512:Int) < x0)))=true→((!(decide ((512:Int) < x0)))=true∧True))∧(((!(decide ((512:Int) < x0)))=true→((!(decide ((512:Int) < x0)))=true∧True))∧((decide ((512:Int) < x0)=false→(!(decide ((512:Int) < x0)))=true)∧cond (decide ((512:Int) < x0)||decide ((512:Int) < v0)) (Q (513:Int)) (v1≠(0:Int)∧Q (IntKind.wrap IntKind.u64 ((IntKind.wrap IntKind.u64 (Int.tdiv x0 v1))*v0))))))
def ZS.wp (x0:List Int) (Q:Int×Int→Prop):Prop:=let v1:=ZA.fn (x0,((1:Int),((fun (a4:Int×Int)=>Zap.pre (a4.1,(a4.2,())),fun (a4:Int×Int)=>Zap.fn (a4.1,(a4.2,()))),())));Lp (σ:=Int) (fun y2 R2=>cond (decide (y2 < ((List.length x0:Nat):Int))) (((0:Int)≤y2∧y2 < ((List.length x0:Nat):Int))∧cond (decide ((List.getD x0 (Int.toNat y2) (0:Int)) < (1:Int))) (Q ((0:Int),(1:Int))) (Zr IntKind.i64 (y2+(1:Int))∧R2 (y2+(1:Int)))) (ZA.pre (x0,((1:Int),((fun (a4:Int×Int)=>Zap.pre (a4.1,(a4.2,())),fun (a4:Int×Int)=>Zap.fn (a4.1,(a4.2,()))),())))∧cond (decide ((512:Int) < v1)) (Q ((0:Int),(3:Int))) (Zr IntKind.i64 v1∧Q (v1,(0:Int))))) (0:Int)
def Zaq.wp (x0:List Int) (Q:Int×Int→Prop):Prop:=Lp (σ:=Int) (fun y2 R2=>cond (decide (y2 < ((List.length x0:Nat):Int))) (((0:Int)≤y2∧y2 < ((List.length x0:Nat):Int))∧cond (decide ((List.getD x0 (Int.toNat y2) (0:Int)) < (1:Int))) (Q ((0:Int),(1:Int))) (Zr IntKind.i64 (y2+(1:Int))∧R2 (y2+(1:Int)))) (Lp (σ:=Int) (fun y4 R4=>cond (decide (y4≤(512:Int))) (Lp (σ:=Int×Bool) (fun y6 R6=>let v1:=List.getD x0 (Int.toNat y6.1) (0:Int);cond (decide (y6.1 < ((List.length x0:Nat):Int))) (((0:Int)≤y6.1∧y6.1 < ((List.length x0:Nat):Int))∧((y6.2=true→(y6.2=true∧(y6.2=true∧v1≠(0:Int))))∧((y6.2=true→(y6.2=true∧True))∧((y6.2=true→y6.2=true)∧(Zr IntKind.i64 (y6.1+(1:Int))∧R6 ((y6.1+(1:Int)),(y6.2&&(Int.tmod y4 v1 == (0:Int))))))))) (cond y6.2 (Q (y4,(0:Int))) (Zr IntKind.i64 (y4+(1:Int))∧R4 (y4+(1:Int))))) ((0:Int),true)) (Q ((0:Int),(3:Int)))) (1:Int))) (0:Int)
def Zm.wp (x0:Int) (Q:Int→Prop):Prop:=(Zr IntKind.i64 (-x0)∧Q (Max.max x0 (-x0)))
def ZM.wp (x0:Int) (x1:Int) (Q:Lin→Prop):Prop:=(((0:Int)≤x0∧(x0≤x0∧((x0*((8:Nat):Int))≤(140737488355328:Int)∧x0≤(9223372036854775807:Int))))∧Q ((List.replicate (Int.toNat x0) (0:Int)),x1))
def Zaa.wp (x0:Zc) (x1:Int) (x2:Int) (x3:Int) (x4:Lin) (Q:Zc→Prop):Prop:=let v0:=List.getD x0.2.2.1 (Int.toNat x1) (0:Int);let v1:=Zk.fn (x0.2.2,(x1,()));(Zk.pre (x0.2.2,(x1,()))∧(Zr IntKind.i64 (x0.2.1*x2)∧(((0:Int)≤x1∧x1 < ((List.length x0.2.2.1:Nat):Int))∧(Zr IntKind.i64 (v0*x3)∧(ZE.pre (x2,(v1,((v0*x3),(x4,()))))∧Q (x0.1,((x0.2.1*x2),(ZE.fn (x2,(v1,((v0*x3),(x4,()))))))))))))
theorem ZN.spec (a:Int) (l:Lin) (b:Int) (m:Lin) (hp:ZN.pre (a,l,b,m,())):ZN.wp a l b m (fun r=>r=ZN.fn (a,l,b,m,())):=ZE.spec a l b m hp
theorem Zah.spec (l:Lin) (k:Int) (hp:Zah.pre (l,k,())):Zah.wp l k (fun r=>r=Zah.fn (l,k,())):=by
 obtain ⟨⟨h1,h2,h3⟩,h4,h5⟩:=hp
 simp only at h1 h2 h3 h4 h5
 exact ⟨by omega,⟨by omega,by omega⟩,rfl⟩
theorem Zm.spec (n:Int) (hp:Zm.pre (n,())):Zm.wp n (fun r=>r=Zm.fn (n,())):=by
 obtain ⟨h1,h2⟩:=hp
 simp only at h1 h2
 exact ⟨⟨by omega,by omega⟩,rfl⟩
theorem ZM.spec (n k:Int) (hp:ZM.pre (n,k,())):ZM.wp n k (fun r=>r=ZM.fn (n,k,())):=by
 obtain ⟨h1,h2⟩:=hp
 simp only at h1 h2
 exact ⟨⟨h1,Int.le_refl _,by omega,by omega⟩,rfl⟩
theorem Zw5 (l:List Int):∀ m:Nat,l.foldl (fun m n=>Nat.lcm m n.natAbs) m=Nat.lcm m (ZfR l):=by
 induction l with
 | nil=>intro m;simp [ZfR]
 | cons n l ih =>
   intro m
   have h0:ZfR (n::l)=Nat.lcm n.natAbs (ZfR l):=by
    show (n::l).foldl _ 1=_
    rw [List.foldl_cons,ih,Nat.lcm_one_left]
   rw [List.foldl_cons,ih,h0,Nat.lcm_assoc]
theorem Zgr (n:Int) (l:List Int):ZfR (n::l)=Nat.lcm n.natAbs (ZfR l):=by
 show (n::l).foldl _ 1=_
 rw [List.foldl_cons,Zw5,Nat.lcm_one_left]
theorem Zlx {l:List Int} (h:∀ n∈l,1≤n):1≤ZfR l:=by
 induction l with
 | nil=>simp [ZfR]
 | cons n l ih =>
   rw [Zgr]
   have h1:=h n (by simp)
   exact Nat.lcm_pos (by omega) (ih fun m hm=>h m (List.mem_cons_of_mem _ hm))
theorem ZhJ {l:List Int} {n:Int} (h:n∈l):n ∣ (ZfR l:Int):=by
 induction l with
 | nil=>simp at h
 | cons m l ih =>
   rw [Zgr]
   rcases List.mem_cons.1 h with rfl | h
   ·exact Int.natAbs_dvd.1 (Int.natCast_dvd_natCast.2 (Nat.dvd_lcm_left _ _))
   ·exact Int.dvd_trans (ih h) (Int.natCast_dvd_natCast.2 (Nat.dvd_lcm_right _ _))
theorem ZsR {l:List Int} {m:Nat} (h:∀ n∈l,n ∣ (m:Int)):ZfR l ∣ m:=by
 induction l with
 | nil=>simp [ZfR]
 | cons n l ih =>
   rw [Zgr]
   exact Nat.lcm_dvd (Int.ofNat_dvd_right.1 (h n (by simp))) (ih fun m hm=>h m (List.mem_cons_of_mem _ hm))
theorem Zj8 (l:List Int):(ZiW l).2=1∨(ZiW l).2=3∨((ZiW l).2=0∧(∀ n∈l,1≤n)∧(ZiW l).1=(ZfR l:Int)∧ZfR l≤512):=by
 unfold ZiW
 split
 ·exact .inl rfl
 ·rename_i h
  split
  ·exact .inr (.inl rfl)
  ·refine .inr (.inr ⟨rfl,fun n hn=>?_,rfl,by omega⟩)
   simp only [List.any_eq_true,decide_eq_true_eq,not_exists,not_and,Int.not_lt] at h
   exact h n hn
theorem ZkP {n:Nat} (h:n≤9223372036854775807):IntKind.wrap .u64 (n:Int)=(n:Int):=by
 simp only [IntKind.wrap,IntKind.bits,IntKind.signed]
 simp;omega
theorem Zap.spec (g n:Int) (hp:Zap.pre (g,n,())):Zap.wp g n (fun r=>r=Zap.fn (g,n,())):=by
 obtain ⟨h1,h2⟩:=hp
 simp only at h1 h2
 have e:IntKind.wrap .u64 n=n:=by
  have:=ZkP (n:=n.toNat) (by omega)
  rwa [Int.toNat_of_nonneg (by omega)] at this
 simp only [Zap.wp,Zap.fn,e]
 by_cases hg:(512:Int) < g
 ·simp [hg]
 ·simp only [decide_eq_false hg,Bool.not_false,forall_const,true_and,Bool.false_or]
  by_cases hn:(512:Int) < n
  ·simp [hn]
  ·simp only [decide_eq_false hn,cond_false]
   refine ⟨?_,by simp⟩
   unfold Z8.fn
   simp only
   rw [if_neg (by omega)]
   split
   ·omega
   ·intro h0
    have:Nat.gcd g.toNat n.toNat=0:=by omega
    rw [Nat.gcd_eq_zero_iff] at this
    omega
def ZtI (g n:Int):Int:=Zap.fn (g,n,())
theorem ZrS {m : Nat} {g n : Int} (hm : 1 ≤ m) (hn : 1 ≤ n) (hn2 : n ≤ 9223372036854775807) (hg : (m ≤ 512 ∧ g = (m : Int)) ∨ (512 < m ∧ 512 < g ∧ g ≤ 262144)) :
 (Nat.lcm m n.natAbs≤512∧ZtI g n=(Nat.lcm m n.natAbs:Int))∨(512 < Nat.lcm m n.natAbs∧512 < ZtI g n∧ZtI g n≤262144):=by
 have e:IntKind.wrap .u64 n=n:=by
  have:=ZkP (n:=n.toNat) (by omega)
  rwa [Int.toNat_of_nonneg (by omega)] at this
 have hna:(n.natAbs:Int)=n:=by omega
 have hpos:1≤Nat.lcm m n.natAbs:=Nat.lcm_pos (by omega) (by omega)
 have hle1:m≤Nat.lcm m n.natAbs:=Nat.le_of_dvd hpos (Nat.dvd_lcm_left _ _)
 have hle2:n.natAbs≤Nat.lcm m n.natAbs:=Nat.le_of_dvd hpos (Nat.dvd_lcm_right _ _)
 unfold ZtI Zap.fn
 simp only [e]
 rcases hg with ⟨h1,rfl⟩ | ⟨h1,h2,h3⟩
 ·by_cases hb:(512:Int) < n
  ·rw [if_pos (by simp [hb])]
   exact .inr ⟨by omega,by omega,by omega⟩
  ·rw [if_neg (by simp;omega)]
   have hc:Z8.fn ((m:Int),n,())=(Nat.gcd m n.natAbs:Nat):=by
    unfold Z8.fn
    simp only
    rw [if_neg (by omega),if_neg (by omega)]
    congr 2
    omega
   have hgp:0 < Nat.gcd m n.natAbs:=Nat.gcd_pos_of_pos_left _ (by omega)
   have hdiv:Int.tdiv (m:Int) ((Nat.gcd m n.natAbs:Nat):Int)=((m / Nat.gcd m n.natAbs:Nat):Int):=by
    rw [Int.tdiv_eq_ediv_of_nonneg (by omega)];rfl
   have hlc:m / Nat.gcd m n.natAbs*n.natAbs=Nat.lcm m n.natAbs:=by
    rw [Nat.lcm,Nat.div_mul_right_comm (Nat.gcd_dvd_left _ _)]
   have hq:m / Nat.gcd m n.natAbs≤m:=Nat.div_le_self _ _
   have hl:Nat.lcm m n.natAbs≤262144:=by
    rw [← hlc]
    have:=Nat.mul_le_mul (show m / Nat.gcd m n.natAbs≤512 by omega) (show n.natAbs≤512 by omega)
    omega
   rw [hc,hdiv,ZkP (n:=m / Nat.gcd m n.natAbs) (by omega),← hna,show ((m / Nat.gcd m (n.natAbs:Int).natAbs:Nat):Int)*((n.natAbs:Nat):Int)=((m / Nat.gcd m n.natAbs*n.natAbs:Nat):Int) from by rw [Int.natAbs_natCast];push_cast;rfl,Int.natAbs_natCast,hlc,ZkP (n:=Nat.lcm m n.natAbs) (by omega)]
   by_cases hs:Nat.lcm m n.natAbs≤512
   ·exact .inl ⟨hs,rfl⟩
   ·exact .inr ⟨by omega,by omega,by omega⟩
 ·rw [if_pos (by simp;omega)]
  exact .inr ⟨by omega,by omega,by omega⟩
theorem Zqu {l : List Int} (h : ∀ n ∈ l, 1 ≤ n ∧ n ≤ 9223372036854775807) : ∀ {m : Nat} {g : Int}, 1 ≤ m → ((m ≤ 512 ∧ g = (m : Int)) ∨ (512 < m ∧ 512 < g ∧ g ≤ 262144)) →
 (Nat.lcm m (ZfR l)≤512∧l.foldl ZtI g=(Nat.lcm m (ZfR l):Int))∨(512 < Nat.lcm m (ZfR l)∧512 < l.foldl ZtI g∧l.foldl ZtI g≤262144):=by
 induction l with
 | nil=>intro m g hm hg;simpa [ZfR] using hg
 | cons n l ih =>
   intro m g hm hg
   have hn:=h n (by simp)
   rw [List.foldl_cons,Zgr,← Nat.lcm_assoc]
   exact ih (fun k hk=>h k (List.mem_cons_of_mem _ hk)) (Nat.lcm_pos (by omega) (by omega)) (ZrS hm hn.1 hn.2 hg)
theorem ZS.spec (l:List Int) (hl:l.length≤9223372036854775807) (hp:ZS.pre (l,())):ZS.wp l (fun r=>r=ZS.fn (l,())):=by
 have hb:ZcM l:=hp
 have hfn:ZS.fn (l,())=ZiW l:=rfl
 simp only [ZS.wp,hfn]
 have hany:(l.all fun n=>!decide (n < 1))=!(l.any fun n=>decide (n < 1)):=by simp [List.all_eq_not_any_not]
 refine Lp.all l 0 (fun n=>!decide (n < 1)) hl (fun i R hi hi' hf h1 h2=>?_) (fun R hall=>?_)
 ·simp only [decide_eq_true hi',Int.toNat_natCast,cond_true]
  refine ⟨⟨by omega,hi'⟩,?_⟩
  cases hd:decide (l.getD i 0 < 1) with
  | true =>
    simp only [cond_true]
    have:=h2 (by rw [hd];rfl)
    rw [hany] at this
    unfold ZiW
    rw [if_pos (by simpa using this)]
  | false=>exact ⟨hf,h1 (by rw [hd];rfl)⟩
 ·simp only [Int.lt_irrefl,decide_false,cond_false]
  rw [hany] at hall
  have hall':(l.any fun n=>decide (n < 1))=false:=by simpa using hall
  have hpos:∀ n∈l,1≤n:=fun n hn=>by
   rw [List.any_eq_false] at hall'
   have:=hall' n hn
   simp at this;omega
  have hfold:ZA.fn (l,((1:Int),((fun (a4:Int×Int)=>Zap.pre (a4.1,a4.2,()),fun (a4:Int×Int)=>Zap.fn (a4.1,(a4.2,()))),())))=l.foldl ZtI 1:=rfl
  refine ⟨fun g n hn=>⟨hpos n hn,(hb n hn).2⟩,?_⟩
  rw [hfold]
  have key:=Zqu (fun n hn=>⟨hpos n hn,(hb n hn).2⟩) (m:=1) (g:=1) (by omega) (.inl ⟨by omega,rfl⟩)
  rw [Nat.lcm_one_left] at key
  have hF:ZiW l=if 512 < ZfR l then ((0:Int),(3:Int)) else (((ZfR l:Nat):Int),0):=by
   unfold ZiW;rw [if_neg (by rw [hall'];simp)]
  rw [hF]
  rcases key with ⟨h1,h2⟩ | ⟨h1,h2,h3⟩
  ·rw [h2,decide_eq_false (by omega),if_neg (by omega)]
   exact ⟨⟨by omega,by omega⟩,rfl⟩
  ·rw [decide_eq_true h2,if_pos h1]
   rfl
theorem Zaq.spec (l:List Int) (hl:l.length≤9223372036854775807) (hp:Zaq.pre (l,())):Zaq.wp l (fun r=>r=Zaq.fn (l,())):=by
 have hfn:Zaq.fn (l,())=ZiW l:=rfl
 simp only [Zaq.wp,hfn]
 have hany:(l.all fun n=>!decide (n < 1))=!(l.any fun n=>decide (n < 1)):=by simp [List.all_eq_not_any_not]
 refine Lp.all l 0 (fun n=>!decide (n < 1)) hl (fun i R hi hi' hf h1 h2=>?_) (fun R hall=>?_)
 ·simp only [decide_eq_true hi',Int.toNat_natCast,cond_true]
  refine ⟨⟨by omega,hi'⟩,?_⟩
  cases hd:decide (l.getD i 0 < 1) with
  | true =>
    simp only [cond_true]
    have:=h2 (by rw [hd];rfl)
    rw [hany] at this
    unfold ZiW
    rw [if_pos (by simpa using this)]
  | false=>exact ⟨hf,h1 (by rw [hd];rfl)⟩
 ·simp only [Int.lt_irrefl,decide_false,cond_false]
  rw [hany] at hall
  have hall':(l.any fun n=>decide (n < 1))=false:=by simpa using hall
  have hpos:∀ n∈l,1≤n:=fun n hn=>by
   rw [List.any_eq_false] at hall'
   have:=hall' n hn
   simp at this;omega
  have hF:ZiW l=if 512 < ZfR l then ((0:Int),(3:Int)) else (((ZfR l:Nat):Int),0):=by
   unfold ZiW;rw [if_neg (by rw [hall'];simp)]
  rw [hF]
  have hLp:=Zlx hpos
  have hsm:∀ m:Nat,1≤m→m < ZfR l→(l.all fun n=>Int.tmod (m:Int) n == 0)=false:=fun m hm hlt=>by
   cases e:l.all fun n=>Int.tmod (m:Int) n == 0 with
   | false=>rfl
   | true =>
     rw [List.all_eq_true] at e
     have:=Nat.le_of_dvd hm (ZsR fun n hn=>Int.dvd_of_tmod_eq_zero (by simpa using e n hn))
     omega
  obtain ⟨N,hN⟩:∃ N:Nat,N=513:=⟨_,rfl⟩
  refine Lp.iter N (fun k (y:Int)=>y=(k:Int)+1∧k < ZfR l) ⟨rfl,by omega⟩ ?_
  intro k y hk hI R1 hR
  have hy:y=(k:Int)+1:=hI.1
  have hkl:k < ZfR l:=hI.2
  clear hI
  by_cases h512:k+1≤512
  ·simp only [hy,decide_eq_true (show ((k:Int)+1)≤512 by omega),cond_true]
   refine Lp.iter l.length (fun i (z:Int×Bool)=>z=((i:Int),(l.take i).all fun n=>Int.tmod ((k:Int)+1) n == 0)) (by simp) ?_
   rintro i z hi rfl R2 hR2
   by_cases hil:i < l.length
   ·have hi':(i:Int) < (l.length:Int):=by omega
    have hd:l.getD i 0≠0:=by have:=hpos _ (Zj (d:=0) hil);omega
    simp only [decide_eq_true hi',Int.toNat_natCast,cond_true]
    refine ⟨⟨by omega,hi'⟩,fun h=>⟨h,h,hd⟩,fun h=>⟨h,trivial⟩,fun h=>h,⟨by omega,by omega⟩,hR2 hil _ ?_⟩
    have ht:l.take (i+1)=l.take i++[l.getD i 0]:=by
     rw [List.take_add_one,List.getElem?_eq_getElem hil,ZX hil];rfl
    rw [ht,List.all_append]
    simp
   ·have:i=l.length:=by omega
    subst this
    simp only [Int.lt_irrefl,decide_false,cond_false,List.take_length]
    cases e:l.all fun n=>Int.tmod ((k:Int)+1) n == 0 with
    | true =>
      simp only [cond_true]
      have:¬ k+1 < ZfR l:=fun hlt=>by
       have:=hsm (k+1) (by omega) hlt
       rw [show ((k+1:Nat):Int)=(k:Int)+1 from rfl,e] at this;cases this
      rw [if_neg (by omega)]
      have:ZfR l=k+1:=by omega
      rw [this];rfl
    | false =>
      simp only [cond_false]
      refine ⟨⟨by omega,by omega⟩,hR (by omega) _ ⟨by push_cast;omega,?_⟩⟩
      apply Classical.byContradiction
      intro hge
      have hk1:ZfR l=k+1:=by omega
      rw [List.all_eq_false] at e
      obtain ⟨n,hn,hne⟩:=e
      have:=ZhJ hn
      rw [hk1] at this
      apply hne
      simp only [beq_iff_eq]
      exact Int.tmod_eq_zero_of_dvd this
  ·simp only [hy,decide_eq_false (show ¬ ((k:Int)+1)≤512 by omega),cond_false]
   rw [if_pos (by omega)]
def ZY.wp (x0:List Zc) (x1:Int) (Q:Int→Prop):Prop:=Lp (σ:=Int×Int×Int) (fun y3 R3=>let v0:=List.getD x0 (Int.toNat y3.1) Za;cond (decide (y3.1 < ((List.length x0:Nat):Int))) (((0:Int)≤y3.1∧y3.1 < ((List.length x0:Nat):Int))∧cond (v0.1 != (1:Int)) (Zr IntKind.i64 (y3.1+(1:Int))∧R3 ((y3.1+(1:Int)),y3.2)) (Lp (σ:=Int×Int×Int) (fun y5 R5=>let v1:=List.getD v0.2.2.1 (Int.toNat y5.1) (0:Int);cond (decide (y5.1 < ((List.length v0.2.2.1:Nat):Int))) (((0:Int)≤y5.1∧y5.1 < ((List.length v0.2.2.1:Nat):Int))∧cond (v1 != (0:Int)) (Zm.pre (v1,())∧cond (Zm.fn (v1,()) == (1:Int)) (Zr IntKind.i64 (y5.1+(1:Int))∧R5 ((y5.1+(1:Int)),(Max.max y5.2.1 y5.1,Max.max y5.2.2 y5.1))) (Zr IntKind.i64 (y5.1+(1:Int))∧R5 ((y5.1+(1:Int)),(y5.2.1,Max.max y5.2.2 y5.1)))) (Zm.pre (v1,())∧cond (Zm.fn (v1,()) == (1:Int)) (Zr IntKind.i64 (y5.1+(1:Int))∧R5 ((y5.1+(1:Int)),(Max.max y5.2.1 y5.1,y5.2.2))) (Zr IntKind.i64 (y5.1+(1:Int))∧R5 ((y5.1+(1:Int)),y5.2)))) (Zr IntKind.i64 (y3.1+(1:Int))∧R3 ((y3.1+(1:Int)),y5.2))) ((0:Int),y3.2))) (cond (decide ((0:Int)≤y3.2.1)) (Q y3.2.1) (cond (decide ((0:Int)≤y3.2.2)) (Q y3.2.2) (Lp (σ:=Int×Int×Int) (fun y5 R5=>cond (decide (y5.1 < x1)) (Lp (σ:=Int×Int×Int) (fun y7 R7=>let v2:=List.getD x0 (Int.toNat y7.1) Za;let v3:=List.getD v2.2.2.1 (Int.toNat y5.1) (0:Int);cond (decide (y7.1 < ((List.length x0:Nat):Int))) (((0:Int)≤y7.1∧y7.1 < ((List.length x0:Nat):Int))∧(((!(v2.1 != (0:Int)))=true→((!(v2.1 != (0:Int)))=true∧True))∧(((!(v2.1 != (0:Int)))=true→((!(v2.1 != (0:Int)))=true∧True))∧(((!(v2.1 != (0:Int)))=true→((!(v2.1 != (0:Int)))=true∧((!(v2.1 != (0:Int)))=true∧((0:Int)≤y5.1∧y5.1 < ((List.length v2.2.2.1:Nat):Int)))))∧(((!(v2.1 != (0:Int)))=true→((!(v2.1 != (0:Int)))=true∧True))∧(((!(v2.1 != (0:Int)))=true→((!(v2.1 != (0:Int)))=true∧True))∧(((v2.1 != (0:Int))=false→(!(v2.1 != (0:Int)))=true)∧cond ((v2.1 != (0:Int))||(v3 == (0:Int))) (Zr IntKind.i64 (y7.1+(1:Int))∧R7 ((y7.1+(1:Int)),y7.2)) (((0:Int)≤y5.1∧y5.1 < ((List.length v2.2.2.1:Nat):Int))∧cond (decide ((0:Int) < v3)) (Zr IntKind.i64 (y7.2.1+(1:Int))∧(Zr IntKind.i64 (y7.1+(1:Int))∧R7 ((y7.1+(1:Int)),((y7.2.1+(1:Int)),y7.2.2)))) (Zr IntKind.i64 (y7.2.2+(1:Int))∧(Zr IntKind.i64 (y7.1+(1:Int))∧R7 ((y7.1+(1:Int)),(y7.2.1,(y7.2.2+(1:Int)))))))))))))) (((!(decide (y5.2.1 < (0:Int))))=true→((!(decide (y5.2.1 < (0:Int))))=true∧((!(decide (y5.2.1 < (0:Int))))=true∧Zr IntKind.i64 (y7.2.1*y7.2.2))))∧(((!(decide (y5.2.1 < (0:Int))))=true→((!(decide (y5.2.1 < (0:Int))))=true∧((!(decide (y5.2.1 < (0:Int))))=true∧True)))∧((decide (y5.2.1 < (0:Int))=false→(!(decide (y5.2.1 < (0:Int))))=true)∧cond (decide (y5.2.1 < (0:Int))||decide ((y7.2.1*y7.2.2)≤y5.2.1)) (Zr IntKind.i64 (y7.2.1*y7.2.2)∧(Zr IntKind.i64 (y5.1+(1:Int))∧R5 ((y5.1+(1:Int)),((y7.2.1*y7.2.2),y5.1)))) (Zr IntKind.i64 (y5.1+(1:Int))∧R5 ((y5.1+(1:Int)),y5.2)))))) ((0:Int),((0:Int),(0:Int)))) (Q y5.2.2)) ((0:Int),((-(1:Int)),(0:Int))))))) ((0:Int),((-(1:Int)),(-(1:Int))))
theorem ZdE {n j:Nat} {f:Nat→Int} (h:j < n):((List.range n).map f).getD j 0=f j:=by
 rw [List.getD_eq_getElem?_getD,List.getElem?_map,List.getElem?_range h];rfl
theorem Zf4 {n j:Nat} {f g:Nat→Int} (h:∀ i,i≠j→f i=g i):((List.range n).map f).set j (g j)=(List.range n).map g:=by
 apply List.ext_getElem (by simp)
 intro i h1 h2
 simp only [List.getElem_set,List.getElem_map,List.getElem_range]
 split
 ·rename_i e;rw [e]
 ·rename_i e;exact h i (fun e'=>e e'.symm)
theorem Zdg {n:Nat} {f g:Nat→Int} (h:∀ i,i < n→f i=g i):(List.range n).map f=(List.range n).map g:=by
 apply List.map_congr_left
 intro i hi
 exact h i (List.mem_range.1 hi)
theorem ZeK {α:Type} (d:α) (l:List α):(Zbo d l).length=l.length:=by simp [Zbo]
theorem ZgE {α:Type} (d:α) (l:List α) {i:Nat} (h:i < l.length):(Zbo d l).take (i+1)=(Zbo d l).take i++[(i,l.getD i d)]:=by
 have h':i < (Zbo d l).length:=by rw [ZeK];exact h
 rw [List.take_add_one,List.getElem?_eq_getElem h']
 simp [Zbo]
theorem ZbC {α:Type} {l:List α} {d:α} {i:Nat} (h:i < l.length):l.take (i+1)=l.take i++[l.getD i d]:=by
 rw [List.take_add_one,List.getElem?_eq_getElem h,ZX h];rfl
def Zcx (st:Int×Int) (ia:Nat×Int):Int×Int:=if ia.2=0 then st else (if ia.2=1∨ia.2=-1 then max st.1 (ia.1:Int) else st.1,max st.2 (ia.1:Int))
theorem Zrh (l:List Int) (st:Int×Int):ZuN l st=(Zbo 0 l).foldl Zcx st:=rfl
def ZlE (st:Int×Int) (c:Zc):Int×Int:=if c.1=1 then ZuN c.2.2.1 st else st
theorem Zlw (p:List Zc):ZgU p=p.foldl ZlE (-1,-1):=rfl
theorem Zmf (p:List Zc) (c:Zc) (v:Nat):Zji (p++[c]) v=Zji p v+if c.1=0∧0 < Zf v c then 1 else 0:=by
 unfold Zji
 rw [List.filter_append,List.length_append]
 congr 1
 by_cases h:c.1=0∧0 < Zf v c
 ·simp [h]
 ·rw [if_neg h];simp [h]
theorem ZoU (p:List Zc) (c:Zc) (v:Nat):upN (p++[c]) v=upN p v+if c.1=0∧Zf v c < 0 then 1 else 0:=by
 unfold upN
 rw [List.filter_append,List.length_append]
 congr 1
 by_cases h:c.1=0∧Zf v c < 0
 ·simp [h]
 ·rw [if_neg h];simp [h]
theorem ZkI (p:List Zc) (v:Nat):Zji p v≤p.length:=List.length_filter_le _ _
theorem ZoN (p:List Zc) (v:Nat):upN p v≤p.length:=List.length_filter_le _ _
theorem ZmD (p:List Zc) (i v:Nat):Zji (p.take i) v≤p.length:=Nat.le_trans (ZkI _ _) (by rw [List.length_take];omega)
theorem ZoC (p:List Zc) (i v:Nat):upN (p.take i) v≤p.length:=Nat.le_trans (ZoN _ _) (by rw [List.length_take];omega)
def Zjr (p:List Zc) (b v:Nat):Nat:=if Zfv p v≤Zfv p b then v else b
theorem Ztt (p:List Zc) (n:Nat):ZdD p n=(List.range n).foldl (Zjr p) 0:=rfl
theorem ZeP (p:List Zc) (n:Nat):ZdD p (n+1)=Zjr p (ZdD p n) n:=by
 rw [Ztt,List.range_succ,List.foldl_append];rfl
theorem ZkR (p:List Zc):∀ n:Nat,0 < n→ZdD p n < n
 | 0,h=>absurd h (by omega)
 | 1,_=>by
   rw [ZeP]
   have:ZdD p 0=0:=rfl
   rw [this];unfold Zjr;split<;>omega
 | n+2,_=>by
   rw [ZeP]
   have:=ZkR p (n+1) (by omega)
   unfold Zjr;split<;>omega
theorem ZqG {a b:Nat} (ha:a≤400) (hb:b≤400):Zr .i64 ((a:Int)*(b:Int)):=by
 have h:=Nat.mul_le_mul ha hb
 have e:(a:Int)*(b:Int)=((a*b:Nat):Int):=by push_cast;rfl
 rw [e]
 exact ⟨by omega,by omega⟩
theorem Zt8 {N:Nat} {st:Int×Int} {ia:Nat×Int} (h:-1≤st.1∧st.1 < N∧-1≤st.2∧st.2 < N) (hi:ia.1 < N):-1≤(Zcx st ia).1∧(Zcx st ia).1 < N∧-1≤(Zcx st ia).2∧(Zcx st ia).2 < N:=by
 unfold Zcx
 split
 ·exact h
 ·refine ⟨?_,?_,?_,?_⟩<;>simp only []<;>(try split)<;>omega
theorem Zvm {N:Nat} {l:List Int} {st:Int×Int} (h:-1≤st.1∧st.1 < N∧-1≤st.2∧st.2 < N) (hl:l.length≤N):-1≤(ZuN l st).1∧(ZuN l st).1 < N∧-1≤(ZuN l st).2∧(ZuN l st).2 < N:=by
 rw [Zrh]
 have key:∀ (m:List (Nat×Int)) (st:Int×Int),(∀ x∈m,x.1 < N)→(-1≤st.1∧st.1 < N∧-1≤st.2∧st.2 < N)→-1≤(m.foldl Zcx st).1∧(m.foldl Zcx st).1 < N∧-1≤(m.foldl Zcx st).2∧(m.foldl Zcx st).2 < N:=by
  intro m
  induction m with
  | nil=>exact fun st _ h=>h
  | cons x m ih=>exact fun st hm h=>ih _ (fun y hy=>hm y (List.mem_cons_of_mem _ hy)) (Zt8 h (hm x (by simp)))
 refine key _ st (fun x hx=>?_) h
 simp only [Zbo,List.mem_map,List.mem_range] at hx
 obtain ⟨i,hi,rfl⟩:=hx
 simp only;omega
theorem ZuS {p:List Zc} {N:Nat} (h:∀ c∈p,c.2.2.1.length≤N):-1≤(ZgU p).1∧(ZgU p).1 < N∧-1≤(ZgU p).2∧(ZgU p).2 < N:=by
 rw [Zlw]
 have key:∀ (m:List Zc) (st:Int×Int),(∀ c∈m,c.2.2.1.length≤N)→(-1≤st.1∧st.1 < N∧-1≤st.2∧st.2 < N)→-1≤(m.foldl ZlE st).1∧(m.foldl ZlE st).1 < N∧-1≤(m.foldl ZlE st).2∧(m.foldl ZlE st).2 < N:=by
  intro m
  induction m with
  | nil=>exact fun st _ h=>h
  | cons x m ih =>
    refine fun st hm h=>ih _ (fun y hy=>hm y (List.mem_cons_of_mem _ hy)) ?_
    unfold ZlE
    split
    ·exact Zvm h (hm x (by simp))
    ·exact h
 exact key p _ h ⟨by omega,by simp only;omega,by omega,by simp only;omega⟩
theorem Zms {p:List Zc} {n:Int} (h:pieceN p n) (h1:1≤n):0≤Zbe p n∧Zbe p n < n:=by
 obtain ⟨_,hc,h0,h12⟩:=h
 have hb:=ZuS (p:=p) (N:=n.toNat) fun c hc'=>by have:=(hc c hc').2;omega
 have hbest:=ZkR p n.toNat (by omega)
 unfold Zbe
 split
 ·omega
 ·split
  ·omega
  ·omega
theorem Zae.spec (p:List Zc) (n:Int) (hp:Zae.pre (p,n,())):Zae.wp p n (fun r=>r=Zae.fn (p,n,())):=by
 obtain ⟨h400,hc,h0,h12⟩:=hp
 simp only at h400 hc h0 h12
 have hfn:Zae.fn (p,n,())=Zbe p n:=rfl
 simp only [Zae.wp,hfn]
 obtain ⟨N,rfl⟩:∃ N:Nat,n=(N:Int):=⟨n.toNat,by omega⟩
 simp only [Int.toNat_natCast]
 refine ⟨⟨h0,Int.le_refl _,by omega,by omega⟩,⟨h0,Int.le_refl _,by omega,by omega⟩,?_⟩
 have hrep:List.replicate N (0:Int)=(List.range N).map fun v=>(Zji (p.take 0) v:Int):=by
  apply List.ext_getElem (by simp)
  intro i h1 h2
  simp [Zji]
 have hrep':List.replicate N (0:Int)=(List.range N).map fun v=>(upN (p.take 0) v:Int):=by
  apply List.ext_getElem (by simp)
  intro i h1 h2
  simp [upN]
 refine Lp.iter p.length (fun i z=>z=((i:Int),((p.take i).foldl ZlE (-1,-1)).1,((p.take i).foldl ZlE (-1,-1)).2,((List.range N).map fun v=>(Zji (p.take i) v:Int)),((List.range N).map fun v=>(upN (p.take i) v:Int)))) (by rw [← hrep,← hrep'];rfl) ?_
 rintro i z hle rfl R hR
 by_cases e:i < p.length
 ·have e':(i:Int) < (p.length:Int):=by omega
  simp only [decide_eq_true e',Int.toNat_natCast,cond_true]
  refine ⟨⟨by omega,e'⟩,?_⟩
  have hmem:=Zj (d:=Za) e
  obtain ⟨c,hcc⟩:∃ c,p.getD i Za=c:=⟨_,rfl⟩
  simp only [hcc] at hmem ⊢
  obtain ⟨hcv,hcl⟩:=hc c hmem
  have hcN:c.2.2.1.length=N:=by omega
  obtain ⟨st,hst⟩:∃ st,(p.take i).foldl ZlE (-1,-1)=st:=⟨_,rfl⟩
  simp only [hst]
  have hs1:(p.take (i+1)).foldl ZlE (-1,-1)=ZlE st c:=by rw [ZbC (d:=Za) e,List.foldl_append,hst,hcc];rfl
  have hlo:∀ v,Zji (p.take (i+1)) v=Zji (p.take i) v+if c.1=0∧0 < Zf v c then 1 else 0:=fun v=>by rw [ZbC (d:=Za) e,Zmf,hcc]
  have hup:∀ v,upN (p.take (i+1)) v=upN (p.take i) v+if c.1=0∧Zf v c < 0 then 1 else 0:=fun v=>by rw [ZbC (d:=Za) e,ZoU,hcc]
  refine Lp.iter c.2.2.1.length (fun j z=>z=((j:Int),(if c.1=1 then ((Zbo 0 c.2.2.1).take j).foldl Zcx st else st).1,(if c.1=1 then ((Zbo 0 c.2.2.1).take j).foldl Zcx st else st).2,
   ((List.range N).map fun v=>(Zji (p.take i) v:Int)+if v < j∧c.1=0∧0 < Zf v c then 1 else 0),((List.range N).map fun v=>(upN (p.take i) v:Int)+if v < j∧c.1=0∧Zf v c < 0 then 1 else 0))) (by simp) ?_
  rintro j z hj rfl R1 hR1
  by_cases ej:j < c.2.2.1.length
  ·have ej':(j:Int) < (c.2.2.1.length:Int):=by omega
   have hjN:j < N:=by omega
   have hcoef:c.2.2.1.getD j 0=Zf j c:=rfl
   have hst1:((Zbo 0 c.2.2.1).take (j+1)).foldl Zcx st=Zcx (((Zbo 0 c.2.2.1).take j).foldl Zcx st) (j,Zf j c):=by
    rw [ZgE 0 _ ej,List.foldl_append];rfl
   have hR1':=hR1 ej _ rfl
   simp only [hst1] at hR1'
   simp only [decide_eq_true ej',Int.toNat_natCast,cond_true,hcoef]
   refine ⟨⟨by omega,ej'⟩,?_⟩
   have hfj:Zr IntKind.i64 ((j:Int)+1):=⟨by omega,by omega⟩
   have hsame:∀ (f:Nat→Int) (g:Nat→Prop) [DecidablePred g],(∀ v,v=j→¬ g v)→((List.range N).map fun v=>f v+if v < j+1∧g v then 1 else 0)=((List.range N).map fun v=>f v+if v < j∧g v then (1:Int) else 0):=fun f g _ hg=>by
    apply Zdg
    intro v hv
    congr 1
    by_cases hvj:v=j
    ·have:=hg v hvj
     rw [if_neg (fun h=>this h.2),if_neg (fun h=>this h.2)]
    ·by_cases hg':g v
     ·by_cases hlt:v < j
      ·rw [if_pos ⟨by omega,hg'⟩,if_pos ⟨hlt,hg'⟩]
      ·rw [if_neg (by omega),if_neg (by omega)]
     ·rw [if_neg (fun h=>hg' h.2),if_neg (fun h=>hg' h.2)]
   by_cases ha:Zf j c=0
   ·rw [ha]
    refine ⟨hfj,?_⟩
    have hx:Zcx (((Zbo 0 c.2.2.1).take j).foldl Zcx st) (j,Zf j c)=((Zbo 0 c.2.2.1).take j).foldl Zcx st:=by unfold Zcx;rw [if_pos ha]
    rw [hx,hsame _ (fun v=>c.1=0∧0 < Zf v c) (fun v hv h=>by subst hv;omega),hsame _ (fun v=>c.1=0∧Zf v c < 0) (fun v hv h=>by subst hv;omega)] at hR1'
    exact hR1'
   ·have ha':(Zf j c == 0)=false:=by simpa using ha
    rw [ha',cond_false]
    by_cases h1:c.1=1
    ·have h1':(c.1 == 1)=true:=by simpa using h1
     rw [h1',cond_true]
     rw [hsame _ (fun v=>c.1=0∧0 < Zf v c) (fun v hv h=>by omega),hsame _ (fun v=>c.1=0∧Zf v c < 0) (fun v hv h=>by omega)] at hR1'
     simp only [if_pos h1] at hR1' ⊢
     unfold Zcx at hR1'
     rw [if_neg ha] at hR1'
     refine ⟨fun h=>⟨h,trivial⟩,fun h=>by rw [h];rfl,?_⟩
     by_cases hu:Zf j c=1∨Zf j c=-1
     ·rw [show ((Zf j c == 1)||(Zf j c == (-(1:Int))))=true by simpa using hu,cond_true]
      simp only [if_pos hu] at hR1'
      exact ⟨hfj,hR1'⟩
     ·rw [show ((Zf j c == 1)||(Zf j c == (-(1:Int))))=false by simpa using hu,cond_false]
      simp only [if_neg hu] at hR1'
      exact ⟨hfj,hR1'⟩
    ·have h1':(c.1 == 1)=false:=by simpa using h1
     rw [h1',cond_false]
     simp only [if_neg h1] at hR1' ⊢
     refine ⟨fun h=>⟨h,trivial⟩,fun h=>h,?_⟩
     simp only [List.length_map,List.length_range,ZdE hjN]
     have hlt0:(if j < j∧c.1=0∧0 < Zf j c then (1:Int) else 0)=0:=if_neg (by omega)
     have hlt1:(if j < j∧c.1=0∧Zf j c < 0 then (1:Int) else 0)=0:=if_neg (by omega)
     have hlb:=ZmD p i j
     have hub:=ZoC p i j
     by_cases h0':c.1=0
     ·have h0b:(c.1 == 0)=true:=by simpa using h0'
      by_cases hpos:0 < Zf j c
      ·rw [h0b,decide_eq_true hpos,Bool.and_self,cond_true]
       refine ⟨⟨by omega,by omega⟩,hjN,⟨by omega,by omega⟩,⟨by omega,by omega⟩,hjN,hfj,?_⟩
       rw [hsame _ (fun v=>c.1=0∧Zf v c < 0) (fun v hv h=>by subst hv;omega)] at hR1'
       rw [hlt0,Int.add_zero]
       have hset:=Zf4 (n:=N) (j:=j) (f:=fun v=>(Zji (p.take i) v:Int)+if v < j∧c.1=0∧0 < Zf v c then 1 else 0) (g:=fun v=>(Zji (p.take i) v:Int)+if v < j+1∧c.1=0∧0 < Zf v c then 1 else 0) (fun v hv=>by
        congr 1
        by_cases hlt:v < j
        ·by_cases hx:c.1=0∧0 < Zf v c
         ·rw [if_pos ⟨hlt,hx⟩,if_pos ⟨by omega,hx⟩]
         ·rw [if_neg (fun h=>hx h.2),if_neg (fun h=>hx h.2)]
        ·rw [if_neg (by omega),if_neg (by omega)])
       simp only [if_pos (show j < j+1∧c.1=0∧0 < Zf j c from ⟨by omega,h0',hpos⟩)] at hset
       rw [hset]
       exact hR1'
      ·rw [h0b,decide_eq_false hpos,Bool.and_false,cond_false,cond_true]
       refine ⟨⟨by omega,by omega⟩,hjN,⟨by omega,by omega⟩,⟨by omega,by omega⟩,hjN,hfj,?_⟩
       rw [hsame _ (fun v=>c.1=0∧0 < Zf v c) (fun v hv h=>by subst hv;omega)] at hR1'
       rw [hlt1,Int.add_zero]
       have hneg:Zf j c < 0:=by omega
       have hset:=Zf4 (n:=N) (j:=j) (f:=fun v=>(upN (p.take i) v:Int)+if v < j∧c.1=0∧Zf v c < 0 then 1 else 0) (g:=fun v=>(upN (p.take i) v:Int)+if v < j+1∧c.1=0∧Zf v c < 0 then 1 else 0) (fun v hv=>by
        congr 1
        by_cases hlt:v < j
        ·by_cases hx:c.1=0∧Zf v c < 0
         ·rw [if_pos ⟨hlt,hx⟩,if_pos ⟨by omega,hx⟩]
         ·rw [if_neg (fun h=>hx h.2),if_neg (fun h=>hx h.2)]
        ·rw [if_neg (by omega),if_neg (by omega)])
       simp only [if_pos (show j < j+1∧c.1=0∧Zf j c < 0 from ⟨by omega,h0',hneg⟩)] at hset
       rw [hset]
       exact hR1'
     ·have h0b:(c.1 == 0)=false:=by simpa using h0'
      rw [h0b,Bool.false_and,cond_false,cond_false]
      rw [hsame _ (fun v=>c.1=0∧0 < Zf v c) (fun v hv h=>h0' h.1),hsame _ (fun v=>c.1=0∧Zf v c < 0) (fun v hv h=>h0' h.1)] at hR1'
      exact ⟨hfj,hR1'⟩
  ·have:j=c.2.2.1.length:=by omega
   subst this
   simp only [Int.lt_irrefl,decide_false,cond_false]
   refine ⟨⟨by omega,by omega⟩,hR e _ ?_⟩
   rw [hs1]
   have ht:(Zbo 0 c.2.2.1).take c.2.2.1.length=Zbo 0 c.2.2.1:=by rw [← ZeK 0,List.take_length]
   have hE:(if c.1=1 then ((Zbo 0 c.2.2.1).take c.2.2.1.length).foldl Zcx st else st)=ZlE st c:=by rw [ht];rfl
   rw [hE]
   congr 4
   ·apply Zdg
    intro v hv
    rw [hlo v]
    by_cases hx:c.1=0∧0 < Zf v c
    ·rw [if_pos ⟨by omega,hx⟩,if_pos hx];push_cast;rfl
    ·rw [if_neg (fun h=>hx h.2),if_neg hx];push_cast;rfl
   ·apply Zdg
    intro v hv
    rw [hup v]
    by_cases hx:c.1=0∧Zf v c < 0
    ·rw [if_pos ⟨by omega,hx⟩,if_pos hx];push_cast;rfl
    ·rw [if_neg (fun h=>hx h.2),if_neg hx];push_cast;rfl
 ·have:i=p.length:=by omega
  subst this
  simp only [Int.lt_irrefl,decide_false,cond_false,List.take_length]
  rw [← Zlw]
  unfold Zbe
  by_cases hu:0≤(ZgU p).1
  ·rw [decide_eq_true hu,cond_true,if_pos hu]
  ·rw [decide_eq_false hu,cond_false,if_neg hu]
   by_cases hu2:0≤(ZgU p).2
   ·rw [decide_eq_true hu2,cond_true,if_pos hu2]
   ·rw [decide_eq_false hu2,cond_false,if_neg hu2]
    simp only [Int.toNat_natCast,List.length_map,List.length_range]
    refine Lp.iter N (fun v z=>z=((v:Int),(ZdD p v:Int))) rfl ?_
    rintro v z hv rfl R1 hR1
    by_cases ev:v < N
    ·have hb:ZdD p v < N:=by
      by_cases h:v=0
      ·subst h;have:ZdD p 0=0:=rfl;omega
      ·have:=ZkR p v (by omega);omega
     simp only [decide_eq_true (show (v:Int) < (N:Int) by omega),Int.toNat_natCast,cond_true,ZdE ev,ZdE hb]
     have a1:=ZkI p v
     have a2:=ZoN p v
     have a3:=ZkI p (ZdD p v)
     have a4:=ZoN p (ZdD p v)
     have hR1':=hR1 ev _ rfl
     rw [ZeP] at hR1'
     refine ⟨⟨by omega,by omega⟩,ev,⟨by omega,by omega⟩,ev,ZqG (by omega) (by omega),⟨by omega,by omega⟩,hb,⟨by omega,by omega⟩,hb,ZqG (by omega) (by omega),?_⟩
     have hcst:((Zji p v:Int)*(upN p v:Int)≤(Zji p (ZdD p v):Int)*(upN p (ZdD p v):Int))↔Zfv p v≤Zfv p (ZdD p v):=by
      unfold Zfv
      rw [← Int.ofNat_le];push_cast;exact Iff.rfl
     by_cases hle:Zfv p v≤Zfv p (ZdD p v)
     ·rw [decide_eq_true (hcst.2 hle),cond_true]
      unfold Zjr at hR1'
      rw [if_pos hle] at hR1'
      exact ⟨⟨by omega,by omega⟩,hR1'⟩
     ·rw [decide_eq_false (fun h=>hle (hcst.1 h)),cond_false]
      unfold Zjr at hR1'
      rw [if_neg hle] at hR1'
      exact ⟨⟨by omega,by omega⟩,hR1'⟩
    ·have:v=N:=by omega
     subst this
     simp only [Int.lt_irrefl,decide_false,cond_false]
theorem Zcr {c:Zc} (h:Zi c=true) (v:Nat):-1048576≤Zf v c∧Zf v c≤1048576 :=
 Zqt (P:=fun n=>-1048576≤n∧n≤1048576) (ZaL.b (Zi.lin h)).2.1 (by omega)
theorem Zo0 {n:Int}:Zbg n=1↔n=1∨n=-1:=by unfold Zbg;omega
theorem Zqq {n:Int}:Zbg n=0↔n=0:=by unfold Zbg;omega
theorem ZY.spec (p:List Zc) (n:Int) (hp:ZY.pre (p,n,())):ZY.wp p n (fun r=>r=ZY.fn (p,n,())):=by
 obtain ⟨h400,hc,h0,h12⟩:=hp
 simp only at h400 hc h0 h12
 have hfn:ZY.fn (p,n,())=Zbe p n:=rfl
 simp only [ZY.wp,hfn,Zm.fn]
 obtain ⟨N,rfl⟩:∃ N:Nat,n=(N:Int):=⟨n.toNat,by omega⟩
 refine Lp.iter p.length (fun i z=>z=((i:Int),((p.take i).foldl ZlE (-1,-1)))) rfl ?_
 rintro i z hle rfl R hR
 by_cases e:i < p.length
 ·have e':(i:Int) < (p.length:Int):=by omega
  simp only [decide_eq_true e',Int.toNat_natCast,cond_true]
  refine ⟨⟨by omega,e'⟩,?_⟩
  have hmem:=Zj (d:=Za) e
  obtain ⟨c,hcc⟩:∃ c,p.getD i Za=c:=⟨_,rfl⟩
  simp only [hcc] at hmem ⊢
  obtain ⟨hcv,hcl⟩:=hc c hmem
  have hcN:c.2.2.1.length=N:=by omega
  have hs1:(p.take (i+1)).foldl ZlE (-1,-1)=ZlE ((p.take i).foldl ZlE (-1,-1)) c:=by rw [ZbC (d:=Za) e,List.foldl_append,hcc];rfl
  have hR':=hR e _ rfl
  rw [hs1] at hR'
  obtain ⟨st,hst⟩:∃ st,(p.take i).foldl ZlE (-1,-1)=st:=⟨_,rfl⟩
  simp only [hst] at hR' ⊢
  unfold ZlE at hR'
  by_cases h1:c.1=1
  ·have h1b:(c.1 != 1)=false:=by simpa using h1
   rw [h1b,cond_false]
   rw [if_pos h1] at hR'
   refine Lp.iter c.2.2.1.length (fun j z=>z=((j:Int),((Zbo 0 c.2.2.1).take j).foldl Zcx st)) rfl ?_
   rintro j z hj rfl R1 hR1
   by_cases ej:j < c.2.2.1.length
   ·have ej':(j:Int) < (c.2.2.1.length:Int):=by omega
    have hst1:((Zbo 0 c.2.2.1).take (j+1)).foldl Zcx st=Zcx (((Zbo 0 c.2.2.1).take j).foldl Zcx st) (j,Zf j c):=by
     rw [ZgE 0 _ ej,List.foldl_append];rfl
    have hR1':=hR1 ej _ rfl
    rw [hst1] at hR1'
    have hcoef:c.2.2.1.getD j 0=Zf j c:=rfl
    simp only [decide_eq_true ej',Int.toNat_natCast,cond_true,hcoef]
    refine ⟨⟨by omega,ej'⟩,?_⟩
    have hfj:Zr IntKind.i64 ((j:Int)+1):=⟨by omega,by omega⟩
    have hcb:=Zcr hcv j
    have hsz:Zm.pre (Zf j c,()):=⟨by show -2305843009213693952≤Zf j c;omega,by show Zf j c≤2305843009213693952;omega⟩
    obtain ⟨s2,hs2⟩:∃ s2,((Zbo 0 c.2.2.1).take j).foldl Zcx st=s2:=⟨_,rfl⟩
    simp only [hs2] at hR1' ⊢
    unfold Zcx at hR1'
    by_cases ha:Zf j c=0
    ·rw [if_pos ha] at hR1'
     rw [ha] at hsz ⊢
     exact ⟨hsz,hfj,hR1'⟩
    ·rw [if_neg ha] at hR1'
     rw [show (Zf j c != 0)=true by simpa using ha,cond_true]
     refine ⟨hsz,?_⟩
     by_cases hu:Zf j c=1∨Zf j c=-1
     ·rw [show (Zbg (Zf j c) == 1)=true by simpa using Zo0.2 hu,cond_true]
      simp only [if_pos hu] at hR1'
      exact ⟨hfj,hR1'⟩
     ·rw [show (Zbg (Zf j c) == 1)=false by simpa using fun h=>hu (Zo0.1 h),cond_false]
      simp only [if_neg hu] at hR1'
      exact ⟨hfj,hR1'⟩
   ·have:j=c.2.2.1.length:=by omega
    subst this
    simp only [Int.lt_irrefl,decide_false,cond_false]
    have ht:(Zbo 0 c.2.2.1).take c.2.2.1.length=Zbo 0 c.2.2.1:=by rw [← ZeK 0,List.take_length]
    rw [ht,← Zrh]
    exact ⟨⟨by omega,by omega⟩,hR'⟩
  ·have h1b:(c.1 != 1)=true:=by simpa using h1
   rw [h1b,cond_true]
   rw [if_neg h1] at hR'
   exact ⟨⟨by omega,by omega⟩,hR'⟩
 ·have:i=p.length:=by omega
  subst this
  simp only [Int.lt_irrefl,decide_false,cond_false,List.take_length]
  rw [← Zlw]
  unfold Zbe
  by_cases hu:0≤(ZgU p).1
  ·rw [decide_eq_true hu,cond_true,if_pos hu]
  ·rw [decide_eq_false hu,cond_false,if_neg hu]
   by_cases hu2:0≤(ZgU p).2
   ·rw [decide_eq_true hu2,cond_true,if_pos hu2]
   ·rw [decide_eq_false hu2,cond_false,if_neg hu2]
    simp only [Int.toNat_natCast]
    refine Lp.iter N (fun v z=>z=((v:Int),(if v=0 then (-1:Int) else (Zfv p (ZdD p v):Int)),(ZdD p v:Int))) rfl ?_
    rintro v z hv rfl R1 hR1
    by_cases ev:v < N
    ·simp only [decide_eq_true (show (v:Int) < (N:Int) by omega),cond_true]
     refine Lp.iter p.length (fun i z=>z=((i:Int),(Zji (p.take i) v:Int),(upN (p.take i) v:Int))) (by simp [Zji,upN]) ?_
     rintro i z hi rfl R2 hR2
     by_cases e:i < p.length
     ·have e':(i:Int) < (p.length:Int):=by omega
      simp only [decide_eq_true e',Int.toNat_natCast,cond_true]
      refine ⟨⟨by omega,e'⟩,?_⟩
      have hmem:=Zj (d:=Za) e
      obtain ⟨c,hcc⟩:∃ c,p.getD i Za=c:=⟨_,rfl⟩
      simp only [hcc] at hmem ⊢
      obtain ⟨hcv,hcl⟩:=hc c hmem
      have hlo:Zji (p.take (i+1)) v=Zji (p.take i) v+if c.1=0∧0 < Zf v c then 1 else 0:=by rw [ZbC (d:=Za) e,Zmf,hcc]
      have hup:upN (p.take (i+1)) v=upN (p.take i) v+if c.1=0∧Zf v c < 0 then 1 else 0:=by rw [ZbC (d:=Za) e,ZoU,hcc]
      have hcoef:c.2.2.1.getD v 0=Zf v c:=rfl
      have hR2':=hR2 e _ rfl
      rw [hlo,hup] at hR2'
      have hlb:=ZmD p i v
      have hub:=ZoC p i v
      have hlen:(v:Int) < (c.2.2.1.length:Int):=by omega
      have hfi:Zr IntKind.i64 ((i:Int)+1):=⟨by omega,by omega⟩
      simp only [hcoef]
      refine ⟨fun h=>⟨h,trivial⟩,fun h=>⟨h,trivial⟩,fun h=>⟨h,h,by omega,hlen⟩,fun h=>⟨h,trivial⟩,fun h=>⟨h,trivial⟩,fun h=>by rw [h];rfl,?_⟩
      by_cases h0':c.1=0
      ·have h0b:(c.1 != 0)=false:=by simpa using h0'
       rw [h0b,Bool.false_or]
       by_cases ha:Zf v c=0
       ·rw [show (Zf v c == 0)=true by simpa using ha,cond_true]
        rw [if_neg (by omega),if_neg (by omega)] at hR2'
        exact ⟨hfi,hR2'⟩
       ·rw [show (Zf v c == 0)=false by simpa using ha,cond_false]
        refine ⟨⟨by omega,hlen⟩,?_⟩
        by_cases hpos:0 < Zf v c
        ·rw [decide_eq_true hpos,cond_true]
         rw [if_pos ⟨h0',hpos⟩,if_neg (by omega)] at hR2'
         exact ⟨⟨by omega,by omega⟩,hfi,by simpa using hR2'⟩
        ·rw [decide_eq_false hpos,cond_false]
         rw [if_neg (by omega),if_pos ⟨h0',by omega⟩] at hR2'
         exact ⟨⟨by omega,by omega⟩,hfi,by simpa using hR2'⟩
      ·have h0b:(c.1 != 0)=true:=by simpa using h0'
       rw [h0b,Bool.true_or,cond_true]
       rw [if_neg (fun h=>h0' h.1),if_neg (fun h=>h0' h.1)] at hR2'
       exact ⟨hfi,hR2'⟩
     ·have:i=p.length:=by omega
      subst this
      simp only [Int.lt_irrefl,decide_false,cond_false,List.take_length]
      have a1:=ZkI p v
      have a2:=ZoN p v
      have hcb:=ZqG (a:=Zji p v) (b:=upN p v) (by omega) (by omega)
      have hR1':=hR1 ev _ rfl
      rw [ZeP] at hR1'
      simp only [if_neg (show ¬ v+1=0 by omega)] at hR1'
      refine ⟨fun h=>⟨h,h,hcb⟩,fun h=>⟨h,h,trivial⟩,fun h=>by rw [h];rfl,?_⟩
      have hcst:((Zji p v:Int)*(upN p v:Int))=(Zfv p v:Int):=by unfold Zfv;push_cast;rfl
      by_cases hv0:v=0
      ·subst hv0
       simp only [if_true]
       have hb0:Zjr p (ZdD p 0) 0=0:=by
        have:ZdD p 0=0:=rfl
        rw [this];unfold Zjr;split<;>rfl
       rw [hb0] at hR1'
       rw [decide_eq_true (show (-1:Int) < 0 by omega),Bool.true_or,cond_true,hcst]
       refine ⟨by rw [← hcst];exact hcb,⟨by omega,by omega⟩,hR1'⟩
      ·simp only [if_neg hv0]
       rw [decide_eq_false (show ¬ (Zfv p (ZdD p v):Int) < 0 by omega),Bool.false_or,hcst]
       by_cases hle:Zfv p v≤Zfv p (ZdD p v)
       ·rw [decide_eq_true (by omega),cond_true]
        unfold Zjr at hR1'
        rw [if_pos hle] at hR1'
        exact ⟨by rw [← hcst];exact hcb,⟨by omega,by omega⟩,hR1'⟩
       ·rw [decide_eq_false (by omega),cond_false]
        unfold Zjr at hR1'
        rw [if_neg hle] at hR1'
        exact ⟨⟨by omega,by omega⟩,hR1'⟩
    ·have:v=N:=by omega
     subst this
     simp only [Int.lt_irrefl,decide_false,cond_false]
def ZI.wp (x0:List (List Zc)) (Q:(List (List Zc))×Int→Prop):Prop:=let v0:=ZJ.fn (x0,());(ZJ.pre (x0,())∧(((!(v0.2 != (0:Int)))=true→((!(v0.2 != (0:Int)))=true∧True))∧(((!(v0.2 != (0:Int)))=true→((!(v0.2 != (0:Int)))=true∧True))∧(((v0.2 != (0:Int))=false→(!(v0.2 != (0:Int)))=true)∧cond ((v0.2 != (0:Int))||decide ((400:Int) < ((List.length v0.1:Nat):Int))) (Q (([]:List (List (Zc))),(3:Int))) (Q (v0.1,(0:Int)))))))
def Z0.wp (x0:List Zc) (x1:Int) (x2:Int) (Q:(List Zc)→Prop):Prop:=let v0:=List.getD x0 (Int.toNat x1) Za;let v1:=List.getD v0.2.2.1 (Int.toNat x2) (0:Int);let v6:=Zk.fn (v0.2.2,(x2,()));let v8:=[((2:Int),(Zm.fn (v1,()),v6))];(((0:Int)≤x1∧x1 < ((List.length x0:Nat):Int))∧(((0:Int)≤x2∧x2 < ((List.length v0.2.2.1:Nat):Int))∧(((0:Int)≤x1∧x1 < ((List.length x0:Nat):Int))∧(Zk.pre (v0.2.2,(x2,()))∧cond (decide (v1 < (0:Int))) (Lp (σ:=Int×List (Zc)) (fun y4 R4=>let v2:=List.getD x0 (Int.toNat y4.1) Za;let v5:=[(v2.1,(v2.2.1,(Zk.fn (v2.2.2,(x2,())))))];let v7:=Zaa.fn (v2,(x2,(Zm.fn (v1,()),((-(-(1:Int))),(v6,())))));cond (decide (y4.1 < ((List.length x0:Nat):Int))) (((0:Int)≤y4.1∧y4.1 < ((List.length x0:Nat):Int))∧cond (y4.1 == x1) (Zr IntKind.i64 (y4.1+(1:Int))∧R4 ((y4.1+(1:Int)),y4.2)) (((0:Int)≤x2∧x2 < ((List.length v2.2.2.1:Nat):Int))∧cond ((List.getD v2.2.2.1 (Int.toNat x2) (0:Int)) == (0:Int)) (Zk.pre (v2.2.2,(x2,()))∧((((List.length y4.2+List.length v5)*48)≤140737488355328∧(List.length y4.2+List.length v5)≤9223372036854775807)∧(Zr IntKind.i64 (y4.1+(1:Int))∧R4 ((y4.1+(1:Int)),(y4.2++v5))))) (Zm.pre (v1,())∧(Zr IntKind.i64 (-(-(1:Int)))∧(Zaa.pre (v2,(x2,(Zm.fn (v1,()),((-(-(1:Int))),(v6,())))))∧((((List.length y4.2+List.length [v7])*48)≤140737488355328∧(List.length y4.2+List.length [v7])≤9223372036854775807)∧(Zr IntKind.i64 (y4.1+(1:Int))∧R4 ((y4.1+(1:Int)),(y4.2++[v7]))))))))) (Zm.pre (v1,())∧cond (decide ((1:Int) < Zm.fn (v1,()))) (Zm.pre (v1,())∧((((List.length y4.2+List.length v8)*48)≤140737488355328∧(List.length y4.2+List.length v8)≤9223372036854775807)∧Q (y4.2++v8))) (Q y4.2))) ((0:Int),([]:List (Zc)))) (Lp (σ:=Int×List (Zc)) (fun y4 R4=>let v2:=List.getD x0 (Int.toNat y4.1) Za;let v5:=[(v2.1,(v2.2.1,(Zk.fn (v2.2.2,(x2,())))))];let v9:=Zaa.fn (v2,(x2,(Zm.fn (v1,()),((-(1:Int)),(v6,())))));cond (decide (y4.1 < ((List.length x0:Nat):Int))) (((0:Int)≤y4.1∧y4.1 < ((List.length x0:Nat):Int))∧cond (y4.1 == x1) (Zr IntKind.i64 (y4.1+(1:Int))∧R4 ((y4.1+(1:Int)),y4.2)) (((0:Int)≤x2∧x2 < ((List.length v2.2.2.1:Nat):Int))∧cond ((List.getD v2.2.2.1 (Int.toNat x2) (0:Int)) == (0:Int)) (Zk.pre (v2.2.2,(x2,()))∧((((List.length y4.2+List.length v5)*48)≤140737488355328∧(List.length y4.2+List.length v5)≤9223372036854775807)∧(Zr IntKind.i64 (y4.1+(1:Int))∧R4 ((y4.1+(1:Int)),(y4.2++v5))))) (Zm.pre (v1,())∧(Zr IntKind.i64 (-(1:Int))∧(Zaa.pre (v2,(x2,(Zm.fn (v1,()),((-(1:Int)),(v6,())))))∧((((List.length y4.2+List.length [v9])*48)≤140737488355328∧(List.length y4.2+List.length [v9])≤9223372036854775807)∧(Zr IntKind.i64 (y4.1+(1:Int))∧R4 ((y4.1+(1:Int)),(y4.2++[v9]))))))))) (Zm.pre (v1,())∧cond (decide ((1:Int) < Zm.fn (v1,()))) (Zm.pre (v1,())∧((((List.length y4.2+List.length v8)*48)≤140737488355328∧(List.length y4.2+List.length v8)≤9223372036854775807)∧Q (y4.2++v8))) (Q y4.2))) ((0:Int),([]:List (Zc))))))))
theorem Lp.flt {α β : Type} {body : Int × List β → (Int × List β → Prop) → Prop} (l : List α) (d : α) (o : List β) (f : Nat × α → Bool) (g : Nat × α → β) (hl : l.length ≤ 9223372036854775807)
 (h:∀ (i:Nat) (t:List β) (R:Int×List β→Prop),i < l.length→(i:Int) < (l.length:Int)→Zr .i64 ((i:Int)+1)→t.length≤o.length+i→(f (i,l.getD i d)=true→R ((i:Int)+1,t++[g (i,l.getD i d)]))→(f (i,l.getD i d)=false→R ((i:Int)+1,t))→body ((i:Int),t) R)
 (h2:∀ R:Int×List β→Prop,(o++((Zbo d l).filter f).map g).length≤o.length+l.length→body ((l.length:Int),o++((Zbo d l).filter f).map g) R):Lp body (0,o):=by
 refine Lp.iter l.length (fun i y=>y=((i:Int),o++(((Zbo d l).take i).filter f).map g)) (by simp) ?_
 rintro i y hle rfl R hR
 have hlen:(o++(((Zbo d l).take i).filter f).map g).length≤o.length+i:=by
  have:=List.length_filter_le f ((Zbo d l).take i)
  rw [List.length_take] at this
  simp only [List.length_append,List.length_map];omega
 by_cases e:i < l.length
 ·have hR':=hR e _ rfl
  rw [ZgE d l e,List.filter_append] at hR'
  refine h i _ R e (by omega) ⟨by omega,by omega⟩ hlen (fun hf=>?_) (fun hf=>?_)
  ·rw [List.filter_cons_of_pos hf,List.filter_nil,List.map_append,← List.append_assoc] at hR'
   exact hR'
  ·rw [List.filter_cons_of_neg (by rw [hf];simp),List.filter_nil,List.append_nil] at hR'
   exact hR'
 ·have:i=l.length:=by omega
  subst this
  have ht:(Zbo d l).take l.length=Zbo d l:=by rw [← ZeK d,List.take_length]
  rw [ht] at hlen ⊢
  exact h2 R hlen
theorem Zrk {α:Type} (d:α) (l:List α):(Zbo d l).map (·.2)=l:=by
 apply List.ext_getElem (by simp [Zbo])
 intro i h1 h2
 simp only [Zbo,List.getElem_map,List.getElem_range]
 exact ZX h2
theorem ZdL {α β:Type} (d:α) (l:List α) (f:α→Bool) (g:α→β):((Zbo d l).filter fun ix=>f ix.2).map (fun ix=>g ix.2)=(l.filter f).map g:=by
 have h:((Zbo d l).map (·.2)).filter f=l.filter f:=by rw [Zrk]
 rw [← h,List.filter_map,List.map_map]
 rfl
theorem ZqO {α:Type} {d:α} {l:List α} {ix:Nat×α} (h:ix∈Zbo d l):ix.1 < l.length∧ix.2=l.getD ix.1 d∧ix.2∈l:=by
 simp only [Zbo,List.mem_map,List.mem_range] at h
 obtain ⟨i,hi,rfl⟩:=h
 exact ⟨hi,rfl,Zj hi⟩
theorem Lp.flat {α β : Type} {body : Int × List β → (Int × List β → Prop) → Prop} (l : List α) (d : α) (o : List β) (g : α → List β) (hl : l.length ≤ 9223372036854775807)
 (h:∀ (i:Nat) (R:Int×List β→Prop),i < l.length→(i:Int) < (l.length:Int)→Zr .i64 ((i:Int)+1)→R ((i:Int)+1,(o++(l.take i).flatMap g)++g (l.getD i d))→body ((i:Int),o++(l.take i).flatMap g) R)
 (h2:∀ R:Int×List β→Prop,body ((l.length:Int),o++l.flatMap g) R):Lp body (0,o):=by
 refine Lp.iter l.length (fun i y=>y=((i:Int),o++(l.take i).flatMap g)) (by simp) ?_
 rintro i y hle rfl R hR
 by_cases e:i < l.length
 ·refine h i R e (by omega) ⟨by omega,by omega⟩ (hR e _ ?_)
  rw [ZbC (d:=d) e,List.flatMap_append]
  simp
 ·have:i=l.length:=by omega
  subst this
  rw [List.take_length]
  exact h2 R
theorem Zcz {α β:Type} {g:α→List β} {k:Nat}:∀ {l:List α},(∀ x∈l,(g x).length≤k)→(l.flatMap g).length≤l.length*k
 | [],_=>by simp
 | x::l,h=>by
   rw [List.flatMap_cons,List.length_append,List.length_cons,Nat.succ_mul]
   have h1:=h x (by simp)
   have h2:=Zcz (l:=l) fun y hy=>h y (List.mem_cons_of_mem _ hy)
   omega
theorem Ztg {a b:Int} (ha:-1048576≤a∧a≤1048576) (hb:-1048576≤b∧b≤1048576):-1099511627776≤a*b∧a*b≤1099511627776 :=
 Zc5 (n:=1048576) (m:=1048576) (by omega) (by omega) ha.1 ha.2 hb.1 hb.2
theorem Zja {a:Int} (ha:-1048576≤a∧a≤1048576):-1048576≤Zbg a∧Zbg a≤1048576:=by unfold Zbg;omega
theorem Zu.spec (x:Pc) (hp:Zu.pre (x,())):Zu.wp x (fun r=>r=Zu.fn (x,())):=by
 obtain ⟨⟨k,h400,⟨hpl,hpb⟩,_,_⟩,h0,h1⟩:=hp
 simp only at h400 hpl hpb h0 h1
 have hfn:Zu.fn (x,())=[Zes x]:=rfl
 simp only [Zu.wp,hfn]
 unfold Zes
 have he:x.2.2.2.1.toNat < x.2.2.1.length:=by omega
 have hmem:=Zj (d:=ZbX) he
 obtain ⟨e,hee⟩:∃ e,x.2.2.1.getD x.2.2.2.1.toNat ZbX=e:=⟨_,rfl⟩
 simp only [hee] at hmem ⊢
 obtain ⟨heM,hea,heL,hek⟩:=hpb e hmem
 refine ⟨⟨h0,h1⟩,ZqF.of (P:=fun y=>y.1=Zbg e.2.1∧-y.2.1=(if e.2.1 < 0 then 1 else -1)) ?_ ?_⟩
 ·rintro ⟨size,s,b1,b2⟩ ⟨hy1,hy2⟩
  simp only at hy1 hy2
  simp only [hy1,hy2]
  have key:∀ o:List Zc,o=x.2.1→Lp (σ:=Int×List (Zc)) (fun y4 R4=>let v1:=List.getD x.2.2.1 (Int.toNat y4.1) (Za,((0:Int),(([]:List Int),(0:Int))));let v3:=[(v1.1.1,((Zbg e.2.1*v1.1.2.1),(ZN.fn (Zbg e.2.1,(v1.2.2,(((if e.2.1 < 0 then 1 else -1)*v1.2.1),(e.2.2,())))))))];cond (decide (y4.1 < ((List.length x.2.2.1:Nat):Int))) (((0:Int)≤y4.1∧y4.1 < ((List.length x.2.2.1:Nat):Int))∧cond (y4.1 != x.2.2.2.1) (Zr IntKind.i64 (Zbg e.2.1*v1.1.2.1)∧(Zr IntKind.i64 (if e.2.1 < 0 then 1 else -1)∧(Zr IntKind.i64 ((if e.2.1 < 0 then 1 else -1)*v1.2.1)∧(ZN.pre (Zbg e.2.1,(v1.2.2,(((if e.2.1 < 0 then 1 else -1)*v1.2.1),(e.2.2,()))))∧((((List.length y4.2+List.length v3)*48)≤140737488355328∧(List.length y4.2+List.length v3)≤9223372036854775807)∧(Zr IntKind.i64 (y4.1+(1:Int))∧R4 ((y4.1+(1:Int)),(y4.2++v3)))))))) (Zr IntKind.i64 (y4.1+(1:Int))∧R4 ((y4.1+(1:Int)),y4.2))) (cond (decide ((1:Int) < Zbg e.2.1)) ((((List.length y4.2+List.length [((2:Int),(Zbg e.2.1,e.2.2))])*48)≤140737488355328∧(List.length y4.2+List.length [((2:Int),(Zbg e.2.1,e.2.2))])≤9223372036854775807)∧[(y4.2++[((2:Int),(Zbg e.2.1,e.2.2))])]=[x.2.1++((Zbo ZbX x.2.2.1).filter fun jq=>decide ((jq.1:Int)≠x.2.2.2.1)).map (fun jq=>ZtQ e jq.2)++(if 1 < Zbg e.2.1 then [(2,Zbg e.2.1,e.2.2)] else [])]) ([y4.2]=[x.2.1++((Zbo ZbX x.2.2.1).filter fun jq=>decide ((jq.1:Int)≠x.2.2.2.1)).map (fun jq=>ZtQ e jq.2)++(if 1 < Zbg e.2.1 then [(2,Zbg e.2.1,e.2.2)] else [])]))) ((0:Int),o):=by
   intro o ho
   refine Lp.flt x.2.2.1 ZbX o (fun jq=>decide ((jq.1:Int)≠x.2.2.2.1)) (fun jq=>ZtQ e jq.2) (by omega) (fun i t R hi hi' hf htl h1 h2=>?_) (fun R hlen=>?_)
   ·have hm:=Zj (d:=ZbX) hi
    simp only [decide_eq_true hi',Int.toNat_natCast,cond_true]
    obtain ⟨q,hq⟩:∃ q,x.2.2.1.getD i ZbX=q:=⟨_,rfl⟩
    simp only [hq] at hm h1 h2 ⊢
    obtain ⟨hqM,hqa,hqL,hqk⟩:=hpb q hm
    refine ⟨⟨by omega,hi'⟩,?_⟩
    by_cases hne:(i:Int)≠x.2.2.2.1
    ·rw [show ((i:Int) != x.2.2.2.1)=true by simpa using hne,cond_true]
     have hab:=Zja hea
     have hpr:=Ztg hab hqM
     have hs:-1048576≤(if e.2.1 < 0 then (1:Int) else -1)*q.2.1∧(if e.2.1 < 0 then (1:Int) else -1)*q.2.1≤1048576:=by split<;>omega
     have hsf:Zr IntKind.i64 (if e.2.1 < 0 then (1:Int) else -1):=by split<;>exact ⟨by omega,by omega⟩
     refine ⟨⟨by omega,by omega⟩,hsf,⟨by omega,by omega⟩,⟨hab,hqL,hs,heL,by show q.2.2.1.length=e.2.2.1.length;omega⟩,⟨by simp only [List.length_singleton];subst ho;omega,by simp only [List.length_singleton];subst ho;omega⟩,hf,h1 (decide_eq_true hne)⟩
    ·rw [show ((i:Int) != x.2.2.2.1)=false by simpa using hne,cond_false]
     exact ⟨hf,h2 (decide_eq_false hne)⟩
   ·simp only [Int.lt_irrefl,decide_false,cond_false]
    subst ho
    by_cases ha:1 < Zbg e.2.1
    ·rw [decide_eq_true ha,cond_true,if_pos ha]
     exact ⟨⟨by simp only [List.length_singleton];omega,by simp only [List.length_singleton];omega⟩,rfl⟩
    ·rw [decide_eq_false ha,cond_false,if_neg ha,List.append_nil]
  rintro (_ | _) hb
  ·simp only [cond_false,List.nil_append,List.length_nil,Nat.zero_add]
   exact ⟨⟨by omega,by omega⟩,key _ rfl⟩
  ·simp only [cond_true]
   exact key _ (hb rfl).symm
 ·intro R hR
  by_cases ha:e.2.1 < 0
  ·rw [decide_eq_true ha,cond_true]
   exact ⟨⟨by omega,by omega⟩,hR _ ⟨by simp only;unfold Zbg;omega,by simp only [if_pos ha];omega⟩⟩
  ·rw [decide_eq_false ha,cond_false]
   exact hR _ ⟨by simp only;unfold Zbg;omega,by simp only [if_neg ha]⟩
theorem Zs.spec (x:Pc) (hp:Zs.pre (x,())):Zs.wp x (fun r=>r=Zs.fn (x,())):=by
 obtain ⟨k,h400,_,⟨hll,hlb⟩,⟨hul,hub⟩⟩:=hp
 simp only at h400 hll hlb hul hub
 obtain ⟨g,hg⟩:∃ g:Part→List Zc,g=fun l=>x.2.2.2.2.2.1.map fun u=>(0,0,Zci l.2.1 u.2.2 (-u.2.1) l.2.2):=⟨_,rfl⟩
 have hfn:Zs.fn (x,())=[x.2.1++x.2.2.2.2.1.flatMap g]:=by rw [hg]
 simp only [Zs.wp,hfn]
 have hgl:∀ l:List Part,l.length≤400→(l.flatMap g).length≤160000:=fun l hl=>by
  have:=Zcz (g:=g) (k:=400) (l:=l) fun y hy=>by rw [hg];simp only [List.length_map];exact hul
  have:=Nat.mul_le_mul hl (Nat.le_refl 400)
  omega
 have key:∀ o:List Zc,o=x.2.1→Lp (σ:=Int×List (Zc)) (fun y3 R3=>let v3:=List.getD x.2.2.2.2.1 (Int.toNat y3.1) (Za,((0:Int),(([]:List Int),(0:Int))));cond (decide (y3.1 < ((List.length x.2.2.2.2.1:Nat):Int))) (((0:Int)≤y3.1∧y3.1 < ((List.length x.2.2.2.2.1:Nat):Int))∧Lp (σ:=Int×List (Zc)) (fun y5 R5=>let v2:=List.getD x.2.2.2.2.2.1 (Int.toNat y5.1) (Za,((0:Int),(([]:List Int),(0:Int))));let v5:=[((0:Int),((0:Int),(ZN.fn (v3.2.1,(v2.2.2,((-v2.2.1),(v3.2.2,())))))))];cond (decide (y5.1 < ((List.length x.2.2.2.2.2.1:Nat):Int))) (((0:Int)≤y5.1∧y5.1 < ((List.length x.2.2.2.2.2.1:Nat):Int))∧(Zr IntKind.i64 (-v2.2.1)∧(ZN.pre (v3.2.1,(v2.2.2,((-v2.2.1),(v3.2.2,()))))∧((((List.length y5.2+List.length v5)*48)≤140737488355328∧(List.length y5.2+List.length v5)≤9223372036854775807)∧(Zr IntKind.i64 (y5.1+(1:Int))∧R5 ((y5.1+(1:Int)),(y5.2++v5))))))) (Zr IntKind.i64 (y3.1+(1:Int))∧R3 ((y3.1+(1:Int)),y5.2))) ((0:Int),y3.2)) ([y3.2]=[x.2.1++x.2.2.2.2.1.flatMap g])) ((0:Int),o):=by
  intro o ho
  refine Lp.flat x.2.2.2.2.1 ZbX o g (by omega) (fun i R hi hi' hf hR=>?_) (fun R=>?_)
  ·have hm:=Zj (d:=ZbX) hi
   simp only [decide_eq_true hi',Int.toNat_natCast,cond_true]
   obtain ⟨l,hl⟩:∃ l,x.2.2.2.2.1.getD i ZbX=l:=⟨_,rfl⟩
   simp only [hl] at hm hR ⊢
   obtain ⟨hqM,hqa,hqL,hqk⟩:=hlb l hm
   refine ⟨⟨by omega,hi'⟩,?_⟩
   have htk:(x.2.2.2.2.1.take i).length≤400:=by rw [List.length_take];omega
   have ho1:=hgl _ htk
   refine Lp.flt x.2.2.2.2.2.1 ZbX _ (fun _=>true) (fun ju=>(0,0,Zci l.2.1 ju.2.2.2 (-ju.2.2.1) l.2.2)) (by omega) (fun j t R1 hj hj' hfj htl h1 h2=>?_) (fun R1 hlen=>?_)
   ·have hmu:=Zj (d:=ZbX) hj
    simp only [decide_eq_true hj',Int.toNat_natCast,cond_true]
    obtain ⟨u,hu⟩:∃ u,x.2.2.2.2.2.1.getD j ZbX=u:=⟨_,rfl⟩
    simp only [hu] at hmu h1 ⊢
    obtain ⟨huM,hua,huL,huk⟩:=hub u hmu
    have htl':t.length≤170000:=by rw [List.length_append] at htl;subst ho;omega
    exact ⟨⟨by omega,hj'⟩,⟨by omega,by omega⟩,⟨hqa,huL,⟨by show -1048576≤-u.2.1;omega,by show -u.2.1≤1048576;omega⟩,hqL,by show u.2.2.1.length=l.2.2.1.length;omega⟩,⟨by simp only [List.length_singleton];omega,by simp only [List.length_singleton];omega⟩,hfj,h1 trivial⟩
   ·simp only [Int.lt_irrefl,decide_false,cond_false]
    refine ⟨hf,?_⟩
    have e:=ZdL ZbX x.2.2.2.2.2.1 (fun _=>true) (fun u=>((0:Int),(0:Int),Zci l.2.1 u.2.2 (-u.2.1) l.2.2))
    rw [e,List.filter_eq_self.2 (fun _ _=>rfl)]
    rw [hg] at hR ⊢
    exact hR
  ·simp only [Int.lt_irrefl,decide_false,cond_false]
   rw [ho]
 rintro (_ | _) hb
 ·simp only [cond_false,List.nil_append,List.length_nil,Nat.zero_add]
  exact ⟨⟨by omega,by omega⟩,key _ rfl⟩
 ·simp only [cond_true]
  exact key _ (hb rfl).symm
theorem ZqH {n l:Int} (hl:l≠0) (hn:-1048576≤n∧n≤1048576):-1048576≤n.tdiv l∧n.tdiv l≤1048576:=by
 have h:(n.tdiv l).natAbs≤n.natAbs:=by rw [Int.natAbs_tdiv];exact Nat.div_le_self _ _
 omega
theorem Zl.spec (x:Pc) (l:Int) (w:Lin) (all:Bool) (hp:Zl.pre (x,l,w,all,())):Zl.wp x l w all (fun r=>r=Zl.fn (x,l,w,all,())):=by
 obtain ⟨⟨k,⟨h400,⟨hpl,hpb⟩,_,_⟩,hwk⟩,hl0,hw⟩:=hp
 simp only at h400 hpl hpb hwk hl0 hw
 have hfn:Zl.fn (x,l,w,all,())=x.2.1++(x.2.2.1.filter fun q=>all||decide (q.1.1=2)).map (fun q=>(q.1.1,q.1.2.1,Zci 1 q.2.2 (q.2.1.tdiv l) w))++[(2,l,w)]:=rfl
 simp only [Zl.wp,hfn]
 have key:∀ o:List Zc,o=x.2.1→Lp (σ:=Int×List (Zc)) (fun y6 R6=>let v0:=List.getD x.2.2.1 (Int.toNat y6.1) (Za,((0:Int),(([]:List Int),(0:Int))));let v2:=[(v0.1.1,(v0.1.2.1,(ZN.fn ((1:Int),(v0.2.2,(Int.tdiv v0.2.1 l,(w,())))))))];cond (decide (y6.1 < ((List.length x.2.2.1:Nat):Int))) (((0:Int)≤y6.1∧y6.1 < ((List.length x.2.2.1:Nat):Int))∧(((!all)=true→((!all)=true∧True))∧(((!all)=true→((!all)=true∧True))∧(((!all)=true→((!all)=true∧True))∧((all=false→(!all)=true)∧cond (all||(v0.1.1 == (2:Int))) ((l≠(0:Int)∧Zr IntKind.i64 (Int.tdiv v0.2.1 l))∧(ZN.pre ((1:Int),(v0.2.2,(Int.tdiv v0.2.1 l,(w,()))))∧((((List.length y6.2+List.length v2)*48)≤140737488355328∧(List.length y6.2+List.length v2)≤9223372036854775807)∧(Zr IntKind.i64 (y6.1+(1:Int))∧R6 ((y6.1+(1:Int)),(y6.2++v2)))))) (Zr IntKind.i64 (y6.1+(1:Int))∧R6 ((y6.1+(1:Int)),y6.2))))))) ((((List.length y6.2+List.length ([((2:Int),(l,w))]))*48)≤140737488355328∧(List.length y6.2+List.length ([((2:Int),(l,w))]))≤9223372036854775807)∧(y6.2++[((2:Int),(l,w))])=x.2.1++(x.2.2.1.filter fun q=>all||decide (q.1.1=2)).map (fun q=>(q.1.1,q.1.2.1,Zci 1 q.2.2 (q.2.1.tdiv l) w))++[(2,l,w)])) ((0:Int),o):=by
  intro o ho
  refine Lp.flt x.2.2.1 ZbX o (fun jq=>all||decide (jq.2.1.1=2)) (fun jq=>(jq.2.1.1,jq.2.1.2.1,Zci 1 jq.2.2.2 (jq.2.2.1.tdiv l) w)) (by omega) (fun i t R hi hi' hf htl h1 h2=>?_) (fun R hlen=>?_)
  ·have hm:=Zj (d:=ZbX) hi
   simp only [decide_eq_true hi',Int.toNat_natCast,cond_true]
   obtain ⟨q,hq⟩:∃ q,x.2.2.1.getD i ZbX=q:=⟨_,rfl⟩
   simp only [hq] at hm h1 h2 ⊢
   obtain ⟨hqM,hqa,hqL,hqk⟩:=hpb q hm
   have htd:=ZqH hl0 hqa
   refine ⟨⟨by omega,hi'⟩,fun h=>⟨h,trivial⟩,fun h=>⟨h,trivial⟩,fun h=>⟨h,trivial⟩,fun h=>by rw [h];rfl,?_⟩
   have hcb:(all||(q.1.1 == 2))=(all||decide (q.1.1=2)):=rfl
   rw [hcb]
   cases hb:(all||decide (q.1.1=2)) with
   | true =>
     rw [cond_true]
     exact ⟨⟨hl0,⟨by omega,by omega⟩⟩,⟨⟨by show (-1048576:Int)≤1;omega,by show (1:Int)≤1048576;omega⟩,hqL,htd,hw,by show q.2.2.1.length=w.1.length;omega⟩,⟨by simp only [List.length_singleton];subst ho;omega,by simp only [List.length_singleton];subst ho;omega⟩,hf,h1 hb⟩
   | false =>
     rw [cond_false]
     exact ⟨hf,h2 hb⟩
  ·simp only [Int.lt_irrefl,decide_false,cond_false]
   subst ho
   refine ⟨⟨by simp only [List.length_singleton];omega,by simp only [List.length_singleton];omega⟩,?_⟩
   rw [ZdL ZbX x.2.2.1 (fun q=>all||decide (q.1.1=2)) (fun q=>(q.1.1,q.1.2.1,Zci 1 q.2.2 (q.2.1.tdiv l) w))]
 rintro (_ | _) hb
 ·simp only [cond_false,List.nil_append,List.length_nil,Nat.zero_add]
  exact ⟨⟨by omega,by omega⟩,key _ rfl⟩
 ·simp only [cond_true]
  exact key _ (hb rfl).symm
theorem ZgT {l:Lin} (h:ZcR l) (v:Nat):ZcR (ZcT l.1 v,l.2) :=
 ⟨by have : (ZcT l.1 v).length ≤ l.1.length := by unfold ZcT; simp; omega
     have:=h.1
     show (ZcT l.1 v).length≤_;omega,fun n hn=>h.2.1 n (Zoj hn),h.2.2⟩
theorem Zaa.spec (c:Zc) (v m k:Int) (w:Lin) (hp:Zaa.pre (c,v,m,k,w,())):Zaa.wp c v m k w (fun r=>r=Zaa.fn (c,v,m,k,w,())):=by
 obtain ⟨⟨n,⟨hM,hL,hn⟩,hn4,hwn,hv0,hv1⟩,hcf,hm,hk,hw⟩:=hp
 simp only at hM hL hn hn4 hwn hv0 hv1 hcf hm hk hw
 simp only [Zaa.wp,Zaa.fn]
 have hlen:(v:Int) < (c.2.2.1.length:Int):=by omega
 have hcoef:c.2.2.1.getD v.toNat 0=Zf v.toNat c:=rfl
 have hpr:=Ztg hM hm
 have hck:-1048576≤Zf v.toNat c*k∧Zf v.toNat c*k≤1048576:=by rcases hk with rfl | rfl<;>omega
 have hcl:(ZcT c.2.2.1 v.toNat).length=c.2.2.1.length - 1:=ZhD (by omega)
 refine ⟨⟨by show c.2.2.1.length≤1048576;omega,hv0,hlen⟩,⟨by omega,by omega⟩,⟨hv0,hlen⟩,⟨by rw [hcoef];omega,by rw [hcoef];omega⟩,⟨hm,ZgT hL _,by rw [hcoef];exact hck,hw,by show (ZcT c.2.2.1 v.toNat).length=w.1.length;omega⟩,rfl⟩
theorem ZI.spec (l:List (List Zc)) (hp:ZI.pre (l,())):ZI.wp l (fun r=>r=ZI.fn (l,())):=by
 have hfn:ZI.fn (l,())=Zed l:=rfl
 simp only [ZI.wp,hfn]
 have hpf:ZJ.fn (l,())=ZfD l:=rfl
 simp only [hpf]
 refine ⟨hp,fun h=>⟨h,trivial⟩,fun h=>⟨h,trivial⟩,fun h=>by rw [h];rfl,?_⟩
 have ht:ZfQ l=(l.foldlM Zb6 []).bind fun o=>if 400 < o.length then none else some o:=Zle l [] (by simp)
 unfold Zed ZfD
 simp only [ht]
 rcases ZaH (l.foldlM Zb6 []) with e | ⟨out,e⟩
 ·simp only [e]
  rfl
 ·simp only [e,Option.bind_some]
  by_cases h:400 < out.length
  ·simp only [if_pos h,decide_eq_true (show (400:Int) < ((out.length:Nat):Int) by omega),Bool.or_true,cond_true]
  ·simp only [if_neg h,decide_eq_false (show ¬ (400:Int) < ((out.length:Nat):Int) by omega)]
   simp
theorem pieceN.c {p:List Zc} {n:Int} (h:pieceN p n) {c:Zc} (hc:c∈p):Zi c=true∧(c.2.2.1.length:Int)=n:=h.2.1 c hc
theorem ZiV {c:Zc} (h:Zi c=true):-1048576≤c.2.1∧c.2.1≤1048576:=by
 unfold Zi at h
 split at h
 ·simp only [Bool.and_eq_true,beq_iff_eq] at h;omega
 ·split at h
  ·simp only [Bool.and_eq_true,decide_eq_true_iff] at h;omega
  ·cases h
theorem ZfL {c:Zc} (h:Zi c=true):ZcR c.2.2:=by
 have hl:=ZaL.b (Zi.lin h)
 exact ⟨by show c.2.2.1.length≤1048576;omega,fun n hn=>by have:=hl.2.1 n hn;omega,by show -4294967296≤c.2.2.2;omega,by show c.2.2.2≤4294967296;omega⟩
theorem Z0.spec (p:List Zc) (eq v:Int) (hp:Z0.pre (p,eq,v,())):Z0.wp p eq v (fun r=>r=Z0.fn (p,eq,v,())):=by
 obtain ⟨⟨n,hN,hv0,hv1⟩,h0,h1,hne⟩:=hp
 simp only at hN hv0 hv1 h0 h1 hne
 have hfn:Z0.fn (p,eq,v,())=Zcv v.toNat p eq.toNat:=rfl
 have hwo:∀ l:Lin,Zk.fn (l,v,())=(ZcT l.1 v.toNat,l.2):=fun _=>rfl
 have hpu:∀ c m k w,Zaa.fn (c,v,m,k,w,())=(c.1,c.2.1*m,Zci m (Za0 v.toNat c) (Zf v.toNat c*k) w):=fun _ _ _ _=>rfl
 simp only [Z0.wp,hfn,Zm.fn,hwo,hpu]
 have he:eq.toNat < p.length:=by omega
 have hmem:=Zj (d:=Za) he
 have hsp:Zcv v.toNat p eq.toNat=((Zbo Za p).filter fun jc=>decide (jc.1≠eq.toNat)).map (fun jc=>if Zf v.toNat jc.2=0 then Zc4 v.toNat jc.2 else Zmk v.toNat (p.getD eq.toNat Za) jc.2) ++
  (if 1 < Zbg (Zf v.toNat (p.getD eq.toNat Za)) then [(2,Zbg (Zf v.toNat (p.getD eq.toNat Za)),Za0 v.toNat (p.getD eq.toNat Za))] else []):=rfl
 rw [hsp]
 obtain ⟨e,hee⟩:∃ e,p.getD eq.toNat Za=e:=⟨_,rfl⟩
 simp only [hee] at hmem hne ⊢
 obtain ⟨hev,hel⟩:=hN.c hmem
 have hcoefe:e.2.2.1.getD v.toNat 0=Zf v.toNat e:=rfl
 simp only [hcoefe]
 obtain ⟨a,ha⟩:∃ a,Zf v.toNat e=a:=⟨_,rfl⟩
 have hab:=Zcr hev v.toNat
 simp only [ha] at hne hab ⊢
 have hel12:e.2.2.1.length≤12:=by have:=hN.2.2.2;omega
 refine ⟨⟨h0,h1⟩,⟨hv0,by omega⟩,⟨h0,h1⟩,⟨by show e.2.2.1.length≤1048576;omega,hv0,by show v < (e.2.2.1.length:Int);omega⟩,?_⟩
 have hsz:Zfd a:=⟨by omega,by omega⟩
 have key:∀ k:Int,k=(if a < 0 then 1 else -1)→Lp (σ:=Int×List (Zc)) (fun y4 R4=>let v2:=List.getD p (Int.toNat y4.1) Za;let v5:=[(v2.1,(v2.2.1,(ZcT v2.2.2.1 v.toNat,v2.2.2.2)))];let v7:=((v2.1,v2.2.1*Zbg a,Zci (Zbg a) (Za0 v.toNat v2) (Zf v.toNat v2*k) (ZcT e.2.2.1 v.toNat,e.2.2.2)):Zc);cond (decide (y4.1 < ((List.length p:Nat):Int))) (((0:Int)≤y4.1∧y4.1 < ((List.length p:Nat):Int))∧cond (y4.1 == eq) (Zr IntKind.i64 (y4.1+(1:Int))∧R4 ((y4.1+(1:Int)),y4.2)) (((0:Int)≤v∧v < ((List.length v2.2.2.1:Nat):Int))∧cond ((List.getD v2.2.2.1 (Int.toNat v) (0:Int)) == (0:Int)) (Zk.pre (v2.2.2,(v,()))∧((((List.length y4.2+List.length v5)*48)≤140737488355328∧(List.length y4.2+List.length v5)≤9223372036854775807)∧(Zr IntKind.i64 (y4.1+(1:Int))∧R4 ((y4.1+(1:Int)),(y4.2++v5))))) (Zm.pre (a,())∧(Zr IntKind.i64 k∧(Zaa.pre (v2,(v,(Zbg a,(k,((ZcT e.2.2.1 v.toNat,e.2.2.2),())))))∧((((List.length y4.2+List.length [v7])*48)≤140737488355328∧(List.length y4.2+List.length [v7])≤9223372036854775807)∧(Zr IntKind.i64 (y4.1+(1:Int))∧R4 ((y4.1+(1:Int)),(y4.2++[v7]))))))))) (Zm.pre (a,())∧cond (decide ((1:Int) < Zbg a)) (Zm.pre (a,())∧((((List.length y4.2+List.length [((2:Int),(Zbg a,(ZcT e.2.2.1 v.toNat,e.2.2.2)))])*48)≤140737488355328∧(List.length y4.2+List.length [((2:Int),(Zbg a,(ZcT e.2.2.1 v.toNat,e.2.2.2)))])≤9223372036854775807)∧(y4.2++[((2:Int),(Zbg a,(ZcT e.2.2.1 v.toNat,e.2.2.2)))])=((Zbo Za p).filter fun jc=>decide (jc.1≠eq.toNat)).map (fun jc=>if Zf v.toNat jc.2=0 then Zc4 v.toNat jc.2 else Zmk v.toNat e jc.2)++(if 1 < Zbg a then [(2,Zbg a,Za0 v.toNat e)] else []))) (y4.2=((Zbo Za p).filter fun jc=>decide (jc.1≠eq.toNat)).map (fun jc=>if Zf v.toNat jc.2=0 then Zc4 v.toNat jc.2 else Zmk v.toNat e jc.2)++(if 1 < Zbg a then [(2,Zbg a,Za0 v.toNat e)] else [])))) ((0:Int),([]:List (Zc))):=by
  intro k hk
  have h400:=hN.1
  refine Lp.flt p Za [] (fun jc=>decide (jc.1≠eq.toNat)) (fun jc=>if Zf v.toNat jc.2=0 then Zc4 v.toNat jc.2 else Zmk v.toNat e jc.2) (by omega) (fun i t R hi hi' hf htl h1 h2=>?_) (fun R hlen=>?_)
  ·have hm:=Zj (d:=Za) hi
   simp only [decide_eq_true hi',Int.toNat_natCast,cond_true]
   obtain ⟨c,hq⟩:∃ c,p.getD i Za=c:=⟨_,rfl⟩
   simp only [hq] at hm h1 h2 ⊢
   obtain ⟨hcv,hcl⟩:=hN.c hm
   refine ⟨⟨by omega,hi'⟩,?_⟩
   by_cases hie:(i:Int)=eq
   ·rw [show ((i:Int) == eq)=true by simpa using hie,cond_true]
    exact ⟨hf,h2 (by simp;omega)⟩
   ·rw [show ((i:Int) == eq)=false by simpa using hie,cond_false]
    have h1':=h1 (by simp;omega)
    have hcoefc:c.2.2.1.getD v.toNat 0=Zf v.toNat c:=rfl
    simp only [hcoefc]
    refine ⟨⟨hv0,by omega⟩,?_⟩
    simp only [List.length_nil,Nat.zero_add] at htl
    by_cases hc0:Zf v.toNat c=0
    ·rw [show (Zf v.toNat c == 0)=true by simpa using hc0,cond_true]
     rw [if_pos hc0] at h1'
     exact ⟨⟨by show c.2.2.1.length≤1048576;omega,hv0,by show v < (c.2.2.1.length:Int);omega⟩,⟨by simp only [List.length_singleton];omega,by simp only [List.length_singleton];omega⟩,hf,h1'⟩
    ·rw [show (Zf v.toNat c == 0)=false by simpa using hc0,cond_false]
     rw [if_neg hc0] at h1'
     have hput:Zmk v.toNat e c=(c.1,c.2.1*Zbg a,Zci (Zbg a) (Za0 v.toNat c) (Zf v.toNat c*k) (ZcT e.2.2.1 v.toNat,e.2.2.2)):=by
      rw [hk];unfold Zmk;rw [ha];rfl
     rw [hput] at h1'
     have hcle:(ZcT e.2.2.1 v.toNat).length=e.2.2.1.length - 1:=ZhD (by omega)
     refine ⟨hsz,by rw [hk];split<;>exact ⟨by omega,by omega⟩,⟨⟨c.2.2.1.length,⟨ZiV hcv,ZfL hcv,rfl⟩,by have:=hN.2.2.2;omega,by show (ZcT e.2.2.1 v.toNat).length+1=c.2.2.1.length;omega,hv0,by show v < (c.2.2.1.length:Int);omega⟩,Zcr hcv _,Zja hab,by show k=1∨k=-1;rw [hk];split<;>simp,ZgT (ZfL hev) _⟩,⟨by simp only [List.length_singleton];omega,by simp only [List.length_singleton];omega⟩,hf,h1'⟩
  ·simp only [Int.lt_irrefl,decide_false,cond_false,List.nil_append] at hlen ⊢
   simp only [List.length_nil,Nat.zero_add] at hlen
   refine ⟨hsz,?_⟩
   by_cases h1a:1 < Zbg a
   ·rw [decide_eq_true h1a,cond_true,if_pos h1a]
    exact ⟨hsz,⟨by simp only [List.length_singleton];omega,by simp only [List.length_singleton];omega⟩,rfl⟩
   ·rw [decide_eq_false h1a,cond_false,if_neg h1a,List.append_nil]
 by_cases hneg:a < 0
 ·rw [decide_eq_true hneg,cond_true]
  exact key (-(-(1:Int))) (by rw [if_pos hneg];omega)
 ·rw [decide_eq_false hneg,cond_false]
  exact key (-(1:Int)) (by rw [if_neg hneg])
end Go.Proofs.YtgpdnmfpgkkgcaaGreatDoor
namespace Go.Proofs.YtgpdnmfpgkkgcaaGreatDoor
open Go
set_option linter.unusedVariables false
theorem Za5 {v:Nat} {p:List Zc} {c:Zc}:c∈Zx v p↔c∈p∧Zf v c≠0:=by simp [Zx]
theorem ZfG {v:Nat} {p:List Zc} (h:(Zbx v p).2=0):(Zbx v p).1=(ZfR ((Zx v p).map fun c=>Zbg (Zf v c)):Int)∧1≤(Zbx v p).1∧(Zbx v p).1≤512:=by
 unfold Zbx at h ⊢
 rcases Zj8 ((Zx v p).map fun c=>Zbg (Zf v c)) with h1 | h1 | ⟨h1,h2,h3,h4⟩
 ·rw [h] at h1;cases h1
 ·rw [h] at h1;cases h1
 ·rw [h3]
  have:=Zlx h2
  exact ⟨rfl,by omega,by omega⟩
theorem Zej {v:Nat} {p:List Zc} (h:(Zbx v p).2=0) {c:Zc} (hc:c∈Zx v p):ZbS v (Zbx v p).1 c*Zbg (Zf v c)=(Zbx v p).1∧1≤ZbS v (Zbx v p).1 c∧ZbS v (Zbx v p).1 c≤512∧1≤Zbg (Zf v c):=by
 obtain ⟨h1,h2,h3⟩:=ZfG h
 have ha:1≤Zbg (Zf v c):=by have:=(Za5.1 hc).2;unfold Zbg;omega
 have hd:Zbg (Zf v c) ∣ (Zbx v p).1:=by
  rw [h1]
  exact ZhJ (List.mem_map_of_mem (f:=fun c=>Zbg (Zf v c)) hc)
 obtain ⟨l,hl⟩:∃ l,(Zbx v p).1=l:=⟨_,rfl⟩
 rw [hl] at h2 h3 hd ⊢
 unfold ZbS
 have hm:l.tdiv (Zbg (Zf v c))*Zbg (Zf v c)=l:=Int.tdiv_mul_cancel hd
 have hq:l.tdiv (Zbg (Zf v c))=l / Zbg (Zf v c):=Int.tdiv_eq_ediv_of_nonneg (by omega)
 refine ⟨hm,?_,?_,ha⟩
 ·rw [hq] at hm ⊢
  have h0:0≤l / Zbg (Zf v c):=Int.ediv_nonneg (by omega) (by omega)
  rcases Int.lt_or_le 0 (l / Zbg (Zf v c)) with h | h
  ·omega
  ·have:l / Zbg (Zf v c)=0:=by omega
   rw [this] at hm;omega
 ·rw [hq]
  exact Int.le_trans (Int.ediv_le_self _ (by omega)) h3
theorem Zny {v:Nat} {p:List Zc} {l:Int} (h:(ZeX v p l).2=0):1≤(ZeX v p l).1∧(ZeX v p l).1≤512∧l ∣ (ZeX v p l).1∧∀ c∈Zx v p,c.1=2→c.2.1*ZbS v l c ∣ (ZeX v p l).1:=by
 unfold ZeX at h ⊢
 rcases Zj8 (l::((Zx v p).filter fun c=>decide (c.1=2)).map fun c=>c.2.1*ZbS v l c) with h1 | h1 | ⟨h1,h2,h3,h4⟩
 ·rw [h] at h1;cases h1
 ·rw [h] at h1;cases h1
 ·rw [h3]
  have:=Zlx h2
  refine ⟨by omega,by omega,ZhJ (by simp),fun c hc h2'=>ZhJ (List.mem_cons_of_mem _ ?_)⟩
  exact List.mem_map_of_mem (f:=fun c=>c.2.1*ZbS v l c) (List.mem_filter.2 ⟨hc,by simpa using h2'⟩)
def ZdU (B:Int) (n:Nat) (l:Lin):Prop:=l.1.length=n∧(∀ x∈l.1,-B≤x∧x≤B)∧-B≤l.2∧l.2≤B
theorem ZdU.small {B:Int} {n:Nat} {l:Lin} (h:ZdU B n l) (hB:B≤4294967296) (hn:n≤1048576):ZcR l :=
 ⟨by have:=h.1;omega,fun x hx=>by have:=h.2.1 x hx;omega,by have:=h.2.2;omega,by have:=h.2.2;omega⟩
theorem ZdU.linB {B:Int} {n:Nat} {l:Lin} (h:ZdU B n l) (hB:B≤2305843009213693952) (hn:n≤1048576):linB l :=
 ⟨by have:=h.1;omega,fun x hx=>by have:=h.2.1 x hx;unfold Zfd;omega,by have:=h.2.2;unfold Zfd;omega⟩
theorem ZdU.getD {B:Int} {n:Nat} {l:Lin} (h:ZdU B n l) (hB:0≤B) (i:Nat):-B≤l.1.getD i 0∧l.1.getD i 0≤B:=Zqt (P:=fun x=>-B≤x∧x≤B) h.2.1 (by omega)
theorem ZlB {a b A B C D:Int} {l m:Lin} {n:Nat} (hA:0≤A) (hB:0≤B) (hC:0≤C) (hD:0≤D) (ha:-A≤a∧a≤A) (hl:ZdU C n l) (hb:-B≤b∧b≤B) (hm:ZdU D n m):ZdU (A*C+B*D) n (Zci a l b m):=by
 have key:∀ x y:Int,(-C≤x∧x≤C)→(-D≤y∧y≤D)→-(A*C+B*D)≤a*x+b*y∧a*x+b*y≤A*C+B*D:=fun x y hx hy=>by
  have h1:=Zc5 hA hC ha.1 ha.2 hx.1 hx.2
  have h2:=Zc5 hB hD hb.1 hb.2 hy.1 hy.2
  omega
 refine ⟨by simp [Zci,hl.1],fun x hx=>?_,key _ _ hl.2.2 hm.2.2⟩
 simp only [Zci,List.mem_map,List.mem_range] at hx
 obtain ⟨i,hi,rfl⟩:=hx
 exact key _ _ (hl.getD hC i) (hm.getD hD i)
theorem Zcq {c:Zc} {n:Int} {v:Nat} (h:Zi c=true∧(c.2.2.1.length:Int)=n) (hv:(v:Int) < n):ZdU 1048576 (n.toNat - 1) (Za0 v c):=by
 have hl:=ZaL.b (Zi.lin h.1)
 refine ⟨?_,fun x hx=>hl.2.1 x (Zoj hx),hl.2.2⟩
 show (ZcT c.2.2.1 v).length=_
 rw [ZhD (by omega)];omega
theorem Zfa {c:Zc} (h:Zi c=true):Zpw c:=by
 unfold Zi at h
 split at h
 ·rename_i h1;exact h1.elim .inl fun h=>.inr (.inl h)
 ·split at h
  ·rename_i h2
   simp only [Bool.and_eq_true,decide_eq_true_iff] at h
   exact .inr (.inr ⟨h2,by omega,by omega⟩)
  ·cases h
theorem Zow {c:Zc} {n:Int} {v:Nat} (h:Zi c=true∧(c.2.2.1.length:Int)=n) (hv:(v:Int) < n) (hn:n≤12):condB (Zc4 v c)∧(Zc4 v c).2.2.1.length=n.toNat - 1:=by
 have hr:=Zcq h hv
 have hk:=Zfa h.1
 exact ⟨⟨hk,hr.linB (by omega) (by omega)⟩,hr.1⟩
theorem Zmp {k m f:Int} {l l':Lin} (h:Zpw (k,m,l)) (hm:-1048576≤m∧m≤1048576) (h1:1≤f) (h2:f≤1048576):Zpw (k,m*f,l'):=by
 rcases h with h | h | ⟨h,h3,h4⟩
 ·exact .inl h
 ·exact .inr (.inl h)
 ·simp only at h h3 h4
  have h5:=Int.mul_le_mul h3 h1 (by omega) (by omega)
  have h6:=Ztg hm (b:=f) (by omega)
  exact .inr (.inr ⟨h,by show 1≤m*f;omega,by show m*f≤2305843009213693952;omega⟩)
theorem Zvj {c e : Zc} {n : Int} {v : Nat} (h : Zi c = true ∧ (c.2.2.1.length : Int) = n) (he : Zi e = true ∧ (e.2.2.1.length : Int) = n) (hv : (v : Int) < n) (hn : n ≤ 12) (h0 : Zf v e ≠ 0) :
 condB (Zmk v e c)∧(Zmk v e c).2.2.1.length=n.toNat - 1:=by
 have hr:=Zcq h hv
 have hre:=Zcq he hv
 have hab:=Zja (Zcr he.1 v)
 have hcb:=Zcr h.1 v
 have ha1:1≤Zbg (Zf v e):=by unfold Zbg;omega
 have hs:-1048576≤Zf v c*(if Zf v e < 0 then 1 else -1)∧Zf v c*(if Zf v e < 0 then 1 else -1)≤1048576:=by split<;>omega
 have hm:=ZlB (A:=1048576) (B:=1048576) (by omega) (by omega) (by omega) (by omega) hab hr hs hre
 exact ⟨⟨Zmp (Zfa h.1) (ZiV h.1) ha1 hab.2,hm.linB (by omega) (by omega)⟩,hm.1⟩
theorem ZiH {c:Zc} {n:Int} {v:Nat} {l:Int} (h:Zi c=true∧(c.2.2.1.length:Int)=n) (hv:(v:Int) < n) (hf:1≤ZbS v l c∧ZbS v l c≤512):ZdU 536870912 (n.toNat - 1) (Zjh v l c):=by
 have hr:=Zcq h hv
 have key:∀ x:Int,(-1048576≤x∧x≤1048576)→-536870912≤ZbS v l c*x∧ZbS v l c*x≤536870912:=fun x hx =>
  Zc5 (n:=512) (m:=1048576) (by omega) (by omega) (by omega) hf.2 hx.1 hx.2
 refine ⟨by simp [Zjh,hr.1],fun x hx=>?_,key _ hr.2.2⟩
 simp only [Zjh,List.mem_map] at hx
 obtain ⟨y,hy,rfl⟩:=hx
 exact key y (hr.2.1 y hy)
theorem Zvg {c : Zc} {n : Int} {v : Nat} {l : Int} {w : Lin} (h : Zi c = true ∧ (c.2.2.1.length : Int) = n) (hv : (v : Int) < n) (hn : n ≤ 12) (hf : 1 ≤ ZbS v l c ∧ ZbS v l c ≤ 512) (hw : ZdU 536871424 (n.toNat - 1) w) :
 condB (Zu4 v l w c)∧(Zu4 v l w c).2.2.1.length=n.toNat - 1:=by
 have hs:=ZiH h hv hf
 have hm:=ZlB (A:=1) (B:=1) (by omega) (by omega) (by omega) (by omega) (show (-1:Int)≤1∧(1:Int)≤1 by omega) hs (show -1≤ZmQ (Zf v c)∧ZmQ (Zf v c)≤1 by unfold ZmQ;split<;>omega) hw
 exact ⟨⟨Zmp (Zfa h.1) (ZiV h.1) hf.1 (by omega),hm.linB (by omega) (by omega)⟩,hm.1⟩
theorem Zk7 {c:Zc} {n:Int} {v:Nat} {l:Int} {low:Bool} {j:Nat} (h:Zi c=true∧(c.2.2.1.length:Int)=n) (hv:(v:Int) < n) (hf:1≤ZbS v l c∧ZbS v l c≤512) (hj:j≤512):ZdU 536871424 (n.toNat - 1) (ZdF v l c low j):=by
 have hs:=ZiH h hv hf
 cases low with
 | true =>
   refine ⟨by simp [ZdF,hs.1],fun x hx=>?_,by have:=hs.2.2;simp only [ZdF,if_true];omega⟩
   simp only [ZdF,if_true,List.mem_map] at hx
   obtain ⟨y,hy,rfl⟩:=hx
   have:=hs.2.1 y hy
   omega
 | false =>
   refine ⟨by simp [ZdF,hs.1],fun x hx=>?_,by have:=hs.2.2;simp only [ZdF,Bool.false_eq_true,if_false];omega⟩
   simp only [ZdF,Bool.false_eq_true,if_false] at hx
   have:=hs.2.1 x hx
   omega
theorem Zli {n:Nat} {j:Nat} (hj:j≤512):ZdU 536871424 n (List.replicate n 0,(j:Int)) :=
 ⟨by simp,fun x hx=>by rw [(List.mem_replicate.1 hx).2];omega,by simp only;omega⟩
def Zjn (n:Nat) (q:List Zc):Prop:=q.length≤200000∧∀ c∈q,condB c∧c.2.2.1.length=n
theorem Zjn.D {n:Nat} {q:List Zc} (h:Zjn n q):Za2 q∧ZeM q n:=⟨⟨by have:=h.1;omega,fun c hc=>(h.2 c hc).1⟩,fun c hc=>(h.2 c hc).2⟩
section
variable {p:List Zc} {n:Int} {v:Nat}
theorem Zcm:(ZbL v p).length≤p.length:=by unfold ZbL;rw [List.length_map];exact List.length_filter_le _ _
theorem ZeS (h:pieceN p n) (hv:(v:Int) < n):∀ c∈ZbL v p,condB c∧c.2.2.1.length=n.toNat - 1:=fun c hc=>by
 simp only [ZbL,List.mem_map,List.mem_filter] at hc
 obtain ⟨d,⟨hd,_⟩,rfl⟩:=hc
 exact Zow (h.c hd) hv h.2.2.2
theorem Zey (h:pieceN p n) (hv:(v:Int) < n) {i:Nat} (hi:i < p.length) (h0:Zf v (p.getD i Za)≠0):Zjn (n.toNat - 1) (Zcv v p i):=by
 have hm:=Zj (d:=Za) hi
 have he:=h.c hm
 have hr:=Zcq he hv
 have hab:=Zja (Zcr he.1 v)
 refine ⟨?_,fun c hc=>?_⟩
 ·unfold Zcv
  have:=List.length_filter_le (fun jc:Nat×Zc=>decide (jc.1≠i)) (Zbo Za p)
  rw [ZeK] at this
  have:=h.1
  simp only [List.length_append,List.length_map]
  split<;>simp only [List.length_cons,List.length_nil]<;>omega
 ·unfold Zcv at hc
  rcases List.mem_append.1 hc with hc | hc
  ·simp only [List.mem_map,List.mem_filter] at hc
   obtain ⟨jc,⟨hj,_⟩,rfl⟩:=hc
   have hd:=h.c (ZqO hj).2.2
   split
   ·exact Zow hd hv h.2.2.2
   ·exact Zvj hd he hv h.2.2.2 h0
  ·split at hc
   ·rename_i h1
    simp only [List.mem_singleton] at hc
    subst hc
    exact ⟨⟨.inr (.inr ⟨rfl,by show 1≤Zbg _;omega,by show Zbg _≤_;omega⟩),hr.linB (by omega) (by have:=h.2.2.2;omega)⟩,hr.1⟩
   ·cases hc
theorem Zgz (h:pieceN p n) (hv:(v:Int) < n):Zjn (n.toNat - 1) (Zjp v p):=by
 have hle:∀ f:Zc→Bool,(p.filter f).length≤400:=fun f=>Nat.le_trans (List.length_filter_le _ _) h.1
 refine ⟨?_,fun c hc=>?_⟩
 ·unfold Zjp
  have h1:=Zcm (v:=v) (p:=p)
  have h2:=Zcz (g:=fun x=>(upP v p).map (Zl2 v x)) (k:=400) (l:=ZbQ v p) fun x hx=>by rw [List.length_map];exact hle _
  have h3:=Nat.mul_le_mul (hle fun c=>decide (Zf v c≠0∧c.1≠1∧c.1≠2∧0 < Zf v c)) (Nat.le_refl 400)
  have h4:(ZbQ v p).length*400≤400*400:=h3
  have:=h.1
  rw [List.length_append];omega
 ·unfold Zjp at hc
  rcases List.mem_append.1 hc with hc | hc
  ·exact ZeS h hv c hc
  ·simp only [List.mem_flatMap,List.mem_map] at hc
   obtain ⟨x,hx,y,hy,rfl⟩:=hc
   have hx':=h.c (List.mem_filter.1 hx).1
   have hy':=h.c (List.mem_filter.1 hy).1
   have hcx:=Zcr hx'.1 v
   have hcy:=Zcr hy'.1 v
   have hm:=ZlB (A:=1048576) (B:=1048576) (by omega) (by omega) (by omega) (by omega) hcx (Zcq hy' hv) (show -1048576≤-Zf v y∧-Zf v y≤1048576 by omega) (Zcq hx' hv)
   exact ⟨⟨.inl rfl,hm.linB (by omega) (by have:=h.2.2.2;omega)⟩,hm.1⟩
theorem Zh0 (h:pieceN p n) (hv:(v:Int) < n) (hl:(Zbx v p).2=0) {w:Lin} (hw:ZdU 536871424 (n.toNat - 1) w) (all:Bool):Zjn (n.toNat - 1) (ZeU v p (Zbx v p).1 w all):=by
 obtain ⟨hl1,hl2,hl3⟩:=ZfG hl
 refine ⟨?_,fun c hc=>?_⟩
 ·unfold ZeU
  have h1:=Zcm (v:=v) (p:=p)
  have h2:=List.length_filter_le (fun c:Zc=>all||decide (c.1=2)) (Zx v p)
  have h3:(Zx v p).length≤p.length:=List.length_filter_le _ _
  have:=h.1
  simp only [List.length_append,List.length_map,List.length_cons,List.length_nil]
  omega
 ·unfold ZeU at hc
  rcases List.mem_append.1 hc with hc | hc
  ·rcases List.mem_append.1 hc with hc | hc
   ·exact ZeS h hv c hc
   ·simp only [List.mem_map,List.mem_filter] at hc
    obtain ⟨d,⟨hd,_⟩,rfl⟩:=hc
    obtain ⟨_,f1,f2,_⟩:=Zej hl hd
    exact Zvg (h.c (Za5.1 hd).1) hv h.2.2.2 ⟨f1,f2⟩ hw
  ·simp only [List.mem_singleton] at hc
   subst hc
   exact ⟨⟨.inr (.inr ⟨rfl,hl2,by show (Zbx v p).1≤_;omega⟩),hw.linB (by omega) (by have:=h.2.2.2;omega)⟩,hw.1⟩
theorem ZfC (h:pieceN p n) (hv:(v:Int) < n) (hl:(Zbx v p).2=0) {d:Nat} (hd:d≤512):(ZbY v p (n.toNat - 1) (Zbx v p).1 d).length≤204800∧∀ q∈ZbY v p (n.toNat - 1) (Zbx v p).1 d,Zjn (n.toNat - 1) q:=by
 unfold ZbY
 split
 ·refine ⟨by simp;omega,fun q hq=>?_⟩
  simp only [List.mem_map,List.mem_range] at hq
  obtain ⟨j,hj,rfl⟩:=hq
  exact Zh0 h hv hl (Zli (by omega)) false
 ·refine ⟨?_,fun q hq=>?_⟩
  ·have h2:=Zcz (g:=fun c=>(List.range d).map fun j=>ZeU v p (Zbx v p).1 (ZdF v (Zbx v p).1 c (Zgw v p) j) true) (k:=512) (l:=ZmG v p) fun x hx=>by simp;omega
   have h3:(ZmG v p).length≤(Zx v p).length:=List.length_filter_le _ _
   have h4:(Zx v p).length≤p.length:=List.length_filter_le _ _
   have:=h.1
   have:=Nat.mul_le_mul (show (ZmG v p).length≤400 by omega) (Nat.le_refl 512)
   omega
  ·simp only [List.mem_flatMap,List.mem_map,List.mem_range] at hq
   obtain ⟨c,hc,j,hj,rfl⟩:=hq
   have hcp:=(List.mem_filter.1 hc).1
   obtain ⟨_,f1,f2,_⟩:=Zej hl hcp
   exact Zh0 h hv hl (Zk7 (h.c (Za5.1 hcp).1) hv ⟨f1,f2⟩ (by omega)) true
end
theorem Zvq (v:Nat) (p:List Zc):eqI v p=-1∨(0≤eqI v p∧(eqI v p).toNat < p.length∧Zf v (p.getD (eqI v p).toNat Za)≠0∧(p.getD (eqI v p).toNat Za).1=1):=by
 unfold eqI
 have key : ∀ (l : List Nat) (e : Int), (∀ i ∈ l, i < p.length) → (e = -1 ∨ (0 ≤ e ∧ e.toNat < p.length ∧ Zf v (p.getD e.toNat Za) ≠ 0 ∧ (p.getD e.toNat Za).1 = 1)) →
  (l.foldl (Zd8 v p) e=-1∨(0≤l.foldl (Zd8 v p) e∧(l.foldl (Zd8 v p) e).toNat < p.length∧Zf v (p.getD (l.foldl (Zd8 v p) e).toNat Za)≠0∧(p.getD (l.foldl (Zd8 v p) e).toNat Za).1=1)):=by
  intro l
  induction l with
  | nil=>exact fun e _ h=>h
  | cons i l ih =>
    refine fun e hl h=>ih _ (fun j hj=>hl j (List.mem_cons_of_mem _ hj)) ?_
    unfold Zd8
    split
    ·rename_i hc
     exact .inr ⟨by omega,by simpa using hl i (by simp),by simpa using hc.1,by simpa using hc.2.1⟩
    ·exact h
 exact key _ _ (fun i hi=>List.mem_range.1 hi) (.inl rfl)
theorem ZpD {p:List Zc} {n:Int} {v:Nat} (h:pieceN p n) (hv:(v:Int) < n) {l:List (List Zc)} (hs:ZcO p n.toNat v=some l):l.length≤204800∧∀ q∈l,Zjn (n.toNat - 1) q:=by
 unfold ZcO at hs
 split at hs
 ·rename_i he
  cases hs
  rcases Zvq v p with h1 | ⟨_,h2,h3,_⟩
  ·omega
  ·exact ⟨by simp,fun q hq=>by rw [List.mem_singleton.1 hq];exact Zey h hv h2 h3⟩
 ·split at hs
  ·cases hs
   exact ⟨by simp,fun q hq=>by rw [List.mem_singleton.1 hq];exact ⟨by have:=Zcm (v:=v) (p:=p);have:=h.1;omega,ZeS h hv⟩⟩
  ·split at hs
   ·cases hs
    exact ⟨by simp,fun q hq=>by rw [List.mem_singleton.1 hq];exact Zgz h hv⟩
   ·split at hs
    ·cases hs
    ·rename_i hl
     split at hs
     ·cases hs
     ·rename_i hd
      cases hs
      have hl:(Zbx v p).2=0:=by simpa using hl
      have hd:(ZeX v p (Zbx v p).1).2=0:=by simpa using hd
      have:=Zny hd
      exact ZfC h hv hl (by omega)
theorem ZdO {p:List Zc} {n v:Int} (h:pieceN p n) (hv0:0≤v) (hv:v < n) (h0:(Z4 p n v).2=0):PD (n.toNat - 1) (Z4 p n v).1∧Nm (Z4 p n v).1∧∃ l,ZcO p n.toNat v.toNat=some l∧ZfQ l=some (Z4 p n v).1:=by
 unfold Z4 at h0 ⊢
 rcases ZaH (ZcO p n.toNat v.toNat) with e | ⟨l,e⟩
 ·rw [e] at h0;cases h0
 ·simp only [e] at h0 ⊢
  unfold Zed at h0 ⊢
  rcases ZaH (ZfQ l) with e2 | ⟨out,e2⟩
  ·rw [e2] at h0;cases h0
  ·simp only [e2]
   have hg:=ZpD h (v:=v.toNat) (by omega) e
   obtain ⟨k1,k2⟩:=PD.of_tid (fun q hq=>(hg.2 q hq).D) e2
   exact ⟨k1,k2,l,rfl,e2⟩
theorem PD.pieceN {n:Nat} {l:List (List Zc)} (h:PD n l) (hn:n≤12) {q:List Zc} (hq:q∈l):pieceN q (n:Int) :=
 ⟨by have:=(h.1.2 q hq).1;omega,fun c hc=>⟨(h.1.2 q hq).2 c hc,by rw [h.2 q hq c hc]⟩,by omega,by omega⟩
end Go.Proofs.YtgpdnmfpgkkgcaaGreatDoor
namespace Go.Proofs.YtgpdnmfpgkkgcaaGreatDoor
open Go
set_option linter.unusedVariables false
set_option maxRecDepth 4000
def Zt.wp (x0:List Zc) (x1:List Zc) (x2:Int) (Q:(List (List Zc))×Int→Prop):Prop:=let v18:=List.length ([]:List (Zc));Lp (σ:=Int×List Int) (fun y4 R4=>let v0:=List.getD x0 (Int.toNat y4.1) Za;let v1:=List.getD v0.2.2.1 (Int.toNat x2) (0:Int);let v2:=[Zm.fn (v1,())];cond (decide (y4.1 < ((List.length x0:Nat):Int))) (((0:Int)≤y4.1∧y4.1 < ((List.length x0:Nat):Int))∧(((0:Int)≤x2∧x2 < ((List.length v0.2.2.1:Nat):Int))∧cond (v1 != (0:Int)) (((0:Int)≤x2∧x2 < ((List.length v0.2.2.1:Nat):Int))∧(Zm.pre (v1,())∧((((List.length y4.2+List.length v2)*8)≤140737488355328∧(List.length y4.2+List.length v2)≤9223372036854775807)∧(Zr IntKind.i64 (y4.1+(1:Int))∧R4 ((y4.1+(1:Int)),(y4.2++v2)))))) (Zr IntKind.i64 (y4.1+(1:Int))∧R4 ((y4.1+(1:Int)),y4.2)))) (Zaq.pre (y4.2,())∧cond ((Zaq.fn (y4.2,())).2 != (0:Int)) (Q (([]:List (List (Zc))),(3:Int))) (Lp (σ:=Int×Int×Int×Int×(List Int)×List (Zc)) (fun y6 R6=>let v4:=List.getD x0 (Int.toNat y6.1) Za;let v5:=List.getD v4.2.2.1 (Int.toNat x2) (0:Int);let v6:=Int.tdiv ((Zaq.fn (y4.2,())).1) (Zm.fn (v5,()));let v7:=Int.tdiv v5 (Zm.fn (v5,()));let v8:=ZE.fn (v6,(v4.2.2,((0:Int),(v4.2.2,()))));let v9:=List.length y6.2.2.2.2.2;let v10:=List.set v8.1 (Int.toNat x2) v7;let v11:=[(v4.1,((v4.2.1*v6),(v10,v8.2)))];let v12:=List.length y6.2.2.2.2.1;let v13:=List.length ([(v4.2.1*v6)]);let v14:=List.replicate (Int.toNat y6.2.1) (0:Int);let v16:=[((2:Int),((Zaq.fn (y4.2,())).1,((List.set v14 (Int.toNat x2) (1:Int)),(0:Int))))];let v17:=Zaq.fn (y6.2.2.2.2.1,());let v19:=List.length (y6.2.2.2.2.2++v16);cond (decide (y6.1 < ((List.length x0:Nat):Int))) (((0:Int)≤y6.1∧y6.1 < ((List.length x0:Nat):Int))∧(((0:Int)≤x2∧x2 < ((List.length v4.2.2.1:Nat):Int))∧cond (v5 == (0:Int)) (Zr IntKind.i64 (y6.1+(1:Int))∧R6 ((y6.1+(1:Int)),y6.2)) (Zm.pre (v5,())∧((Zm.fn (v5,())≠(0:Int)∧Zr IntKind.i64 v6)∧(Zr IntKind.i64 (v4.2.1*v6)∧(ZE.pre (v6,(v4.2.2,((0:Int),(v4.2.2,()))))∧(Zm.pre (v5,())∧((Zm.fn (v5,())≠(0:Int)∧Zr IntKind.i64 v7)∧(((0:Int)≤x2∧x2 < ((List.length v8.1:Nat):Int))∧(Int.toNat x2 < List.length v8.1∧((((v9+List.length v11)*48)≤140737488355328∧(v9+List.length v11)≤9223372036854775807)∧cond (v4.1 == (2:Int)) ((((v12+v13)*8)≤140737488355328∧(v12+v13)≤9223372036854775807)∧(Zr IntKind.i64 (y6.1+(1:Int))∧R6 ((y6.1+(1:Int)),(((List.length v10:Nat):Int),(y6.2.2.1,(y6.2.2.2.1,((y6.2.2.2.2.1++[(v4.2.1*v6)]),(y6.2.2.2.2.2++v11)))))))) (cond (decide ((0:Int) < v5)) (Zr IntKind.i64 (y6.2.2.1+(1:Int))∧(Zr IntKind.i64 (y6.1+(1:Int))∧R6 ((y6.1+(1:Int)),(((List.length v10:Nat):Int),((y6.2.2.1+(1:Int)),(y6.2.2.2.1,(y6.2.2.2.2.1,(y6.2.2.2.2.2++v11)))))))) (Zr IntKind.i64 (y6.2.2.2.1+(1:Int))∧(Zr IntKind.i64 (y6.1+(1:Int))∧R6 ((y6.1+(1:Int)),(((List.length v10:Nat):Int),(y6.2.2.1,((y6.2.2.2.1+(1:Int)),(y6.2.2.2.2.1,(y6.2.2.2.2.2++v11)))))))))))))))))))) (((0:Int)≤y6.2.1∧(y6.2.1≤y6.2.1∧((y6.2.1*((8:Nat):Int))≤(140737488355328:Int)∧y6.2.1≤(9223372036854775807:Int))))∧(((0:Int)≤x2∧x2 < ((List.length v14:Nat):Int))∧(Int.toNat x2 < List.length v14∧((((v9+List.length v16)*48)≤140737488355328∧(v9+List.length v16)≤9223372036854775807)∧(Zaq.pre (y6.2.2.2.2.1,())∧cond (v17.2 != (0:Int)) (Q (([]:List (List (Zc))),(3:Int))) (((!(y6.2.2.1 == (0:Int)))=true→((!(y6.2.2.1 == (0:Int)))=true∧True))∧(((y6.2.2.1 == (0:Int))=false→(!(y6.2.2.1 == (0:Int)))=true)∧cond ((y6.2.2.1 == (0:Int))||(y6.2.2.2.1 == (0:Int))) (Lp (σ:=Int×List (List (Zc))) (fun y8 R8=>let v21:=ZM.fn ((y6.2.1 - (1:Int)),(y8.1,()));cond (decide (y8.1 < v17.1)) ((((v18+List.length x1)*48)≤140737488355328∧(v18+List.length x1)≤9223372036854775807)∧Lp (σ:=Int×List (Zc)) (fun y10 R10=>let v20:=List.getD (y6.2.2.2.2.2++v16) (Int.toNat y10.1) Za;let v22:=Zaa.fn (v20,(x2,((1:Int),((1:Int),(v21,())))));cond (decide (y10.1 < ((v19:Nat):Int))) (((0:Int)≤y10.1∧y10.1 < ((v19:Nat):Int))∧(Int.toNat y10.1 < v19∧cond (v20.1 == (2:Int)) (Zr IntKind.i64 (y6.2.1 - (1:Int))∧(ZM.pre ((y6.2.1 - (1:Int)),(y8.1,()))∧(Zaa.pre (v20,(x2,((1:Int),((1:Int),(v21,())))))∧((((List.length y10.2+List.length [v22])*48)≤140737488355328∧(List.length y10.2+List.length [v22])≤9223372036854775807)∧(Zr IntKind.i64 (y10.1+(1:Int))∧R10 ((y10.1+(1:Int)),(y10.2++[v22]))))))) (Zr IntKind.i64 (y10.1+(1:Int))∧R10 ((y10.1+(1:Int)),y10.2)))) ((((List.length y8.2+List.length [y10.2])*24)≤140737488355328∧(List.length y8.2+List.length [y10.2])≤9223372036854775807)∧(Zr IntKind.i64 (y8.1+(1:Int))∧R8 ((y8.1+(1:Int)),(y8.2++[y10.2]))))) ((0:Int),(([]:List (Zc))++x1))) (ZI.pre (y8.2,())∧Q (ZI.fn (y8.2,())))) ((0:Int),([]:List (List (Zc))))) (cond (decide (y6.2.2.2.1 < y6.2.2.1)) (Lp (σ:=Int×List (List (Zc))) (fun y8 R8=>let v24:=List.getD (y6.2.2.2.2.2++v16) (Int.toNat y8.1) Za;let v26:=Zk.fn (v24.2.2,(x2,()));cond (decide (y8.1 < ((v19:Nat):Int))) (((0:Int)≤y8.1∧y8.1 < ((v19:Nat):Int))∧(Int.toNat y8.1 < v19∧(((!(v24.1 == (2:Int)))=true→((!(v24.1 == (2:Int)))=true∧True))∧(((!(v24.1 == (2:Int)))=true→((!(v24.1 == (2:Int)))=true∧True))∧(((!(v24.1 == (2:Int)))=true→((!(v24.1 == (2:Int)))=true∧((!(v24.1 == (2:Int)))=true∧((0:Int)≤x2∧x2 < ((List.length v24.2.2.1:Nat):Int)))))∧(((!(v24.1 == (2:Int)))=true→((!(v24.1 == (2:Int)))=true∧True))∧(((!(v24.1 == (2:Int)))=true→((!(v24.1 == (2:Int)))=true∧((!(v24.1 == (2:Int)))=true∧True)))∧(((v24.1 == (2:Int))=false→(!(v24.1 == (2:Int)))=true)∧cond ((v24.1 == (2:Int))||((List.getD v24.2.2.1 (Int.toNat x2) (0:Int)) != (-(1:Int)))) (Zr IntKind.i64 (y8.1+(1:Int))∧R8 ((y8.1+(1:Int)),y8.2)) (Zk.pre (v24.2.2,(x2,()))∧Lp (σ:=Int×List (List (Zc))) (fun y10 R10=>let v27:=ZM.fn ((y6.2.1 - (1:Int)),(y10.1,()));let v28:=ZE.fn ((-(-(1:Int))),(v26,((-(1:Int)),(v27,()))));cond (decide (y10.1 < v17.1)) (Zr IntKind.i64 (-(-(1:Int)))∧(Zr IntKind.i64 (y6.2.1 - (1:Int))∧(ZM.pre ((y6.2.1 - (1:Int)),(y10.1,()))∧(ZE.pre ((-(-(1:Int))),(v26,((-(1:Int)),(v27,()))))∧((((v18+List.length x1)*48)≤140737488355328∧(v18+List.length x1)≤9223372036854775807)∧Lp (σ:=Int×((List Int)×Int)×(List (Zc))×(List Int)×Int) (fun y12 R12=>let v29:=List.getD (y6.2.2.2.2.2++v16) (Int.toNat y12.1) Za;let v30:=Zaa.fn (v29,(x2,((1:Int),((1:Int),(y12.2.2.2,())))));cond (decide (y12.1 < ((v19:Nat):Int))) (((0:Int)≤y12.1∧y12.1 < ((v19:Nat):Int))∧(Int.toNat y12.1 < v19∧(Zaa.pre (v29,(x2,((1:Int),((1:Int),(y12.2.2.2,())))))∧((((List.length y12.2.2.1+List.length [v30])*48)≤140737488355328∧(List.length y12.2.2.1+List.length [v30])≤9223372036854775807)∧(Zr IntKind.i64 (y12.1+(1:Int))∧R12 ((y12.1+(1:Int)),(y12.2.1,((y12.2.2.1++[v30]),y12.2.2.2)))))))) ((((List.length y10.2+List.length [y12.2.2.1])*24)≤140737488355328∧(List.length y10.2+List.length [y12.2.2.1])≤9223372036854775807)∧(Zr IntKind.i64 (y10.1+(1:Int))∧R10 ((y10.1+(1:Int)),(y10.2++[y12.2.2.1]))))) ((0:Int),(v28,((([]:List (Zc))++x1),v28)))))))) (Zr IntKind.i64 (y8.1+(1:Int))∧R8 ((y8.1+(1:Int)),y10.2))) ((0:Int),y8.2)))))))))) (ZI.pre (y8.2,())∧Q (ZI.fn (y8.2,())))) ((0:Int),([]:List (List (Zc))))) (Lp (σ:=Int×List (List (Zc))) (fun y8 R8=>let v24:=List.getD (y6.2.2.2.2.2++v16) (Int.toNat y8.1) Za;let v26:=Zk.fn (v24.2.2,(x2,()));cond (decide (y8.1 < ((v19:Nat):Int))) (((0:Int)≤y8.1∧y8.1 < ((v19:Nat):Int))∧(Int.toNat y8.1 < v19∧(((!(v24.1 == (2:Int)))=true→((!(v24.1 == (2:Int)))=true∧True))∧(((!(v24.1 == (2:Int)))=true→((!(v24.1 == (2:Int)))=true∧True))∧(((!(v24.1 == (2:Int)))=true→((!(v24.1 == (2:Int)))=true∧((!(v24.1 == (2:Int)))=true∧((0:Int)≤x2∧x2 < ((List.length v24.2.2.1:Nat):Int)))))∧(((!(v24.1 == (2:Int)))=true→((!(v24.1 == (2:Int)))=true∧True))∧(((!(v24.1 == (2:Int)))=true→((!(v24.1 == (2:Int)))=true∧((!(v24.1 == (2:Int)))=true∧True)))∧(((v24.1 == (2:Int))=false→(!(v24.1 == (2:Int)))=true)∧cond ((v24.1 == (2:Int))||((List.getD v24.2.2.1 (Int.toNat x2) (0:Int)) != (1:Int))) (Zr IntKind.i64 (y8.1+(1:Int))∧R8 ((y8.1+(1:Int)),y8.2)) (Zk.pre (v24.2.2,(x2,()))∧Lp (σ:=Int×List (List (Zc))) (fun y10 R10=>let v27:=ZM.fn ((y6.2.1 - (1:Int)),(y10.1,()));let v31:=ZE.fn ((-(1:Int)),(v26,((1:Int),(v27,()))));cond (decide (y10.1 < v17.1)) (Zr IntKind.i64 (-(1:Int))∧(Zr IntKind.i64 (y6.2.1 - (1:Int))∧(ZM.pre ((y6.2.1 - (1:Int)),(y10.1,()))∧(ZE.pre ((-(1:Int)),(v26,((1:Int),(v27,()))))∧((((v18+List.length x1)*48)≤140737488355328∧(v18+List.length x1)≤9223372036854775807)∧Lp (σ:=Int×((List Int)×Int)×(List (Zc))×(List Int)×Int) (fun y12 R12=>let v29:=List.getD (y6.2.2.2.2.2++v16) (Int.toNat y12.1) Za;let v30:=Zaa.fn (v29,(x2,((1:Int),((1:Int),(y12.2.2.2,())))));cond (decide (y12.1 < ((v19:Nat):Int))) (((0:Int)≤y12.1∧y12.1 < ((v19:Nat):Int))∧(Int.toNat y12.1 < v19∧(Zaa.pre (v29,(x2,((1:Int),((1:Int),(y12.2.2.2,())))))∧((((List.length y12.2.2.1+List.length [v30])*48)≤140737488355328∧(List.length y12.2.2.1+List.length [v30])≤9223372036854775807)∧(Zr IntKind.i64 (y12.1+(1:Int))∧R12 ((y12.1+(1:Int)),(y12.2.1,((y12.2.2.1++[v30]),y12.2.2.2)))))))) ((((List.length y10.2+List.length [y12.2.2.1])*24)≤140737488355328∧(List.length y10.2+List.length [y12.2.2.1])≤9223372036854775807)∧(Zr IntKind.i64 (y10.1+(1:Int))∧R10 ((y10.1+(1:Int)),(y10.2++[y12.2.2.1]))))) ((0:Int),(v31,((([]:List (Zc))++x1),v31)))))))) (Zr IntKind.i64 (y8.1+(1:Int))∧R8 ((y8.1+(1:Int)),y10.2))) ((0:Int),y8.2)))))))))) (ZI.pre (y8.2,())∧Q (ZI.fn (y8.2,())))) ((0:Int),([]:List (List (Zc)))))))))))))) ((0:Int),((0:Int),((0:Int),((0:Int),(([(Zaq.fn (y4.2,())).1]),([]:List (Zc)))))))))) ((0:Int),([]:List Int))
def Z2.wp (x0:List Zc) (x1:Int) (x2:Int) (Q:(List (List Zc))×Int→Prop):Prop:=Lp (σ:=Int×Int×(List (Zc))×(List (Zc))×(List (Zc))×List (Zc)) (fun y4 R4=>let v0:=List.getD x0 (Int.toNat y4.1) Za;let v1:=List.getD v0.2.2.1 (Int.toNat x2) (0:Int);let v3:=[(v0.1,(v0.2.1,(Zk.fn (v0.2.2,(x2,())))))];let v4:=List.getD x0 (Int.toNat y4.2.1) Za;let v5:=List.getD v4.2.2.1 (Int.toNat x2) (0:Int);let v6:=List.length y4.2.2.2.2.1;let v7:=List.length y4.2.2.2.2.2;let v8:=Z0.fn (x0,(y4.2.1,(x2,())));cond (decide (y4.1 < ((List.length x0:Nat):Int))) (((0:Int)≤y4.1∧y4.1 < ((List.length x0:Nat):Int))∧(((0:Int)≤x2∧x2 < ((List.length v0.2.2.1:Nat):Int))∧cond (v1 == (0:Int)) (Zk.pre (v0.2.2,(x2,()))∧((((List.length y4.2.2.1+List.length v3)*48)≤140737488355328∧(List.length y4.2.2.1+List.length v3)≤9223372036854775807)∧(Zr IntKind.i64 (y4.1+(1:Int))∧R4 ((y4.1+(1:Int)),(y4.2.1,((y4.2.2.1++v3),y4.2.2.2)))))) (cond (v0.1 == (1:Int)) (((!(decide (y4.2.1 < (0:Int))))=true→((!(decide (y4.2.1 < (0:Int))))=true∧Zm.pre (v1,())))∧(((!(decide (y4.2.1 < (0:Int))))=true→((!(decide (y4.2.1 < (0:Int))))=true∧((!(decide (y4.2.1 < (0:Int))))=true∧((0:Int)≤y4.2.1∧y4.2.1 < ((List.length x0:Nat):Int)))))∧(((!(decide (y4.2.1 < (0:Int))))=true→((!(decide (y4.2.1 < (0:Int))))=true∧True))∧(((!(decide (y4.2.1 < (0:Int))))=true→((!(decide (y4.2.1 < (0:Int))))=true∧True))∧(((!(decide (y4.2.1 < (0:Int))))=true→((!(decide (y4.2.1 < (0:Int))))=true∧True))∧(((!(decide (y4.2.1 < (0:Int))))=true→((!(decide (y4.2.1 < (0:Int))))=true∧((!(decide (y4.2.1 < (0:Int))))=true∧((0:Int)≤x2∧x2 < ((List.length v4.2.2.1:Nat):Int)))))∧(((!(decide (y4.2.1 < (0:Int))))=true→((!(decide (y4.2.1 < (0:Int))))=true∧True))∧(((!(decide (y4.2.1 < (0:Int))))=true→((!(decide (y4.2.1 < (0:Int))))=true∧Zm.pre (v5,())))∧(((!(decide (y4.2.1 < (0:Int))))=true→((!(decide (y4.2.1 < (0:Int))))=true∧((!(decide (y4.2.1 < (0:Int))))=true∧True)))∧((decide (y4.2.1 < (0:Int))=false→(!(decide (y4.2.1 < (0:Int))))=true)∧cond (decide (y4.2.1 < (0:Int))||decide (Zm.fn (v1,()) < Zm.fn (v5,()))) (Zr IntKind.i64 (y4.1+(1:Int))∧R4 ((y4.1+(1:Int)),(y4.1,y4.2.2))) (Zr IntKind.i64 (y4.1+(1:Int))∧R4 ((y4.1+(1:Int)),y4.2)))))))))))) (cond (v0.1 == (2:Int)) ((((List.length y4.2.2.2.1+List.length [v0])*48)≤140737488355328∧(List.length y4.2.2.2.1+List.length [v0])≤9223372036854775807)∧(Zr IntKind.i64 (y4.1+(1:Int))∧R4 ((y4.1+(1:Int)),(y4.2.1,(y4.2.2.1,((y4.2.2.2.1++[v0]),y4.2.2.2.2)))))) (cond (decide ((0:Int) < v1)) ((((v6+List.length [v0])*48)≤140737488355328∧(v6+List.length [v0])≤9223372036854775807)∧(Zr IntKind.i64 (y4.1+(1:Int))∧R4 ((y4.1+(1:Int)),(y4.2.1,(y4.2.2.1,(y4.2.2.2.1,((y4.2.2.2.2.1++[v0]),y4.2.2.2.2.2))))))) ((((v7+List.length [v0])*48)≤140737488355328∧(v7+List.length [v0])≤9223372036854775807)∧(Zr IntKind.i64 (y4.1+(1:Int))∧R4 ((y4.1+(1:Int)),(y4.2.1,(y4.2.2.1,(y4.2.2.2.1,(y4.2.2.2.2.1,(y4.2.2.2.2.2++[v0]))))))))))))) (cond (decide ((0:Int)≤y4.2.1)) (Z0.pre (x0,(y4.2.1,(x2,())))∧(ZI.pre ([v8],())∧Q (ZI.fn ([v8],())))) (((((List.length y4.2.2.2.1:Nat):Int) == (0:Int))=true→((((List.length y4.2.2.2.1:Nat):Int) == (0:Int))=true∧True))∧(((((List.length y4.2.2.2.1:Nat):Int) == (0:Int))=true→((((List.length y4.2.2.2.1:Nat):Int) == (0:Int))=true∧True))∧(((((List.length y4.2.2.2.1:Nat):Int) == (0:Int))=true→((((List.length y4.2.2.2.1:Nat):Int) == (0:Int))=true∧True))∧((((((List.length y4.2.2.2.1:Nat):Int) == (0:Int))&&(!(((v6:Nat):Int) == (0:Int))))=true→(((((List.length y4.2.2.2.1:Nat):Int) == (0:Int))&&(!(((v6:Nat):Int) == (0:Int))))=true∧True))∧((((((List.length y4.2.2.2.1:Nat):Int) == (0:Int))&&(!(((v6:Nat):Int) == (0:Int))))=true→(((((List.length y4.2.2.2.1:Nat):Int) == (0:Int))&&(!(((v6:Nat):Int) == (0:Int))))=true∧True))∧(((((List.length y4.2.2.2.1:Nat):Int) == (0:Int))=true→((((List.length y4.2.2.2.1:Nat):Int) == (0:Int))=true∧((((v6:Nat):Int) == (0:Int))=false→((((List.length y4.2.2.2.1:Nat):Int) == (0:Int))&&(!(((v6:Nat):Int) == (0:Int))))=true)))∧(((((List.length y4.2.2.2.1:Nat):Int) == (0:Int))=true→(((List.length y4.2.2.2.1:Nat):Int) == (0:Int))=true)∧cond ((((List.length y4.2.2.2.1:Nat):Int) == (0:Int))&&((((v6:Nat):Int) == (0:Int))||(((v7:Nat):Int) == (0:Int)))) (ZI.pre ([y4.2.2.1],())∧Q (ZI.fn ([y4.2.2.1],()))) (Lp (σ:=Int×Bool) (fun y6 R6=>let v11:=List.getD y4.2.2.2.2.1 (Int.toNat y6.1) Za;let v12:=List.getD v11.2.2.1 (Int.toNat x2) (0:Int);cond (decide (y6.1 < ((v6:Nat):Int))) (((0:Int)≤y6.1∧y6.1 < ((v6:Nat):Int))∧(Int.toNat y6.1 < v6∧Lp (σ:=Int×Bool) (fun y8 R8=>let v13:=List.getD y4.2.2.2.2.2 (Int.toNat y8.1) Za;cond (decide (y8.1 < ((v7:Nat):Int))) (((0:Int)≤y8.1∧y8.1 < ((v7:Nat):Int))∧(Int.toNat y8.1 < v7∧((y8.2=true→(y8.2=true∧True))∧((y8.2=true→(y8.2=true∧True))∧((y8.2=true→(y8.2=true∧(y8.2=true∧((0:Int)≤x2∧x2 < ((List.length v11.2.2.1:Nat):Int)))))∧((y8.2=true→(y8.2=true∧True))∧((y8.2=true→(y8.2=true∧True))∧((y8.2=true→(y8.2=true∧True))∧(((y8.2&&(!(v12 == (1:Int))))=true→((y8.2&&(!(v12 == (1:Int))))=true∧True))∧(((y8.2&&(!(v12 == (1:Int))))=true→((y8.2&&(!(v12 == (1:Int))))=true∧True))∧(((y8.2&&(!(v12 == (1:Int))))=true→((y8.2&&(!(v12 == (1:Int))))=true∧((y8.2&&(!(v12 == (1:Int))))=true∧((0:Int)≤x2∧x2 < ((List.length v13.2.2.1:Nat):Int)))))∧(((y8.2&&(!(v12 == (1:Int))))=true→((y8.2&&(!(v12 == (1:Int))))=true∧True))∧(((y8.2&&(!(v12 == (1:Int))))=true→((y8.2&&(!(v12 == (1:Int))))=true∧True))∧((y8.2=true→(y8.2=true∧((v12 == (1:Int))=false→(y8.2&&(!(v12 == (1:Int))))=true)))∧((y8.2=true→y8.2=true)∧(Zr IntKind.i64 (y8.1+(1:Int))∧R8 ((y8.1+(1:Int)),(y8.2&&((v12 == (1:Int))||((List.getD v13.2.2.1 (Int.toNat x2) (0:Int)) == (-(1:Int)))))))))))))))))))))) (Zr IntKind.i64 (y6.1+(1:Int))∧R6 ((y6.1+(1:Int)),y8.2))) ((0:Int),y6.2))) (cond y6.2 (Lp (σ:=Int×List (Zc)) (fun y8 R8=>let v15:=List.getD y4.2.2.2.2.1 (Int.toNat y8.1) Za;let v18:=List.getD v15.2.2.1 (Int.toNat x2) (0:Int);let v20:=Zk.fn (v15.2.2,(x2,()));cond (decide (y8.1 < ((v6:Nat):Int))) (((0:Int)≤y8.1∧y8.1 < ((v6:Nat):Int))∧(Int.toNat y8.1 < v6∧Lp (σ:=Int×List (Zc)) (fun y10 R10=>let v16:=List.getD y4.2.2.2.2.2 (Int.toNat y10.1) Za;let v17:=List.getD v16.2.2.1 (Int.toNat x2) (0:Int);let v19:=Zk.fn (v16.2.2,(x2,()));let v22:=[((0:Int),((0:Int),(ZE.fn (v18,(v19,((-v17),(v20,())))))))];cond (decide (y10.1 < ((v7:Nat):Int))) (((0:Int)≤y10.1∧y10.1 < ((v7:Nat):Int))∧(Int.toNat y10.1 < v7∧(((0:Int)≤x2∧x2 < ((List.length v15.2.2.1:Nat):Int))∧(Zk.pre (v16.2.2,(x2,()))∧(((0:Int)≤x2∧x2 < ((List.length v16.2.2.1:Nat):Int))∧(Zr IntKind.i64 (-v17)∧(Zk.pre (v15.2.2,(x2,()))∧(ZE.pre (v18,(v19,((-v17),(v20,()))))∧((((List.length y10.2+List.length v22)*48)≤140737488355328∧(List.length y10.2+List.length v22)≤9223372036854775807)∧(Zr IntKind.i64 (y10.1+(1:Int))∧R10 ((y10.1+(1:Int)),(y10.2++v22)))))))))))) (Zr IntKind.i64 (y8.1+(1:Int))∧R8 ((y8.1+(1:Int)),y10.2))) ((0:Int),y8.2))) (ZI.pre ([y8.2],())∧Q (ZI.fn ([y8.2],())))) ((0:Int),y4.2.2.1)) (Zt.pre (x0,(y4.2.2.1,(x2,())))∧Q (Zt.fn (x0,(y4.2.2.1,(x2,()))))))) ((0:Int),(((List.length y4.2.2.2.1:Nat):Int) == (0:Int))))))))))))) ((0:Int),((-(1:Int)),(([]:List (Zc)),(([]:List (Zc)),(([]:List (Zc)),([]:List (Zc)))))))
def Znd (v:Nat) (l:Int) (c:Zc):Zc:=(c.1,c.2.1*ZbS v l c,((Zci (ZbS v l c) c.2.2 0 c.2.2).1.set v ((Zf v c).tdiv (Zbg (Zf v c))),(Zci (ZbS v l c) c.2.2 0 c.2.2).2))
theorem Zc2 (f:Int) (l:Lin):Zci f l 0 l=(l.1.map fun n=>f*n,f*l.2):=by
 unfold Zci
 congr 1
 ·apply List.ext_getElem (by simp)
  intro i h1 h2
  simp only [List.length_map,List.length_range] at h1
  simp only [List.getElem_map,List.getElem_range]
  rw [ZX h1];omega
 ·omega
theorem ZnW {l:List Int} {i:Nat} {x:Int}:ZcT (l.set i x) i=ZcT l i:=by
 unfold ZcT
 rw [List.take_set_of_le (Nat.le_refl i),List.drop_set_of_lt (Nat.lt_succ_self i)]
theorem Ztr {l:List Int} {i:Nat} {g:Int→Int}:ZcT (l.map g) i=(ZcT l i).map g:=by
 unfold ZcT
 rw [List.map_append,List.map_take,List.map_drop]
theorem Zsr {n i:Nat} {x:Int} (h:i < n):ZcT (List.replicate n x) i=List.replicate (n - 1) x:=by
 unfold ZcT
 rw [List.take_replicate,List.drop_replicate,List.replicate_append_replicate]
 congr 1;omega
theorem Zlu {a:Int} (h:a≠0):a.tdiv (Zbg a)=ZmQ a:=by
 unfold ZmQ Zbg
 split
 ·rw [show max a (-a)=-a by omega,Int.tdiv_neg,Int.tdiv_self h]
 ·rw [show max a (-a)=a by omega,Int.tdiv_self h]
theorem ZiF (v:Nat) (l:Int) (c:Zc):Za0 v (Znd v l c)=Zjh v l c:=by
 unfold Za0 Znd Zjh
 simp only [Zc2,ZnW,Ztr]
 rfl
theorem Zh9 {v:Nat} {l:Int} {c:Zc} (h:v < c.2.2.1.length) (h0:Zf v c≠0):Zf v (Znd v l c)=ZmQ (Zf v c):=by
 show List.getD (List.set (Zci (ZbS v l c) c.2.2 0 c.2.2).1 v ((Zf v c).tdiv (Zbg (Zf v c)))) v 0=_
 rw [Zc2,List.getD_eq_getElem?_getD,List.getElem?_set]
 simp [h,Zlu h0]
def Zea (N v:Nat) (l:Int):Zc:=(2,l,(List.replicate N (0:Int)).set v 1,0)
theorem Zik {N v:Nat} {l:Int} (h:v < N):Za0 v (Zea N v l)=(List.replicate (N - 1) 0,0):=by
 unfold Za0 Zea
 simp only [ZnW,Zsr h]
theorem Ziv {N v:Nat} {l:Int} (h:v < N):Zf v (Zea N v l)=1:=by
 show List.getD (List.set (List.replicate N (0:Int)) v 1) v 0=1
 rw [List.getD_eq_getElem?_getD,List.getElem?_set]
 simp [h]
theorem Zs5 {k:Nat} {w:Lin} (h:w.1.length=k):Zci 1 (List.replicate k 0,0) 1 w=w:=by
 obtain ⟨C,K⟩:=w
 unfold Zci
 congr 1
 ·apply List.ext_getElem (by simpa using h.symm)
  intro i h1 h2
  simp only [List.length_map,List.length_range,List.length_replicate] at h1
  simp only [List.getElem_map,List.getElem_range]
  rw [ZX (by simpa using h1),ZX h2];simp
 ·simp
def ZqV (v:Nat) (w:Lin) (c:Zc):Zc:=(c.1,c.2.1*1,Zci 1 (Za0 v c) (Zf v c*1) w)
theorem Zsg {v:Nat} {l:Int} {w:Lin} {c:Zc} (h:v < c.2.2.1.length) (h0:Zf v c≠0):ZqV v w (Znd v l c)=Zu4 v l w c:=by
 unfold ZqV Zu4
 rw [ZiF,Zh9 h h0,Int.mul_one,Int.mul_one]
 rfl
theorem Zpj {N v:Nat} {l:Int} {w:Lin} (h:v < N) (hw:w.1.length=N - 1):ZqV v w (Zea N v l)=(2,l,w):=by
 unfold ZqV
 rw [Zik h,Ziv h,Int.mul_one,Int.mul_one,Zs5 hw]
 rfl
theorem Zul {p : List Zc} {n : Int} {v : Nat} (h : pieceN p n) (hv : (v : Int) < n) {l : Int} {w : Lin} (hw : w.1.length = n.toNat - 1) (all : Bool) :
 ZbL v p++((((Zx v p).map (Znd v l))++[Zea n.toNat v l]).filter fun c=>all||decide (c.1=2)).map (ZqV v w)=ZeU v p l w all:=by
 unfold ZeU
 rw [List.filter_append,List.map_append,← List.append_assoc]
 congr 1
 ·congr 1
  rw [List.filter_map,List.map_map]
  have e:((fun c:Zc=>all||decide (c.1=2))∘Znd v l)=fun c:Zc=>all||decide (c.1=2):=rfl
  rw [e]
  apply List.map_congr_left
  intro c hc
  have hcp:=Za5.1 (List.mem_filter.1 hc).1
  have:=(h.c hcp.1).2
  exact Zsg (by omega) hcp.2
 ·rw [List.filter_cons_of_pos (by simp [Zea]),List.filter_nil]
  simp only [List.map_cons,List.map_nil]
  rw [Zpj (by omega) hw]
theorem ZiT {α β:Type} (f:α→Bool) (g:α→List β):∀ l:List α,(l.flatMap fun x=>if f x=true then g x else [])=(l.filter f).flatMap g
 | []=>rfl
 | x::l=>by
   rw [List.flatMap_cons,ZiT f g l]
   by_cases hf:f x=true
   ·rw [if_pos hf,List.filter_cons_of_pos hf,List.flatMap_cons]
   ·rw [if_neg hf,List.filter_cons_of_neg hf,List.nil_append]
theorem ZjH (v:Nat) (q:List Zc) (c:Zc):Zx v (q++[c])=Zx v q++if Zf v c≠0 then [c] else []:=by
 unfold Zx
 rw [List.filter_append]
 congr 1
 by_cases h:Zf v c≠0<;>simp [h]
theorem Zqa (v:Nat) (q:List Zc) (c:Zc):(ZbQ v (q++[c])).length=(ZbQ v q).length+if Zf v c≠0∧c.1≠1∧c.1≠2∧0 < Zf v c then 1 else 0:=by
 unfold ZbQ
 rw [List.filter_append,List.length_append]
 congr 1
 by_cases h:Zf v c≠0∧c.1≠1∧c.1≠2∧0 < Zf v c
 ·rw [if_pos h,List.filter_cons_of_pos (by simpa using h)];rfl
 ·rw [if_neg h,List.filter_cons_of_neg (by simpa using h)];rfl
theorem Zs2 (v:Nat) (q:List Zc) (c:Zc):(upP v (q++[c])).length=(upP v q).length+if Zf v c≠0∧c.1≠1∧c.1≠2∧¬ 0 < Zf v c then 1 else 0:=by
 unfold upP
 rw [List.filter_append,List.length_append]
 congr 1
 by_cases h:Zf v c≠0∧c.1≠1∧c.1≠2∧¬ 0 < Zf v c
 ·rw [if_pos h,List.filter_cons_of_pos (by simpa using h)];rfl
 ·rw [if_neg h,List.filter_cons_of_neg (by simpa using h)];rfl
theorem Zrx {c:Zc} (h:Zi c=true) (h2:c.1=2):1≤c.2.1∧c.2.1≤512:=by
 unfold Zi at h
 rw [if_neg (by omega),if_pos h2] at h
 simp only [Bool.and_eq_true,decide_eq_true_iff] at h
 omega
theorem ZkQ {c:Zc} {n:Int} {v:Nat} {l:Int} (h:Zi c=true∧(c.2.2.1.length:Int)=n) (hv:(v:Int) < n) (hn:n≤12) (hf:1≤ZbS v l c∧ZbS v l c≤512) (h0:Zf v c≠0):Zwa n.toNat (Znd v l c):=by
 have hM:-512≤c.2.1∧c.2.1≤512:=by
  rcases Zfa h.1 with h1 | h1 | ⟨h1,_,_⟩
  ·have:=h.1;unfold Zi at this;rw [if_pos (.inl h1)] at this;simp only [Bool.and_eq_true,beq_iff_eq] at this;omega
  ·have:=h.1;unfold Zi at this;rw [if_pos (.inr h1)] at this;simp only [Bool.and_eq_true,beq_iff_eq] at this;omega
  ·have:=Zrx h.1 h1;omega
 have hm:=Zc5 (n:=512) (m:=512) (by omega) (by omega) hM.1 hM.2 (show -512≤ZbS v l c by omega) hf.2
 have hl:=ZaL.b (Zi.lin h.1)
 have key:∀ x:Int,(-1048576≤x∧x≤1048576)→-536870912≤ZbS v l c*x∧ZbS v l c*x≤536870912:=fun x hx =>
  Zc5 (n:=512) (m:=1048576) (by omega) (by omega) (by omega) hf.2 hx.1 hx.2
 have hlen:(Znd v l c).2.2.1.length=n.toNat:=by
  show ((Zci (ZbS v l c) c.2.2 0 c.2.2).1.set v _).length=_
  rw [Zc2,List.length_set,List.length_map];omega
 refine ⟨by show -1048576≤c.2.1*ZbS v l c∧c.2.1*ZbS v l c≤1048576;omega,⟨by show (Znd v l c).2.2.1.length≤_;omega,fun x hx=>?_,?_⟩,hlen⟩
 ·have hx':x∈(Zci (ZbS v l c) c.2.2 0 c.2.2).1.set v ((Zf v c).tdiv (Zbg (Zf v c))):=hx
  rw [Zlu h0,Zc2] at hx'
  rcases List.mem_or_eq_of_mem_set hx' with hx' | rfl
  ·simp only [List.mem_map] at hx'
   obtain ⟨y,hy,rfl⟩:=hx'
   have:=key y (hl.2.1 y hy)
   omega
  ·unfold ZmQ;split<;>omega
 ·show -4294967296≤(Zci (ZbS v l c) c.2.2 0 c.2.2).2∧(Zci (ZbS v l c) c.2.2 0 c.2.2).2≤4294967296
  rw [Zc2]
  have:=key _ hl.2.2
  simp only;omega
theorem ZrE {N v:Nat} {l:Int} (hN:N≤12) (hl:1≤l∧l≤512):Zwa N (Zea N v l):=by
 refine ⟨by show -1048576≤l∧l≤1048576;omega,⟨by show ((List.replicate N (0:Int)).set v 1).length≤_;rw [List.length_set,List.length_replicate];omega,fun x hx=>?_,by show (-4294967296:Int)≤0∧(0:Int)≤4294967296;omega⟩,by show ((List.replicate N (0:Int)).set v 1).length=N;rw [List.length_set,List.length_replicate]⟩
 have hx':x∈(List.replicate N (0:Int)).set v 1:=hx
 rcases List.mem_or_eq_of_mem_set hx' with hx' | rfl
 ·rw [(List.mem_replicate.1 hx').2];omega
 ·omega
theorem ZfB {β:Type} (g:Nat→β) (j:Nat):(List.range (j+1)).map g=(List.range j).map g++[g j]:=by
 rw [List.range_succ,List.map_append];rfl
theorem Zt.spec (p free:List Zc) (v:Int) (hp:Zt.pre (p,free,v,())):Zt.wp p free v (fun r=>r=Zt.fn (p,free,v,())):=by
 obtain ⟨⟨n,hN,hv0,hv1⟩,hfree,hne,hno1⟩:=hp
 simp only at hN hv0 hv1 hfree hne hno1
 obtain ⟨V,rfl⟩:∃ V:Nat,v=(V:Int):=⟨v.toNat,by omega⟩
 simp only [Int.toNat_natCast] at hfree hne hno1
 have hn12:=hN.2.2.2
 have h400:=hN.1
 have hVn:V < n.toNat:=by omega
 have hfn:Zt.fn (p,free,(V:Int),())=ZvU p free V:=rfl
 have hwo:∀ l:Lin,Zk.fn (l,(V:Int),())=(ZcT l.1 V,l.2):=fun _=>rfl
 have hpu:∀ c w,Zaa.fn (c,(V:Int),1,1,w,())=ZqV V w c:=fun _ _=>rfl
 have hmx:∀ a l b m,ZE.fn (a,l,b,m,())=Zci a l b m:=fun _ _ _ _=>rfl
 have hma:∀ l,ZI.fn (l,())=Zed l:=fun _=>rfl
 have hnu:∀ a b,ZM.fn (a,b,())=(List.replicate a.toNat 0,b):=fun _ _=>rfl
 have hlc:∀ l,Zaq.fn (l,())=ZiW l:=fun _=>rfl
 simp only [Zt.wp,hfn,Zm.fn,hwo,hpu,hmx,hma,hnu,hlc,Int.toNat_natCast]
 have hszc:∀ c∈p,Zm.pre (Zf V c,()):=fun c hc=>by
  have:=Zcr (hN.c hc).1 V
  exact ⟨by show -2305843009213693952≤Zf V c;omega,by show Zf V c≤2305843009213693952;omega⟩
 have hpartlen:(Zx V p).length≤400:=Nat.le_trans (List.length_filter_le _ _) h400
 refine Lp.flt p Za [] (fun jc=>decide (Zf V jc.2≠0)) (fun jc=>Zbg (Zf V jc.2)) (by omega) (fun i t R hi hi' hf htl h1 h2=>?_) (fun R _=>?_)
 ·have hm:=Zj (d:=Za) hi
  simp only [decide_eq_true hi',Int.toNat_natCast,cond_true]
  obtain ⟨c,hq⟩:∃ c,p.getD i Za=c:=⟨_,rfl⟩
  simp only [hq] at hm h1 h2 ⊢
  have hlen:(V:Int) < (c.2.2.1.length:Int):=by have:=(hN.c hm).2;omega
  have hcoef:c.2.2.1.getD V 0=Zf V c:=rfl
  simp only [hcoef,List.length_nil,Nat.zero_add] at htl ⊢
  refine ⟨⟨by omega,hi'⟩,⟨by omega,hlen⟩,?_⟩
  by_cases h0:Zf V c=0
  ·rw [show (Zf V c != 0)=false by simpa using h0,cond_false]
   exact ⟨hf,h2 (by simpa using h0)⟩
  ·rw [show (Zf V c != 0)=true by simpa using h0,cond_true]
   exact ⟨⟨by omega,hlen⟩,hszc c hm,⟨by simp only [List.length_singleton];omega,by simp only [List.length_singleton];omega⟩,hf,h1 (by simpa using h0)⟩
 simp only [Int.lt_irrefl,decide_false,cond_false,List.nil_append]
 have hall:((Zbo Za p).filter fun jc=>decide (Zf V jc.2≠0)).map (fun jc=>Zbg (Zf V jc.2))=(Zx V p).map fun c=>Zbg (Zf V c):=ZdL Za p (fun c=>decide (Zf V c≠0)) (fun c=>Zbg (Zf V c))
 simp only [hall]
 have hL:ZiW ((Zx V p).map fun c=>Zbg (Zf V c))=Zbx V p:=rfl
 simp only [hL]
 have hres:ZvU p free V=if (Zbx V p).2≠0 then ([],3) else if (ZeX V p (Zbx V p).1).2≠0 then ([],3)
  else Zed (ZbY V p ((p.getD 0 Za).2.2.1.length - 1) (Zbx V p).1 (ZeX V p (Zbx V p).1).1.toNat):=rfl
 rw [hres]
 refine ⟨fun x hx=>?_,?_⟩
 ·obtain ⟨c,hc,rfl⟩:=List.mem_map.1 hx
  have:=Zja (Zcr (hN.c (Za5.1 hc).1).1 V)
  omega
 by_cases hl0:(Zbx V p).2=0
 rotate_left
 ·rw [show ((Zbx V p).2 != 0)=true by simpa using hl0,cond_true,if_pos hl0]
 rw [show ((Zbx V p).2 != 0)=false by simpa using hl0,cond_false,if_neg (by simpa using hl0)]
 obtain ⟨_,hl1,hl512⟩:=ZfG hl0
 have hfac:∀ c∈Zx V p,1≤ZbS V (Zbx V p).1 c∧ZbS V (Zbx V p).1 c≤512:=fun c hc=>⟨(Zej hl0 hc).2.1,(Zej hl0 hc).2.2.1⟩
 obtain ⟨l,hl⟩:∃ l,(Zbx V p).1=l:=⟨_,rfl⟩
 simp only [hl] at hl1 hl512 hfac ⊢
 refine Lp.iter p.length (fun i z=>z=((i:Int),(if Zx V (p.take i)=[] then (0:Int) else n),((ZbQ V (p.take i)).length:Int),((upP V (p.take i)).length:Int),l::((Zx V (p.take i)).filter fun c=>decide (c.1=2)).map (fun c=>c.2.1*ZbS V l c),(Zx V (p.take i)).map (Znd V l))) (by simp [Zx,ZbQ,upP]) ?_
 rintro i z hle rfl R1 hR1
 by_cases e:i < p.length
 ·have e':(i:Int) < (p.length:Int):=by omega
  have hm:=Zj (d:=Za) e
  have hR1':=hR1 e _ rfl
  rw [ZbC (d:=Za) e,ZjH,Zqa,Zs2] at hR1'
  simp only [decide_eq_true e',Int.toNat_natCast,cond_true]
  obtain ⟨c,hq⟩:∃ c,p.getD i Za=c:=⟨_,rfl⟩
  simp only [hq] at hm hR1' ⊢
  have hcn:=hN.c hm
  have hlen:(V:Int) < (c.2.2.1.length:Int):=by have:=hcn.2;omega
  have hcoef:c.2.2.1.getD V 0=Zf V c:=rfl
  simp only [hcoef]
  have hfi:Zr IntKind.i64 ((i:Int)+1):=⟨by omega,by omega⟩
  refine ⟨⟨by omega,e'⟩,⟨by omega,hlen⟩,?_⟩
  by_cases h0:Zf V c=0
  ·rw [show (Zf V c == 0)=true by simpa using h0,cond_true]
   have hif:(if Zf V c≠0 then [c] else [])=([]:List Zc):=if_neg (by simpa using h0)
   have hif1:(if Zf V c≠0∧c.1≠1∧c.1≠2∧0 < Zf V c then 1 else 0)=0:=if_neg (fun h=>h.1 h0)
   have hif2:(if Zf V c≠0∧c.1≠1∧c.1≠2∧¬ 0 < Zf V c then 1 else 0)=0:=if_neg (fun h=>h.1 h0)
   rw [hif,hif1,hif2,List.append_nil] at hR1'
   exact ⟨hfi,hR1'⟩
  ·rw [show (Zf V c == 0)=false by simpa using h0,cond_false]
   have hcp:c∈Zx V p:=Za5.2 ⟨hm,h0⟩
   obtain ⟨f1,f2⟩:=hfac c hcp
   have hab:=Zja (Zcr hcn.1 V)
   have ha1:Zbg (Zf V c)≠0:=fun h=>h0 (Zqq.1 h)
   have hmed:=ZkQ hcn (by omega) hn12 ⟨f1,f2⟩ h0
   have hc1:=hno1 c hcp
   have hlq:(Zx V (p.take i)).length≤i:=Nat.le_trans (List.length_filter_le _ _) (by rw [List.length_take];omega)
   have hlow:(ZbQ V (p.take i)).length≤i:=Nat.le_trans (List.length_filter_le _ _) (by rw [List.length_take];omega)
   have hup:(upP V (p.take i)).length≤i:=Nat.le_trans (List.length_filter_le _ _) (by rw [List.length_take];omega)
   have hdq:=List.length_filter_le (fun c:Zc=>decide (c.1=2)) (Zx V (p.take i))
   have hif:(if Zf V c≠0 then [c] else [])=[c]:=if_pos h0
   rw [hif,if_neg (show ¬ Zx V (p.take i)++[c]=[] by simp)] at hR1'
   have hfacq:l.tdiv (Zbg (Zf V c))=ZbS V l c:=rfl
   have hscl:((c.1,c.2.1*ZbS V l c,(Zci (ZbS V l c) c.2.2 0 c.2.2).1.set V ((Zf V c).tdiv (Zbg (Zf V c))),(Zci (ZbS V l c) c.2.2 0 c.2.2).2):Zc)=Znd V l c:=rfl
   have hslen:((Zci (ZbS V l c) c.2.2 0 c.2.2).1.set V ((Zf V c).tdiv (Zbg (Zf V c)))).length=n.toNat:=hmed.2.2
   have hmlen:(Zci (ZbS V l c) c.2.2 0 c.2.2).1.length=n.toNat:=by rw [List.length_set] at hslen;exact hslen
   have hMf:Zr IntKind.i64 (c.2.1*ZbS V l c):=by have:=hmed.1;have h:-1048576≤c.2.1*ZbS V l c∧c.2.1*ZbS V l c≤1048576:=this;exact ⟨by omega,by omega⟩
   have hsg:Zr IntKind.i64 ((Zf V c).tdiv (Zbg (Zf V c))):=by rw [Zlu h0];unfold ZmQ;split<;>exact ⟨by omega,by omega⟩
   have hvs:=ZfL hcn.1
   simp only [hfacq,hscl,hslen,hmlen]
   refine ⟨hszc c hm,⟨ha1,⟨by omega,by omega⟩⟩,hMf,⟨⟨by show -1048576≤ZbS V l c;omega,by show ZbS V l c≤1048576;omega⟩,hvs,⟨by show (-1048576:Int)≤0;omega,by show (0:Int)≤1048576;omega⟩,hvs,rfl⟩,hszc c hm,⟨ha1,hsg⟩,⟨by omega,by omega⟩,by omega,⟨by simp only [List.length_singleton,List.length_map];omega,by simp only [List.length_singleton,List.length_map];omega⟩,?_⟩
   rw [List.map_append,List.map_cons,List.map_nil,List.filter_append] at hR1'
   have hnn:((n.toNat:Nat):Int)=n:=by omega
   by_cases h2:c.1=2
   ·rw [show (c.1 == 2)=true by simpa using h2,cond_true]
    rw [if_neg (fun h=>h.2.2.1 h2),if_neg (fun h=>h.2.2.1 h2),List.filter_cons_of_pos (by simpa using h2),List.filter_nil,List.map_append] at hR1'
    refine ⟨⟨by simp only [List.length_cons,List.length_nil,List.length_map];omega,by simp only [List.length_cons,List.length_nil,List.length_map];omega⟩,hfi,?_⟩
    rw [hnn]
    exact hR1'
   ·rw [show (c.1 == 2)=false by simpa using h2,cond_false]
    rw [List.filter_cons_of_neg (by simpa using h2),List.filter_nil,List.append_nil] at hR1'
    by_cases hpos:0 < Zf V c
    ·rw [decide_eq_true hpos,cond_true]
     rw [if_pos ⟨h0,hc1,h2,hpos⟩,if_neg (fun h=>h.2.2.2 hpos)] at hR1'
     refine ⟨⟨by omega,by omega⟩,hfi,?_⟩
     rw [hnn]
     exact hR1'
    ·rw [decide_eq_false hpos,cond_false]
     rw [if_neg (fun h=>hpos h.2.2.2),if_pos ⟨h0,hc1,h2,hpos⟩] at hR1'
     refine ⟨⟨by omega,by omega⟩,hfi,?_⟩
     rw [hnn]
     exact hR1'
 have hip:i=p.length:=by omega
 subst hip
 simp only [Int.lt_irrefl,decide_false,cond_false,List.take_length,if_neg hne]
 obtain ⟨N,rfl⟩:∃ N:Nat,n=(N:Int):=⟨n.toNat,by omega⟩
 simp only [Int.toNat_natCast] at hVn ⊢
 have hwh:(((2:Int),(l,((List.set (List.replicate N (0:Int)) V (1:Int)),(0:Int)))):Zc)=Zea N V l:=rfl
 have hdd:ZiW (l::((Zx V p).filter fun c=>decide (c.1=2)).map (fun c=>c.2.1*ZbS V l c))=ZeX V p l:=rfl
 simp only [hwh,hdd,List.length_replicate]
 have hdq:=List.length_filter_le (fun c:Zc=>decide (c.1=2)) (Zx V p)
 refine ⟨⟨by omega,by omega,by omega,by omega⟩,⟨by omega,by omega⟩,hVn,⟨by simp only [List.length_singleton,List.length_map];omega,by simp only [List.length_singleton,List.length_map];omega⟩,fun x hx=>?_,?_⟩
 ·rcases List.mem_cons.1 hx with rfl | hx
  ·omega
  ·obtain ⟨c,hc,rfl⟩:=List.mem_map.1 hx
   obtain ⟨hc,_⟩:=List.mem_filter.1 hc
   obtain ⟨f1,f2⟩:=hfac c hc
   have:=Ztg (ZiV (hN.c (Za5.1 hc).1).1) (b:=ZbS V l c) (by omega)
   omega
 by_cases hd0:(ZeX V p l).2=0
 rotate_left
 ·rw [show ((ZeX V p l).2 != 0)=true by simpa using hd0,cond_true,if_pos hd0]
 rw [show ((ZeX V p l).2 != 0)=false by simpa using hd0,cond_false,if_neg (by simpa using hd0)]
 obtain ⟨hd1,hd512,_,_⟩:=Zny hd0
 obtain ⟨d,hd⟩:∃ d:Nat,(ZeX V p l).1=(d:Int):=⟨(ZeX V p l).1.toNat,by omega⟩
 simp only [hd,Int.toNat_natCast] at hd1 hd512 ⊢
 have hlen0:(p.getD 0 Za).2.2.1.length=N:=by
  have hp0:0 < p.length:=by
   rcases hp0:p with _ | ⟨c,q⟩
   ·rw [hp0] at hne;exact absurd rfl hne
   ·simp
  have:=(hN.c (Zj (d:=Za) hp0)).2
  omega
 rw [hlen0]
 have hN12:N≤12:=by omega
 have hputs:∀ (w:Lin) (all:Bool),w.1.length=N - 1→free++((((Zx V p).map (Znd V l))++[Zea N V l]).filter fun c=>all||decide (c.1=2)).map (ZqV V w)=ZeU V p l w all:=fun w all hw=>by
  rw [hfree]
  exact Zul hN (by omega) hw all
 have hfl:free.length≤400:=by rw [hfree];exact Nat.le_trans Zcm h400
 obtain ⟨W,hW⟩:∃ W,(Zx V p).map (Znd V l)++[Zea N V l]=W:=⟨_,rfl⟩
 have hWlen:W.length≤401:=by rw [← hW];simp;omega
 have hWmed:∀ c∈W,Zwa N c∧(-1048576≤Zf V c∧Zf V c≤1048576):=fun c hc=>by
  rw [← hW] at hc
  rcases List.mem_append.1 hc with hc | hc
  ·obtain ⟨c',hc',rfl⟩:=List.mem_map.1 hc
   have hcp:=Za5.1 hc'
   have hcn:=hN.c hcp.1
   refine ⟨ZkQ hcn (by omega) hn12 (hfac c' hc') hcp.2,?_⟩
   rw [Zh9 (by have:=hcn.2;omega) hcp.2]
   unfold ZmQ;split<;>omega
  ·rw [List.mem_singleton.1 hc]
   refine ⟨ZrE hN12 ⟨hl1,hl512⟩,?_⟩
   rw [Ziv hVn];omega
 simp only [hW] at hputs ⊢
 have hgood:=ZfC hN (v:=V) (by omega) hl0 (d:=d) (by omega)
 simp only [hl,Int.toNat_natCast] at hgood
 have hpre:∀ L,L=ZbY V p (N - 1) l d→ZI.pre (L,()):=fun L hL=>by
  rw [hL]
  exact ⟨Nat.le_trans hgood.1 (by omega),fun q hq=>⟨(hgood.2 q hq).D.1,_,(hgood.2 q hq).D.2⟩⟩
 have hnum:∀ j:Nat,j≤512→ZM.pre ((N:Int) - 1,(j:Int),()):=fun j _=>⟨by show (0:Int)≤(N:Int) - 1;omega,by show (N:Int) - 1≤1048576;omega⟩
 have hNt:((N:Int) - 1).toNat=N - 1:=by omega
 simp only [hNt]
 refine ⟨fun h=>⟨h,trivial⟩,fun h=>by rw [h];rfl,?_⟩
 by_cases hAB:ZbQ V p=[]∨upP V p=[]
 ·have hc:(((ZbQ V p).length:Int) == 0||((upP V p).length:Int) == 0)=true:=by
   rcases hAB with h | h<;>simp [h]
  rw [hc,cond_true]
  have hT:ZbY V p (N - 1) l d=(List.range d).map fun (j:Nat)=>ZeU V p l (List.replicate (N - 1) 0,(j:Int)) false:=by
   unfold ZbY;rw [if_pos hAB]
  refine Lp.iter d (fun j z=>z=((j:Int),(List.range j).map fun (j:Nat)=>ZeU V p l (List.replicate (N - 1) 0,(j:Int)) false)) rfl ?_
  rintro j z hj rfl R2 hR2
  by_cases ej:j < d
  ·simp only [decide_eq_true (show (j:Int) < (d:Int) by omega),cond_true,List.length_nil,Nat.zero_add]
   refine ⟨⟨by omega,by omega⟩,?_⟩
   have hR2':=hR2 ej _ rfl
   rw [ZfB] at hR2'
   refine Lp.flt W Za free (fun jc=>decide (jc.2.1=2)) (fun jc=>ZqV V (List.replicate (N - 1) 0,(j:Int)) jc.2) (by omega) (fun i t R3 hi hi' hf htl h1 h2=>?_) (fun R3 _=>?_)
   ·have hm:=Zj (d:=Za) hi
    simp only [decide_eq_true hi',Int.toNat_natCast,cond_true]
    obtain ⟨c,hq⟩:∃ c,W.getD i Za=c:=⟨_,rfl⟩
    simp only [hq] at hm h1 h2 ⊢
    refine ⟨⟨by omega,hi'⟩,hi,?_⟩
    by_cases h2':c.1=2
    ·rw [show (c.1 == 2)=true by simpa using h2',cond_true]
     obtain ⟨hmed,hcf⟩:=hWmed c hm
     exact ⟨⟨by omega,by omega⟩,hnum j (by omega),⟨⟨N,hmed,by omega,by show (List.replicate (N - 1) (0:Int)).length+1=N;rw [List.length_replicate];omega,by show (0:Int)≤V;omega,by show (V:Int) < N;omega⟩,hcf,by show (-1048576:Int)≤1∧(1:Int)≤1048576;omega,.inl rfl,(Zli (n:=N - 1) (j:=j) (by omega)).small (by omega) (by omega)⟩,⟨by simp only [List.length_singleton];omega,by simp only [List.length_singleton];omega⟩,hf,h1 (by simpa using h2')⟩
    ·rw [show (c.1 == 2)=false by simpa using h2',cond_false]
     exact ⟨hf,h2 (by simpa using h2')⟩
   ·simp only [Int.lt_irrefl,decide_false,cond_false]
    have hq:=hputs (List.replicate (N - 1) 0,(j:Int)) false (by simp)
    rw [ZdL Za W (fun c=>decide (c.1=2)) (ZqV V (List.replicate (N - 1) 0,(j:Int)))]
    simp only [Bool.false_or] at hq
    rw [hq]
    exact ⟨⟨by simp only [List.length_singleton,List.length_map,List.length_range];omega,by simp only [List.length_singleton,List.length_map,List.length_range];omega⟩,⟨by omega,by omega⟩,hR2'⟩
  ·have:j=d:=by omega
   subst this
   simp only [Int.lt_irrefl,decide_false,cond_false]
   exact ⟨hpre _ hT.symm,by rw [hT]⟩
 ·have hc:(((ZbQ V p).length:Int) == 0||((upP V p).length:Int) == 0)=false:=by
   simp only [not_or] at hAB
   have h1:(ZbQ V p).length≠0:=fun h=>hAB.1 (List.eq_nil_of_length_eq_zero h)
   have h2:(upP V p).length≠0:=fun h=>hAB.2 (List.eq_nil_of_length_eq_zero h)
   simp;omega
  rw [hc,cond_false]
  have hT:ZbY V p (N - 1) l d=(ZmG V p).flatMap fun c=>(List.range d).map fun (j:Nat)=>ZeU V p l (ZdF V l c (Zgw V p) j) true:=by
   unfold ZbY;rw [if_neg hAB]
  have side:∀ (s:Int) (low:Bool),Zgw V p=low→s=(if low then 1 else -1)→W.flatMap (fun b=>if (decide (b.1≠2)&&decide (Zf V b=s))=true then (List.range d).map (fun (j:Nat)=>ZeU V p l (if low then ((Za0 V b).1.map fun n=>-1*n,-1*(Za0 V b).2+j) else ((Za0 V b).1,(Za0 V b).2+-j)) true) else [])=ZbY V p (N - 1) l d:=by
   intro s low hlow hs
   rw [hT,ZiT,← hW,List.filter_append,List.flatMap_append]
   have hw2:([Zea N V l].filter fun b=>decide (b.1≠2)&&decide (Zf V b=s))=[]:=by
    rw [List.filter_cons_of_neg (by simp [Zea])];rfl
   rw [hw2,List.flatMap_nil,List.append_nil,List.filter_map]
   unfold ZmG
   rw [List.flatMap_map]
   have hfilt:((Zx V p).filter ((fun b=>decide (b.1≠2)&&decide (Zf V b=s))∘Znd V l))=(Zx V p).filter fun c=>decide (c.1≠2∧decide (0 < Zf V c)=Zgw V p):=by
    apply List.filter_congr
    intro c hc
    have hcp:=Za5.1 hc
    have hcs:=Zh9 (l:=l) (show V < c.2.2.1.length by have:=(hN.c hcp.1).2;omega) hcp.2
    show (decide (c.1≠2)&&decide (Zf V (Znd V l c)=s))=_
    rw [hcs,hlow,hs]
    have h0:=hcp.2
    unfold ZmQ
    by_cases h2:c.1=2
    ·simp [h2]
    ·cases low with
     | true=>simp [h2];omega
     | false=>simp [h2];omega
   rw [hfilt]
   congr 1
   funext c
   rw [ZiF,hlow]
   rfl
  have hby:∀ (b:Zc) (low:Bool) (s:Int) (j:Nat),s=(if low then 1 else -1)→(Za0 V b).1.length=N - 1→Zci (-s) (Za0 V b) s (List.replicate (N - 1) 0,(j:Int))=if low then ((Za0 V b).1.map fun n=>-1*n,-1*(Za0 V b).2+j) else ((Za0 V b).1,(Za0 V b).2+-j):=by
   intro b low s j hs hb
   have hz:(List.replicate (N - 1) (0:Int),(j:Int))=(List.replicate (Za0 V b).1.length 0,(j:Int)):=by rw [hb]
   rw [hz,Zqm]
   cases low with
   | true=>rw [hs];simp
   | false=>rw [hs];simp
  have restlen:∀ b∈W,(Za0 V b).1.length=N - 1:=fun b hb=>by
   have:=(hWmed b hb).1.2.2
   show (ZcT b.2.2.1 V).length=_
   rw [ZhD (by omega),this]
  have loop : ∀ (s : Int) (low : Bool), Zgw V p = low → s = (if low then 1 else -1) → ∀ body : Int × List (List Zc) → (Int × List (List Zc) → Prop) → Prop,
   (∀ (i:Nat) (t:List (List Zc)) (R:Int×List (List Zc)→Prop),i < W.length→t.length≤401*512→W.getD i Za∈W→(decide ((W.getD i Za).1≠2)&&decide (Zf V (W.getD i Za)=s))=false→R ((i:Int)+1,t)→body ((i:Int),t) R) →
   (∀ (i:Nat) (t:List (List Zc)) (R:Int×List (List Zc)→Prop),i < W.length→t.length≤401*512→W.getD i Za∈W→(decide ((W.getD i Za).1≠2)&&decide (Zf V (W.getD i Za)=s))=true→R ((i:Int)+1,t++(List.range d).map (fun (j:Nat)=>ZeU V p l (Zci (-s) (Za0 V (W.getD i Za)) s (List.replicate (N - 1) 0,(j:Int))) true))→body ((i:Int),t) R) →
   (∀ R:Int×List (List Zc)→Prop,body ((W.length:Int),ZbY V p (N - 1) l d) R)→Lp body (0,[]):=by
   intro s low hlow hs body hb1 hb2 hb3
   have hside:=side s low hlow hs
   refine Lp.flat W Za [] (fun b=>if (decide (b.1≠2)&&decide (Zf V b=s))=true then (List.range d).map (fun (j:Nat)=>ZeU V p l (if low then ((Za0 V b).1.map fun n=>-1*n,-1*(Za0 V b).2+j) else ((Za0 V b).1,(Za0 V b).2+-j)) true) else []) (by omega) (fun i R hi hi' hf hR=>?_) (fun R=>?_)
   ·have hm:=Zj (d:=Za) hi
    rw [List.nil_append] at hR ⊢
    have htl:((W.take i).flatMap fun b=>if (decide (b.1≠2)&&decide (Zf V b=s))=true then (List.range d).map (fun (j:Nat)=>ZeU V p l (if low then ((Za0 V b).1.map fun n=>-1*n,-1*(Za0 V b).2+j) else ((Za0 V b).1,(Za0 V b).2+-j)) true) else []).length≤401*512:=by
     have h1:=Zcz (g:=fun b=>if (decide (b.1≠2)&&decide (Zf V b=s))=true then (List.range d).map (fun (j:Nat)=>ZeU V p l (if low then ((Za0 V b).1.map fun n=>-1*n,-1*(Za0 V b).2+j) else ((Za0 V b).1,(Za0 V b).2+-j)) true) else []) (k:=512) (l:=W.take i) fun x _=>by
      split
      ·simp;omega
      ·simp
     have h2:(W.take i).length≤401:=by rw [List.length_take];omega
     exact Nat.le_trans h1 (Nat.mul_le_mul h2 (Nat.le_refl 512))
    cases hcnd:(decide ((W.getD i Za).1≠2)&&decide (Zf V (W.getD i Za)=s)) with
    | false =>
      rw [hcnd,if_neg (by simp),List.append_nil] at hR
      exact hb1 i _ R hi htl hm hcnd hR
    | true =>
      rw [hcnd,if_pos rfl] at hR
      refine hb2 i _ R hi htl hm hcnd ?_
      have e:(fun (j:Nat)=>ZeU V p l (Zci (-s) (Za0 V (W.getD i Za)) s (List.replicate (N - 1) 0,(j:Int))) true)=fun (j:Nat)=>ZeU V p l (if low then ((Za0 V (W.getD i Za)).1.map fun n=>-1*n,-1*(Za0 V (W.getD i Za)).2+j) else ((Za0 V (W.getD i Za)).1,(Za0 V (W.getD i Za)).2+-j)) true:=by
       funext j
       rw [hby _ low s j hs (restlen _ hm)]
      rw [e]
      exact hR
   ·rw [List.nil_append,hside]
    exact hb3 R
  have hmixpre:∀ (b:Zc) (s:Int) (j:Nat),b∈W→s=1∨s=-1→j≤512→ZE.pre (-s,Za0 V b,s,(List.replicate (N - 1) 0,(j:Int)),())∧ZcR (Zci (-s) (Za0 V b) s (List.replicate (N - 1) 0,(j:Int)))∧(Zci (-s) (Za0 V b) s (List.replicate (N - 1) 0,(j:Int))).1.length=N - 1:=by
   intro b s j hb hs hj
   obtain ⟨hmed,_⟩:=hWmed b hb
   have hrl:=restlen b hb
   have hsm:ZcR (Za0 V b):=ZgT hmed.2.1 V
   have hbd:ZdU 536870912 (N - 1) (Za0 V b):=by
    rw [← hW] at hb
    rcases List.mem_append.1 hb with hb | hb
    ·obtain ⟨c,hc,rfl⟩:=List.mem_map.1 hb
     rw [ZiF]
     exact ZiH (hN.c (Za5.1 hc).1) (by omega) (hfac c hc)
    ·rw [List.mem_singleton.1 hb,Zik hVn]
     exact ⟨by simp,fun x hx=>by rw [(List.mem_replicate.1 hx).2];omega,by simp only;omega⟩
   have hnb:=Zli (n:=N - 1) hj
   have hs':-1≤-s∧-s≤1:=by omega
   have hs'':-1≤s∧s≤1:=by omega
   have hm:=ZlB (A:=1) (B:=1) (by omega) (by omega) (by omega) (by omega) hs' hbd hs'' hnb
   exact ⟨⟨by show -1048576≤-s∧-s≤1048576;omega,hsm,by show -1048576≤s∧s≤1048576;omega,hnb.small (by omega) (by omega),by show (Za0 V b).1.length=(List.replicate (N - 1) (0:Int)).length;rw [List.length_replicate];exact hrl⟩,hm.small (by omega) (by omega),hm.1⟩
  have hlowS:decide (((upP V p).length:Int) < ((ZbQ V p).length:Int))=!Zgw V p:=by
   unfold Zgw
   by_cases h:(ZbQ V p).length≤(upP V p).length
   ·rw [decide_eq_true h,decide_eq_false (by omega)];rfl
   ·rw [decide_eq_false h,decide_eq_true (by omega)];rfl
  rw [hlowS]
  cases hlow:Zgw V p with
  | false =>
    simp only [Bool.not_false,cond_true]
    refine loop (-1) false hlow rfl _ ?_ ?_ ?_
    ·intro i t R hi ht hm hcnd hR
     have hi':(i:Int) < (W.length:Int):=by omega
     simp only [decide_eq_true hi',Int.toNat_natCast,cond_true]
     obtain ⟨b,hq⟩:∃ b,W.getD i Za=b:=⟨_,rfl⟩
     simp only [hq] at hm hcnd ⊢
     have hbl:=(hWmed b hm).1.2.2
     have hcoef:b.2.2.1.getD V 0=Zf V b:=rfl
     simp only [hcoef]
     refine ⟨⟨by omega,hi'⟩,hi,fun h=>⟨h,trivial⟩,fun h=>⟨h,trivial⟩,fun h=>⟨h,h,by omega,by omega⟩,fun h=>⟨h,trivial⟩,fun h=>⟨h,h,trivial⟩,fun h=>by rw [h];rfl,?_⟩
     have:(b.1 == 2||Zf V b != -1)=true:=by
      revert hcnd
      by_cases h2:b.1=2<;>by_cases h3:Zf V b=-1<;>simp [h2,h3]
     rw [this,cond_true]
     exact ⟨⟨by omega,by omega⟩,hR⟩
    ·intro i t R hi ht hm hcnd hR
     have hi':(i:Int) < (W.length:Int):=by omega
     simp only [decide_eq_true hi',Int.toNat_natCast,cond_true]
     obtain ⟨b,hq⟩:∃ b,W.getD i Za=b:=⟨_,rfl⟩
     simp only [hq] at hm hcnd hR ⊢
     have hbl:=(hWmed b hm).1.2.2
     have hcoef:b.2.2.1.getD V 0=Zf V b:=rfl
     have hrest:(ZcT b.2.2.1 V,b.2.2.2)=Za0 V b:=rfl
     simp only [hcoef,hrest]
     refine ⟨⟨by omega,hi'⟩,hi,fun h=>⟨h,trivial⟩,fun h=>⟨h,trivial⟩,fun h=>⟨h,h,by omega,by omega⟩,fun h=>⟨h,trivial⟩,fun h=>⟨h,h,trivial⟩,fun h=>by rw [h];rfl,?_⟩
     have:(b.1 == 2||Zf V b != -1)=false:=by
      revert hcnd
      by_cases h2:b.1=2<;>by_cases h3:Zf V b=-1<;>simp [h2,h3]
     rw [this,cond_false]
     refine ⟨⟨by show b.2.2.1.length≤1048576;omega,by show (0:Int)≤V;omega,by show (V:Int) < (b.2.2.1.length:Int);omega⟩,?_⟩
     refine Lp.iter d (fun j z=>z=((j:Int),t++(List.range j).map (fun (j:Nat)=>ZeU V p l (Zci (-(-1)) (Za0 V b) (-1) (List.replicate (N - 1) 0,(j:Int))) true))) (by simp) ?_
     rintro j z hj rfl R2 hR2
     by_cases ej:j < d
     ·simp only [decide_eq_true (show (j:Int) < (d:Int) by omega),cond_true,List.length_nil,Nat.zero_add]
      have hR2':=hR2 ej _ rfl
      rw [ZfB,← List.append_assoc] at hR2'
      obtain ⟨hmp,hms,hml⟩:=hmixpre b (-1) j hm (.inr rfl) (by omega)
      refine ⟨⟨by omega,by omega⟩,⟨by omega,by omega⟩,hnum j (by omega),hmp,⟨by omega,by omega⟩,?_⟩
      obtain ⟨by_,hbye⟩:∃ w:Lin,Zci (-(-1)) (Za0 V b) (-1) (List.replicate (N - 1) 0,(j:Int))=w:=⟨_,rfl⟩
      simp only [hbye] at hmp hms hml hR2' ⊢
      refine Lp.iter W.length (fun k z=>z=((k:Int),by_,free++(W.take k).map (ZqV V by_),by_)) (by simp) ?_
      rintro k z hk rfl R3 hR3
      by_cases ek:k < W.length
      ·have ek':(k:Int) < (W.length:Int):=by omega
       have hmk:=Zj (d:=Za) ek
       have hR3':=hR3 ek _ rfl
       rw [ZbC (d:=Za) ek,List.map_append,List.map_cons,List.map_nil,← List.append_assoc] at hR3'
       simp only [decide_eq_true ek',Int.toNat_natCast,cond_true]
       obtain ⟨hmed,hcf⟩:=hWmed _ hmk
       exact ⟨⟨by omega,ek'⟩,ek,⟨⟨N,hmed,by omega,by show by_.1.length+1=N;omega,by show (0:Int)≤V;omega,by show (V:Int) < N;omega⟩,hcf,by show (-1048576:Int)≤1∧(1:Int)≤1048576;omega,.inl rfl,hms⟩,⟨by simp only [List.length_singleton,List.length_append,List.length_map,List.length_take];omega,by simp only [List.length_singleton,List.length_append,List.length_map,List.length_take];omega⟩,⟨by omega,by omega⟩,hR3'⟩
      ·have:k=W.length:=by omega
       subst this
       simp only [Int.lt_irrefl,decide_false,cond_false,List.take_length]
       have hq2:=hputs by_ true hml
       simp only [Bool.true_or] at hq2
       rw [List.filter_eq_self.2 (fun _ _=>rfl)] at hq2
       rw [hq2]
       exact ⟨⟨by simp only [List.length_singleton,List.length_append,List.length_map,List.length_range];omega,by simp only [List.length_singleton,List.length_append,List.length_map,List.length_range];omega⟩,⟨by omega,by omega⟩,hR2'⟩
     ·have:j=d:=by omega
      subst this
      simp only [Int.lt_irrefl,decide_false,cond_false]
      exact ⟨⟨by omega,by omega⟩,hR⟩
    ·intro R
     simp only [Int.lt_irrefl,decide_false,cond_false]
     exact ⟨hpre _ rfl,trivial⟩
  | true =>
    simp only [Bool.not_true,cond_false]
    refine loop 1 true hlow rfl _ ?_ ?_ ?_
    ·intro i t R hi ht hm hcnd hR
     have hi':(i:Int) < (W.length:Int):=by omega
     simp only [decide_eq_true hi',Int.toNat_natCast,cond_true]
     obtain ⟨b,hq⟩:∃ b,W.getD i Za=b:=⟨_,rfl⟩
     simp only [hq] at hm hcnd ⊢
     have hbl:=(hWmed b hm).1.2.2
     have hcoef:b.2.2.1.getD V 0=Zf V b:=rfl
     simp only [hcoef]
     refine ⟨⟨by omega,hi'⟩,hi,fun h=>⟨h,trivial⟩,fun h=>⟨h,trivial⟩,fun h=>⟨h,h,by omega,by omega⟩,fun h=>⟨h,trivial⟩,fun h=>⟨h,h,trivial⟩,fun h=>by rw [h];rfl,?_⟩
     have:(b.1 == 2||Zf V b != 1)=true:=by
      revert hcnd
      by_cases h2:b.1=2<;>by_cases h3:Zf V b=1<;>simp [h2,h3]
     rw [this,cond_true]
     exact ⟨⟨by omega,by omega⟩,hR⟩
    ·intro i t R hi ht hm hcnd hR
     have hi':(i:Int) < (W.length:Int):=by omega
     simp only [decide_eq_true hi',Int.toNat_natCast,cond_true]
     obtain ⟨b,hq⟩:∃ b,W.getD i Za=b:=⟨_,rfl⟩
     simp only [hq] at hm hcnd hR ⊢
     have hbl:=(hWmed b hm).1.2.2
     have hcoef:b.2.2.1.getD V 0=Zf V b:=rfl
     have hrest:(ZcT b.2.2.1 V,b.2.2.2)=Za0 V b:=rfl
     simp only [hcoef,hrest]
     refine ⟨⟨by omega,hi'⟩,hi,fun h=>⟨h,trivial⟩,fun h=>⟨h,trivial⟩,fun h=>⟨h,h,by omega,by omega⟩,fun h=>⟨h,trivial⟩,fun h=>⟨h,h,trivial⟩,fun h=>by rw [h];rfl,?_⟩
     have:(b.1 == 2||Zf V b != 1)=false:=by
      revert hcnd
      by_cases h2:b.1=2<;>by_cases h3:Zf V b=1<;>simp [h2,h3]
     rw [this,cond_false]
     refine ⟨⟨by show b.2.2.1.length≤1048576;omega,by show (0:Int)≤V;omega,by show (V:Int) < (b.2.2.1.length:Int);omega⟩,?_⟩
     refine Lp.iter d (fun j z=>z=((j:Int),t++(List.range j).map (fun (j:Nat)=>ZeU V p l (Zci (-1) (Za0 V b) 1 (List.replicate (N - 1) 0,(j:Int))) true))) (by simp) ?_
     rintro j z hj rfl R2 hR2
     by_cases ej:j < d
     ·simp only [decide_eq_true (show (j:Int) < (d:Int) by omega),cond_true,List.length_nil,Nat.zero_add]
      have hR2':=hR2 ej _ rfl
      rw [ZfB,← List.append_assoc] at hR2'
      obtain ⟨hmp,hms,hml⟩:=hmixpre b 1 j hm (.inl rfl) (by omega)
      refine ⟨⟨by omega,by omega⟩,⟨by omega,by omega⟩,hnum j (by omega),hmp,⟨by omega,by omega⟩,?_⟩
      obtain ⟨by_,hbye⟩:∃ w:Lin,Zci (-1) (Za0 V b) 1 (List.replicate (N - 1) 0,(j:Int))=w:=⟨_,rfl⟩
      simp only [hbye] at hmp hms hml hR2' ⊢
      refine Lp.iter W.length (fun k z=>z=((k:Int),by_,free++(W.take k).map (ZqV V by_),by_)) (by simp) ?_
      rintro k z hk rfl R3 hR3
      by_cases ek:k < W.length
      ·have ek':(k:Int) < (W.length:Int):=by omega
       have hmk:=Zj (d:=Za) ek
       have hR3':=hR3 ek _ rfl
       rw [ZbC (d:=Za) ek,List.map_append,List.map_cons,List.map_nil,← List.append_assoc] at hR3'
       simp only [decide_eq_true ek',Int.toNat_natCast,cond_true]
       obtain ⟨hmed,hcf⟩:=hWmed _ hmk
       exact ⟨⟨by omega,ek'⟩,ek,⟨⟨N,hmed,by omega,by show by_.1.length+1=N;omega,by show (0:Int)≤V;omega,by show (V:Int) < N;omega⟩,hcf,by show (-1048576:Int)≤1∧(1:Int)≤1048576;omega,.inl rfl,hms⟩,⟨by simp only [List.length_singleton,List.length_append,List.length_map,List.length_take];omega,by simp only [List.length_singleton,List.length_append,List.length_map,List.length_take];omega⟩,⟨by omega,by omega⟩,hR3'⟩
      ·have:k=W.length:=by omega
       subst this
       simp only [Int.lt_irrefl,decide_false,cond_false,List.take_length]
       have hq2:=hputs by_ true hml
       simp only [Bool.true_or] at hq2
       rw [List.filter_eq_self.2 (fun _ _=>rfl)] at hq2
       rw [hq2]
       exact ⟨⟨by simp only [List.length_singleton,List.length_append,List.length_map,List.length_range];omega,by simp only [List.length_singleton,List.length_append,List.length_map,List.length_range];omega⟩,⟨by omega,by omega⟩,hR2'⟩
     ·have:j=d:=by omega
      subst this
      simp only [Int.lt_irrefl,decide_false,cond_false]
      exact ⟨⟨by omega,by omega⟩,hR⟩
    ·intro R
     simp only [Int.lt_irrefl,decide_false,cond_false]
     exact ⟨hpre _ rfl,trivial⟩
def eqJ (v:Nat) (p:List Zc) (i:Nat):Int:=(List.range i).foldl (Zd8 v p) (-1)
theorem Zk6 (v:Nat) (p:List Zc) (i:Nat):eqJ v p (i+1)=Zd8 v p (eqJ v p i) i:=by
 unfold eqJ
 rw [List.range_succ,List.foldl_append];rfl
theorem Zmc (v:Nat) (p:List Zc):∀ i,i≤p.length→eqJ v p i=-1∧(∀ j,j < i→Zf v (p.getD j Za)≠0→(p.getD j Za).1≠1)∨(0≤eqJ v p i∧eqJ v p i < (i:Int)∧Zf v (p.getD (eqJ v p i).toNat Za)≠0∧(p.getD (eqJ v p i).toNat Za).1=1)
 | 0,_=>.inl ⟨rfl,fun j hj=>absurd hj (by omega)⟩
 | i+1,hi=>by
   rw [Zk6]
   have ih:=Zmc v p i (by omega)
   unfold Zd8
   split
   ·rename_i h
    exact .inr ⟨by omega,by omega,by simpa using h.1,by simpa using h.2.1⟩
   ·rename_i h
    rcases ih with ⟨h1,h2⟩ | ⟨h1,h2,h3⟩
    ·refine .inl ⟨h1,fun j hj hc=>?_⟩
     by_cases e:j=i
     ·subst e
      exact fun hk=>h ⟨hc,hk,.inl (by omega)⟩
     ·exact h2 j (by omega) hc
    ·exact .inr ⟨h1,by omega,h3⟩
theorem ZjJ (v:Nat) (q:List Zc) (c:Zc):ZbL v (q++[c])=ZbL v q++if Zf v c=0 then [Zc4 v c] else []:=by
 unfold ZbL
 rw [List.filter_append,List.map_append]
 congr 1
 by_cases h:Zf v c=0<;>simp [h]
theorem Zl5 (v:Nat) (q:List Zc) (c:Zc):Zge v (q++[c])=Zge v q++if Zf v c≠0∧c.1=2 then [c] else []:=by
 unfold Zge
 rw [List.filter_append]
 congr 1
 by_cases h:Zf v c≠0∧c.1=2
 ·rw [if_pos h,List.filter_cons_of_pos (by simpa using h)];rfl
 ·rw [if_neg h,List.filter_cons_of_neg (by simpa using h)];rfl
theorem Zkj (v:Nat) (q:List Zc) (c:Zc):ZbQ v (q++[c])=ZbQ v q++if Zf v c≠0∧c.1≠1∧c.1≠2∧0 < Zf v c then [c] else []:=by
 unfold ZbQ
 rw [List.filter_append]
 congr 1
 by_cases h:Zf v c≠0∧c.1≠1∧c.1≠2∧0 < Zf v c
 ·rw [if_pos h,List.filter_cons_of_pos (by simpa using h)];rfl
 ·rw [if_neg h,List.filter_cons_of_neg (by simpa using h)];rfl
theorem ZlN (v:Nat) (q:List Zc) (c:Zc):upP v (q++[c])=upP v q++if Zf v c≠0∧c.1≠1∧c.1≠2∧¬ 0 < Zf v c then [c] else []:=by
 unfold upP
 rw [List.filter_append]
 congr 1
 by_cases h:Zf v c≠0∧c.1≠1∧c.1≠2∧¬ 0 < Zf v c
 ·rw [if_pos h,List.filter_cons_of_pos (by simpa using h)];rfl
 ·rw [if_neg h,List.filter_cons_of_neg (by simpa using h)];rfl
theorem ZcV {f:Zc→Bool} {p:List Zc} (i:Nat):((p.take i).filter f).length≤i:=Nat.le_trans (List.length_filter_le _ _) (by rw [List.length_take];omega)
theorem Zlv {q:List Zc} {n:Nat} (h:Zjn n q):ZI.pre ([q],()) :=
 ⟨by show ([q]:List (List Zc)).length≤_;simp,fun r hr=>by
  have hr':r∈[q]:=hr
  rw [List.mem_singleton.1 hr']
  exact ⟨h.D.1,n,h.D.2⟩⟩
theorem Z2.spec (p:List Zc) (n v:Int) (hp:Z2.pre (p,n,v,())):Z2.wp p n v (fun r=>r=Z2.fn (p,n,v,())):=by
 obtain ⟨hN,hv0,hv1⟩:=hp
 simp only at hN hv0 hv1
 obtain ⟨V,rfl⟩:∃ V:Nat,v=(V:Int):=⟨v.toNat,by omega⟩
 obtain ⟨N,rfl⟩:∃ N:Nat,n=(N:Int):=⟨n.toNat,by omega⟩
 have h400:=hN.1
 have hn12:=hN.2.2.2
 have hfn:Z2.fn (p,(N:Int),(V:Int),())=Z4 p N V:=rfl
 have hwo:∀ l:Lin,Zk.fn (l,(V:Int),())=(ZcT l.1 V,l.2):=fun _=>rfl
 have hmx:∀ a l b m,ZE.fn (a,l,b,m,())=Zci a l b m:=fun _ _ _ _=>rfl
 have hma:∀ l,ZI.fn (l,())=Zed l:=fun _=>rfl
 have hso:∀ p (i:Int),Z0.fn (p,i,(V:Int),())=Zcv V p i.toNat:=fun _ _=>rfl
 have hre:∀ p free,Zt.fn (p,free,(V:Int),())=ZvU p free V:=fun _ _=>rfl
 simp only [Z2.wp,hfn,Zm.fn,hwo,hmx,hma,hso,hre,Int.toNat_natCast]
 have hszc:∀ c∈p,Zm.pre (Zf V c,()):=fun c hc=>by
  have:=Zcr (hN.c hc).1 V
  exact ⟨by show -2305843009213693952≤Zf V c;omega,by show Zf V c≤2305843009213693952;omega⟩
 refine Lp.iter p.length (fun i z=>z=((i:Int),eqJ V p i,ZbL V (p.take i),Zge V (p.take i),ZbQ V (p.take i),upP V (p.take i))) (by simp [eqJ,ZbL,Zge,ZbQ,upP]) ?_
 rintro i z hle rfl R hR
 by_cases e:i < p.length
 ·have e':(i:Int) < (p.length:Int):=by omega
  have hm:=Zj (d:=Za) e
  have hR':=hR e _ rfl
  rw [ZbC (d:=Za) e,ZjJ,Zl5,Zkj,ZlN,Zk6] at hR'
  simp only [decide_eq_true e',Int.toNat_natCast,cond_true]
  have hpick:Zd8 V p (eqJ V p i) i=if Zf V (p.getD i Za)≠0∧(p.getD i Za).1=1∧(eqJ V p i < 0∨Zbg (Zf V (p.getD i Za)) < Zbg (Zf V (p.getD (eqJ V p i).toNat Za))) then (i:Int) else eqJ V p i:=rfl
  rw [hpick] at hR'
  obtain ⟨c,hq⟩:∃ c,p.getD i Za=c:=⟨_,rfl⟩
  simp only [hq] at hm hR' ⊢
  have hcn:=hN.c hm
  have hlen:(V:Int) < (c.2.2.1.length:Int):=by have:=hcn.2;omega
  have hcoef:c.2.2.1.getD V 0=Zf V c:=rfl
  simp only [hcoef]
  have hfi:Zr IntKind.i64 ((i:Int)+1):=⟨by omega,by omega⟩
  have l1:=ZcV (f:=fun c=>decide (Zf V c=0)) (p:=p) i
  have l2:(Zge V (p.take i)).length≤i:=ZcV i
  have l3:(ZbQ V (p.take i)).length≤i:=ZcV i
  have l4:(upP V (p.take i)).length≤i:=ZcV i
  have l1':(ZbL V (p.take i)).length≤i:=by unfold ZbL;rw [List.length_map];exact l1
  refine ⟨⟨by omega,e'⟩,⟨by omega,hlen⟩,?_⟩
  by_cases h0:Zf V c=0
  ·rw [show (Zf V c == 0)=true by simpa using h0,cond_true]
   rw [if_neg (fun h=>h.1 h0),if_pos h0,if_neg (fun h=>h.1 h0),if_neg (fun h=>h.1 h0),if_neg (fun h=>h.1 h0),List.append_nil,List.append_nil,List.append_nil] at hR'
   exact ⟨⟨by show c.2.2.1.length≤1048576;omega,by show (0:Int)≤V;omega,by show (V:Int) < (c.2.2.1.length:Int);omega⟩,⟨by simp only [List.length_singleton];omega,by simp only [List.length_singleton];omega⟩,hfi,hR'⟩
  ·rw [show (Zf V c == 0)=false by simpa using h0,cond_false]
   rw [if_neg (show ¬ Zf V c=0 from h0),List.append_nil] at hR'
   by_cases h1:c.1=1
   ·rw [show (c.1 == 1)=true by simpa using h1,cond_true]
    rw [if_neg (show ¬ (Zf V c≠0∧c.1=2) from fun h=>by omega),if_neg (show ¬ (Zf V c≠0∧c.1≠1∧c.1≠2∧0 < Zf V c) from fun h=>h.2.1 h1),if_neg (show ¬ (Zf V c≠0∧c.1≠1∧c.1≠2∧¬ 0 < Zf V c) from fun h=>h.2.1 h1),List.append_nil,List.append_nil,List.append_nil] at hR'
    have hJ:=Zmc V p i (by omega)
    obtain ⟨E,hE⟩:∃ E,eqJ V p i=E:=⟨_,rfl⟩
    simp only [hE] at hJ hR' ⊢
    by_cases hE0:E < 0
    ·simp only [decide_eq_true hE0,Bool.not_true,Bool.true_or,cond_true]
     rw [if_pos ⟨h0,h1,.inl hE0⟩] at hR'
     simp only [Bool.false_eq_true,false_implies,true_and,Bool.true_eq_false]
     exact ⟨hfi,hR'⟩
    ·have hEp:0≤E∧E < (i:Int):=by rcases hJ with h | h<;>omega
     have hmE:=Zj (d:=Za) (show E.toNat < p.length by omega)
     obtain ⟨ce,hce⟩:∃ ce,p.getD E.toNat Za=ce:=⟨_,rfl⟩
     simp only [hce] at hmE hR' ⊢
     have hce2:=(hN.c hmE).2
     have hcoefe:ce.2.2.1.getD V 0=Zf V ce:=rfl
     simp only [hcoefe,decide_eq_false hE0,Bool.not_false,Bool.false_or]
     refine ⟨fun h=>⟨h,hszc c hm⟩,fun h=>⟨h,h,by omega,by omega⟩,fun h=>⟨h,trivial⟩,fun h=>⟨h,trivial⟩,fun h=>⟨h,trivial⟩,fun h=>⟨h,h,by omega,by omega⟩,fun h=>⟨h,trivial⟩,fun h=>⟨h,hszc ce hmE⟩,fun h=>⟨h,h,trivial⟩,fun _=>trivial,?_⟩
     by_cases hlt:Zbg (Zf V c) < Zbg (Zf V ce)
     ·rw [decide_eq_true hlt,cond_true]
      rw [if_pos ⟨h0,h1,.inr hlt⟩] at hR'
      exact ⟨hfi,hR'⟩
     ·rw [decide_eq_false hlt,cond_false]
      rw [if_neg (fun h=>h.2.2.elim hE0 hlt)] at hR'
      exact ⟨hfi,hR'⟩
   ·rw [show (c.1 == 1)=false by simpa using h1,cond_false]
    rw [if_neg (fun h=>h1 h.2.1)] at hR'
    by_cases h2:c.1=2
    ·rw [show (c.1 == 2)=true by simpa using h2,cond_true]
     rw [if_pos ⟨h0,h2⟩,if_neg (fun h=>h.2.2.1 h2),if_neg (fun h=>h.2.2.1 h2),List.append_nil,List.append_nil] at hR'
     exact ⟨⟨by simp only [List.length_singleton];omega,by simp only [List.length_singleton];omega⟩,hfi,hR'⟩
    ·rw [show (c.1 == 2)=false by simpa using h2,cond_false]
     rw [if_neg (show ¬ (Zf V c≠0∧c.1=2) from fun h=>h2 h.2),List.append_nil] at hR'
     by_cases hpos:0 < Zf V c
     ·rw [decide_eq_true hpos,cond_true]
      rw [if_pos ⟨h0,h1,h2,hpos⟩,if_neg (fun h=>h.2.2.2 hpos),List.append_nil] at hR'
      exact ⟨⟨by simp only [List.length_singleton];omega,by simp only [List.length_singleton];omega⟩,hfi,hR'⟩
     ·rw [decide_eq_false hpos,cond_false]
      rw [if_neg (fun h=>hpos h.2.2.2),if_pos ⟨h0,h1,h2,hpos⟩,List.append_nil] at hR'
      exact ⟨⟨by simp only [List.length_singleton];omega,by simp only [List.length_singleton];omega⟩,hfi,hR'⟩
 have:i=p.length:=by omega
 subst this
 simp only [Int.lt_irrefl,decide_false,cond_false,List.take_length]
 have hJ:=Zmc V p p.length (Nat.le_refl _)
 have hJe:eqJ V p p.length=eqI V p:=rfl
 rw [hJe] at hJ ⊢
 have hsh:Z4 p N V=match ZcO p N V with
  | none=>([],3)
  | some l=>Zed l:=rfl
 have hN':pieceN p (N:Int):=hN
 by_cases hE:0≤eqI V p
 ·rw [decide_eq_true hE,cond_true]
  rcases hJ with h | ⟨h1,h2,h3,h4⟩
  ·omega
  ·have hS:ZcO p N V=some [Zcv V p (eqI V p).toNat]:=by unfold ZcO;rw [if_pos hE]
   rw [hsh,hS]
   exact ⟨⟨⟨(N:Int),hN,by show (0:Int)≤V;omega,hv1⟩,h1,h2,h3⟩,Zlv (Zey hN (v:=V) (by omega) (by omega) h3),rfl⟩
 ·rw [decide_eq_false hE,cond_false]
  have hno1:∀ c∈Zx V p,c.1≠1:=fun c hc=>by
   have hcp:=Za5.1 hc
   obtain ⟨j,hj,hjc⟩:=ZbR (d:=Za) hcp.1
   rcases hJ with ⟨_,h⟩ | h
   ·have:=h j hj
    rw [hjc] at this
    exact this hcp.2
   ·omega
  refine ⟨fun h=>⟨h,trivial⟩,fun h=>⟨h,trivial⟩,fun h=>⟨h,trivial⟩,fun h=>⟨h,trivial⟩,fun h=>⟨h,trivial⟩,fun h=>⟨h,fun h2=>by rw [h,h2];rfl⟩,fun h=>h,?_⟩
  have hnil:∀ l:List Zc,(((l.length:Nat):Int) == 0)=l.isEmpty:=fun l=>by cases l<;>simp;omega
  simp only [hnil]
  have hlowlen:(ZbQ V p).length≤400:=Nat.le_trans (List.length_filter_le _ _) h400
  have huplen:(upP V p).length≤400:=Nat.le_trans (List.length_filter_le _ _) h400
  by_cases hA:Zge V p=[]∧(ZbQ V p=[]∨upP V p=[])
  ·have hc:((Zge V p).isEmpty&&((ZbQ V p).isEmpty||(upP V p).isEmpty))=true:=by
    rcases hA with ⟨h1,h2 | h2⟩<;>simp [h1,h2]
   rw [hc,cond_true]
   have hS:ZcO p N V=some [ZbL V p]:=by unfold ZcO;rw [if_neg hE,if_pos hA]
   rw [hsh,hS]
   exact ⟨Zlv (n:=N - 1) ⟨by have:=Zcm (v:=V) (p:=p);omega,ZeS hN (v:=V) (by omega)⟩,rfl⟩
  ·have hc:((Zge V p).isEmpty&&((ZbQ V p).isEmpty||(upP V p).isEmpty))=false:=by
    cases hh:((Zge V p).isEmpty&&((ZbQ V p).isEmpty||(upP V p).isEmpty)) with
    | false=>rfl
    | true =>
      simp only [Bool.and_eq_true,Bool.or_eq_true,List.isEmpty_iff] at hh
      exact absurd hh hA
   rw [hc,cond_false]
   refine Lp.iter (ZbQ V p).length (fun i z=>z=((i:Int),(Zge V p).isEmpty&&((ZbQ V p).take i).all fun x=>(upP V p).all fun y=>decide (Zf V x=1∨Zf V y=-1))) (by simp) ?_
   rintro i z hi rfl R1 hR1
   by_cases e:i < (ZbQ V p).length
   ·have e':(i:Int) < ((ZbQ V p).length:Int):=by omega
    have hm:=Zj (d:=Za) e
    have hR1':=hR1 e _ rfl
    rw [ZbC (d:=Za) e,List.all_append] at hR1'
    simp only [decide_eq_true e',Int.toNat_natCast,cond_true]
    obtain ⟨x,hx⟩:∃ x,(ZbQ V p).getD i Za=x:=⟨_,rfl⟩
    simp only [hx] at hm hR1' ⊢
    have hxn:=hN.c (List.mem_filter.1 hm).1
    have hxl:(V:Int) < (x.2.2.1.length:Int):=by have:=hxn.2;omega
    refine ⟨⟨by omega,e'⟩,e,?_⟩
    have hcoefx:x.2.2.1.getD V 0=Zf V x:=rfl
    simp only [hcoefx]
    obtain ⟨b0,hb0⟩:∃ b0,((Zge V p).isEmpty&&((ZbQ V p).take i).all fun x=>(upP V p).all fun y=>decide (Zf V x=1∨Zf V y=-1))=b0:=⟨_,rfl⟩
    rw [← Bool.and_assoc,hb0] at hR1'
    simp only [hb0]
    refine Lp.iter (upP V p).length (fun j z=>z=((j:Int),b0&&((upP V p).take j).all fun y=>decide (Zf V x=1∨Zf V y=-1))) (by simp) ?_
    rintro j z hj rfl R2 hR2
    by_cases ej:j < (upP V p).length
    ·have ej':(j:Int) < ((upP V p).length:Int):=by omega
     have hmy:=Zj (d:=Za) ej
     have hR2':=hR2 ej _ rfl
     rw [ZbC (d:=Za) ej,List.all_append] at hR2'
     simp only [decide_eq_true ej',Int.toNat_natCast,cond_true]
     obtain ⟨y,hy⟩:∃ y,(upP V p).getD j Za=y:=⟨_,rfl⟩
     simp only [hy] at hmy hR2' ⊢
     have hyn:=hN.c (List.mem_filter.1 hmy).1
     have hyl:(V:Int) < (y.2.2.1.length:Int):=by have:=hyn.2;omega
     have hcoefy:y.2.2.1.getD V 0=Zf V y:=rfl
     simp only [hcoefy]
     obtain ⟨b1,hb1⟩:∃ b1,(b0&&((upP V p).take j).all fun y=>decide (Zf V x=1∨Zf V y=-1))=b1:=⟨_,rfl⟩
     rw [← Bool.and_assoc,hb1] at hR2'
     simp only [hb1]
     refine ⟨⟨by omega,ej'⟩,ej,fun h=>⟨h,trivial⟩,fun h=>⟨h,trivial⟩,fun h=>⟨h,h,by omega,hxl⟩,fun h=>⟨h,trivial⟩,fun h=>⟨h,trivial⟩,fun h=>⟨h,trivial⟩,fun h=>⟨h,trivial⟩,fun h=>⟨h,trivial⟩,fun h=>⟨h,h,by omega,hyl⟩,fun h=>⟨h,trivial⟩,fun h=>⟨h,trivial⟩,fun h=>⟨h,fun h2=>by rw [h,h2];rfl⟩,fun h=>h,⟨by omega,by omega⟩,?_⟩
     have hbb:(Zf V x == 1||Zf V y == -(1:Int))=([y].all fun y=>decide (Zf V x=1∨Zf V y=-1)):=by
      rw [List.all_cons,List.all_nil,Bool.and_true]
      by_cases k1:Zf V x=1<;>by_cases k2:Zf V y=-1<;>simp [k1,k2]
     rw [hbb]
     exact hR2'
    ·have:j=(upP V p).length:=by omega
     subst this
     simp only [Int.lt_irrefl,decide_false,cond_false,List.take_length]
     refine ⟨⟨by omega,by omega⟩,?_⟩
     rw [List.all_cons,List.all_nil,Bool.and_true] at hR1'
     exact hR1'
   ·have:i=(ZbQ V p).length:=by omega
    subst this
    simp only [Int.lt_irrefl,decide_false,cond_false,List.take_length]
    have hex:((Zge V p).isEmpty&&(ZbQ V p).all fun x=>(upP V p).all fun y=>decide (Zf V x=1∨Zf V y=-1))=Zhd V p:=rfl
    rw [hex]
    cases hX:Zhd V p with
    | true =>
      rw [cond_true]
      have hS:ZcO p N V=some [Zjp V p]:=by unfold ZcO;rw [if_neg hE,if_neg hA,if_pos hX]
      rw [hsh,hS]
      refine Lp.flat (ZbQ V p) Za (ZbL V p) (fun x=>(upP V p).map (Zl2 V x)) (by omega) (fun i R hi hi' hf hR=>?_) (fun R=>?_)
      ·have hm:=Zj (d:=Za) hi
       simp only [decide_eq_true hi',Int.toNat_natCast,cond_true]
       obtain ⟨x,hx⟩:∃ x,(ZbQ V p).getD i Za=x:=⟨_,rfl⟩
       simp only [hx] at hm hR ⊢
       have hxn:=hN.c (List.mem_filter.1 hm).1
       have hxl:(V:Int) < (x.2.2.1.length:Int):=by have:=hxn.2;omega
       have hcoefx:x.2.2.1.getD V 0=Zf V x:=rfl
       have hrx:(ZcT x.2.2.1 V,x.2.2.2)=Za0 V x:=rfl
       simp only [hcoefx,hrx]
       refine ⟨⟨by omega,hi'⟩,hi,?_⟩
       have hol:(ZbL V p++((ZbQ V p).take i).flatMap fun x=>(upP V p).map (Zl2 V x)).length≤160400:=by
        have h1:=Zcz (g:=fun x=>(upP V p).map (Zl2 V x)) (k:=400) (l:=(ZbQ V p).take i) fun x _=>by rw [List.length_map];exact huplen
        have h2:((ZbQ V p).take i).length≤400:=by rw [List.length_take];omega
        have h3:=Nat.mul_le_mul h2 (Nat.le_refl 400)
        have h4:=Zcm (v:=V) (p:=p)
        rw [List.length_append];omega
       obtain ⟨o,ho⟩:∃ o,ZbL V p++((ZbQ V p).take i).flatMap (fun x=>(upP V p).map (Zl2 V x))=o:=⟨_,rfl⟩
       simp only [ho] at hol hR ⊢
       refine Lp.flt (upP V p) Za o (fun _=>true) (fun jy=>Zl2 V x jy.2) (by omega) (fun j t R2 hj hj' hfj htl h1 h2=>?_) (fun R2 hlen=>?_)
       ·have hmy:=Zj (d:=Za) hj
        simp only [decide_eq_true hj',Int.toNat_natCast,cond_true]
        obtain ⟨y,hy⟩:∃ y,(upP V p).getD j Za=y:=⟨_,rfl⟩
        simp only [hy] at hmy h1 ⊢
        have hyn:=hN.c (List.mem_filter.1 hmy).1
        have hyl:(V:Int) < (y.2.2.1.length:Int):=by have:=hyn.2;omega
        have hcoefy:y.2.2.1.getD V 0=Zf V y:=rfl
        have hry:(ZcT y.2.2.1 V,y.2.2.2)=Za0 V y:=rfl
        simp only [hcoefy,hry]
        have hbx:=Zcr hxn.1 V
        have hby:=Zcr hyn.1 V
        have hxr:=Zcq hxn (v:=V) (by omega)
        have hyr:=Zcq hyn (v:=V) (by omega)
        refine ⟨⟨by omega,hj'⟩,hj,⟨by omega,hxl⟩,⟨by show y.2.2.1.length≤1048576;omega,by show (0:Int)≤V;omega,hyl⟩,⟨by omega,hyl⟩,⟨by omega,by omega⟩,⟨by show x.2.2.1.length≤1048576;omega,by show (0:Int)≤V;omega,hxl⟩,⟨hbx,hyr.small (by omega) (by omega),by show -1048576≤-Zf V y∧-Zf V y≤1048576;omega,hxr.small (by omega) (by omega),by show (Za0 V y).1.length=(Za0 V x).1.length;rw [hxr.1,hyr.1]⟩,⟨by simp only [List.length_singleton];omega,by simp only [List.length_singleton];omega⟩,hfj,h1 trivial⟩
       ·simp only [Int.lt_irrefl,decide_false,cond_false]
        refine ⟨hf,?_⟩
        have e:=ZdL Za (upP V p) (fun _=>true) (Zl2 V x)
        rw [e,List.filter_eq_self.2 (fun _ _=>rfl)]
        exact hR
      ·simp only [Int.lt_irrefl,decide_false,cond_false]
       exact ⟨Zlv (Zgz hN (v:=V) (by omega)),rfl⟩
    | false =>
      rw [cond_false]
      have hpn:Zx V p≠[]:=fun h=>by
       have hdiv:Zge V p=[]:=by
        apply List.eq_nil_iff_forall_not_mem.2
        intro c hc
        have hc':=List.mem_filter.1 hc
        have:c∈Zx V p:=Za5.2 ⟨hc'.1,(by simpa using hc'.2:Zf V c≠0∧c.1=2).1⟩
        rw [h] at this;cases this
       have hlow:ZbQ V p=[]:=by
        apply List.eq_nil_iff_forall_not_mem.2
        intro c hc
        have hc':=List.mem_filter.1 hc
        have hcc:Zf V c≠0∧c.1≠1∧c.1≠2∧0 < Zf V c:=of_decide_eq_true hc'.2
        have:c∈Zx V p:=Za5.2 ⟨hc'.1,hcc.1⟩
        rw [h] at this;cases this
       exact hA ⟨hdiv,.inl hlow⟩
      refine ⟨⟨⟨(N:Int),hN,by show (0:Int)≤V;omega,hv1⟩,rfl,hpn,hno1⟩,?_⟩
      have hlen0:(p.getD 0 Za).2.2.1.length=N:=by
       have hp0:0 < p.length:=by
        rcases hp0:p with _ | ⟨c,q⟩
        ·rw [hp0] at hpn;exact absurd rfl hpn
        ·simp
       have:=(hN.c (Zj (d:=Za) hp0)).2
       omega
      have hres:ZvU p (ZbL V p) V=if (Zbx V p).2≠0 then ([],3) else if (ZeX V p (Zbx V p).1).2≠0 then ([],3)
       else Zed (ZbY V p ((p.getD 0 Za).2.2.1.length - 1) (Zbx V p).1 (ZeX V p (Zbx V p).1).1.toNat):=rfl
      have hS:ZcO p N V=if (Zbx V p).2≠0 then none else if (ZeX V p (Zbx V p).1).2≠0 then none else some (ZbY V p (N - 1) (Zbx V p).1 (ZeX V p (Zbx V p).1).1.toNat):=by
       unfold ZcO;rw [if_neg hE,if_neg hA,if_neg (by rw [hX];simp)]
      rw [hres,hsh,hS,hlen0]
      split
      ·rfl
      ·split
       ·rfl
       ·rfl
end Go.Proofs.YtgpdnmfpgkkgcaaGreatDoor
