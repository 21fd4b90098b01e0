/- Part of a proof that a law of the program holds for every input: what the functions answer, in plain Lean. No conditions. -/
import Derived.Below
import Derived.Carry
import Derived.ChangeOld
import Derived.LaidMore
import Derived.Lib.LaidTab
import Derived.OpenShut
import Derived.ProofKit
import Derived.ShutString
import Derived.SizedLaws
import Derived.Stop.Joined
import Derived.WalkKit
import Derived.Test.YtgpdnmfpgkkgcaaGreatDoorP13
namespace Go.Proofs.YtgpdnmfpgkkgcaaGreatDoor
open Go
set_option linter.unusedVariables false
set_option maxRecDepth 4000
def ZP.wp (x0:List Zc) (x1:Int) (x2:Int) (Q:(List (List Zc))×Int→Prop):Prop:=let v3:=Int.toNat (x2+(1:Int));(Zu IntKind.i64 (x1 - (1:Int))∧Lp (σ:=Int×Int×Int×(List (Zc))×(List ((Zc)×Int×(List Int)×Int))×(List ((Zc)×Int×(List Int)×Int))×(List ((Zc)×Int×(List Int)×Int))×List ((Zc)×Int×(List Int)×Int)) (fun y4 R4=>let v0:=List.getD x0 (Int.toNat y4.1) Za;let v1:=List.getD v0.2.2.1 (Int.toNat x2) (0:Int);let v2:=List.take (Int.toNat x2) v0.2.2.1;let v4:=[(v0.1,(v0.2.1,((v2++List.drop v3 v0.2.2.1),v0.2.2.2)))];let v5:=List.length y4.2.2.2.2.1;let v6:=List.getD y4.2.2.2.2.1 (Int.toNat y4.2.2.1) (Za,((0:Int),(([]:List Int),(0:Int))));let v8:=[(v0,(v1,((v2++List.drop v3 v0.2.2.1),v0.2.2.2)))];let v9:=List.length y4.2.2.2.2.2.1;let v10:=List.length y4.2.2.2.2.2.2.1;let v11:=List.length y4.2.2.2.2.2.2.2;let v12:=Zt.fn ((y4.2.1,(y4.2.2.2.1,(y4.2.2.2.2.1,(y4.2.2.1,(y4.2.2.2.2.2.2.1,(y4.2.2.2.2.2.2.2,y4.2.2.2.2.2.1)))))),());let v27:=List.replicate (Int.toNat y4.2.1) (0:Int);let v78:=Zr.fn ((y4.2.1,(y4.2.2.2.1,(y4.2.2.2.2.1,(y4.2.2.1,(y4.2.2.2.2.2.2.1,(y4.2.2.2.2.2.2.2,y4.2.2.2.2.2.1)))))),());cond (decide (y4.1 < ((List.length x0:Nat):Int))) (((0:Int)≤y4.1∧y4.1 < ((List.length x0:Nat):Int))∧((List.length v0.2.2.1*8)≤140737488355328∧(Zu IntKind.i64 (x2+(1:Int))∧((v0.2.2.1≠([]:List Int)∧((0:Int)≤x2∧(x2≤(x2+(1:Int))∧(x2+(1:Int))≤((List.length v0.2.2.1:Nat):Int))))∧(((0:Int)≤x2∧x2 < ((List.length v0.2.2.1:Nat):Int))∧cond (v1 == (0:Int)) ((((List.length y4.2.2.2.1+List.length v4)*48)≤140737488355328∧(List.length y4.2.2.2.1+List.length v4)≤9223372036854775807)∧(Zu IntKind.i64 (y4.1+(1:Int))∧R4 ((y4.1+(1:Int)),(y4.2.1,(y4.2.2.1,((y4.2.2.2.1++v4),y4.2.2.2.2)))))) (cond (v0.1 == (1:Int)) (((!(decide (y4.2.2.1 < (0:Int))))=true→((!(decide (y4.2.2.1 < (0:Int))))=true∧Zu IntKind.i64 (-v1)))∧(((!(decide (y4.2.2.1 < (0:Int))))=true→((!(decide (y4.2.2.1 < (0:Int))))=true∧((!(decide (y4.2.2.1 < (0:Int))))=true∧True)))∧(((!(decide (y4.2.2.1 < (0:Int))))=true→((!(decide (y4.2.2.1 < (0:Int))))=true∧True))∧(((!(decide (y4.2.2.1 < (0:Int))))=true→((!(decide (y4.2.2.1 < (0:Int))))=true∧True))∧(((!(decide (y4.2.2.1 < (0:Int))))=true→((!(decide (y4.2.2.1 < (0:Int))))=true∧((!(decide (y4.2.2.1 < (0:Int))))=true∧((0:Int)≤y4.2.2.1∧y4.2.2.1 < ((v5:Nat):Int)))))∧(((!(decide (y4.2.2.1 < (0:Int))))=true→((!(decide (y4.2.2.1 < (0:Int))))=true∧True))∧(((!(decide (y4.2.2.1 < (0:Int))))=true→((!(decide (y4.2.2.1 < (0:Int))))=true∧Int.toNat y4.2.2.1 < v5))∧(((!(decide (y4.2.2.1 < (0:Int))))=true→((!(decide (y4.2.2.1 < (0:Int))))=true∧True))∧(((!(decide (y4.2.2.1 < (0:Int))))=true→((!(decide (y4.2.2.1 < (0:Int))))=true∧True))∧(((!(decide (y4.2.2.1 < (0:Int))))=true→((!(decide (y4.2.2.1 < (0:Int))))=true∧((!(decide (y4.2.2.1 < (0:Int))))=true∧((0:Int)≤y4.2.2.1∧y4.2.2.1 < ((v5:Nat):Int)))))∧(((!(decide (y4.2.2.1 < (0:Int))))=true→((!(decide (y4.2.2.1 < (0:Int))))=true∧True))∧(((!(decide (y4.2.2.1 < (0:Int))))=true→((!(decide (y4.2.2.1 < (0:Int))))=true∧Int.toNat y4.2.2.1 < v5))∧(((!(decide (y4.2.2.1 < (0:Int))))=true→((!(decide (y4.2.2.1 < (0:Int))))=true∧Zu IntKind.i64 (-v6.2.1)))∧(((!(decide (y4.2.2.1 < (0:Int))))=true→((!(decide (y4.2.2.1 < (0:Int))))=true∧((!(decide (y4.2.2.1 < (0:Int))))=true∧True)))∧(((!(decide (y4.2.2.1 < (0:Int))))=true→((!(decide (y4.2.2.1 < (0:Int))))=true∧((!(decide (y4.2.2.1 < (0:Int))))=true∧True)))∧((decide (y4.2.2.1 < (0:Int))=false→(!(decide (y4.2.2.1 < (0:Int))))=true)∧cond (decide (y4.2.2.1 < (0:Int))||decide (Max.max v1 (-v1) < (Max.max v6.2.1 (-v6.2.1)))) ((((v5+List.length v8)*88)≤140737488355328∧(v5+List.length v8)≤9223372036854775807)∧(Zu IntKind.i64 (y4.1+(1:Int))∧R4 ((y4.1+(1:Int)),(y4.2.1,(((v5:Nat):Int),(y4.2.2.2.1,((y4.2.2.2.2.1++v8),y4.2.2.2.2.2))))))) ((((v5+List.length v8)*88)≤140737488355328∧(v5+List.length v8)≤9223372036854775807)∧(Zu IntKind.i64 (y4.1+(1:Int))∧R4 ((y4.1+(1:Int)),(y4.2.1,(y4.2.2.1,(y4.2.2.2.1,((y4.2.2.2.2.1++v8),y4.2.2.2.2.2))))))))))))))))))))))) (cond (v0.1 == (2:Int)) ((((v9+List.length v8)*88)≤140737488355328∧(v9+List.length v8)≤9223372036854775807)∧((((v5+List.length v8)*88)≤140737488355328∧(v5+List.length v8)≤9223372036854775807)∧(Zu IntKind.i64 (y4.1+(1:Int))∧R4 ((y4.1+(1:Int)),(y4.2.1,(y4.2.2.1,(y4.2.2.2.1,((y4.2.2.2.2.1++v8),((y4.2.2.2.2.2.1++v8),y4.2.2.2.2.2.2))))))))) (cond (decide ((0:Int) < v1)) ((((v10+List.length v8)*88)≤140737488355328∧(v10+List.length v8)≤9223372036854775807)∧((((v5+List.length v8)*88)≤140737488355328∧(v5+List.length v8)≤9223372036854775807)∧(Zu IntKind.i64 (y4.1+(1:Int))∧R4 ((y4.1+(1:Int)),(y4.2.1,(y4.2.2.1,(y4.2.2.2.1,((y4.2.2.2.2.1++v8),(y4.2.2.2.2.2.1,((y4.2.2.2.2.2.2.1++v8),y4.2.2.2.2.2.2.2)))))))))) ((((v11+List.length v8)*88)≤140737488355328∧(v11+List.length v8)≤9223372036854775807)∧((((v5+List.length v8)*88)≤140737488355328∧(v5+List.length v8)≤9223372036854775807)∧(Zu IntKind.i64 (y4.1+(1:Int))∧R4 ((y4.1+(1:Int)),(y4.2.1,(y4.2.2.1,(y4.2.2.2.1,((y4.2.2.2.2.1++v8),(y4.2.2.2.2.2.1,(y4.2.2.2.2.2.2.1,(y4.2.2.2.2.2.2.2++v8))))))))))))))))))) (cond (decide ((0:Int)≤y4.2.2.1)) (Zt.pre ((y4.2.1,(y4.2.2.2.1,(y4.2.2.2.2.1,(y4.2.2.1,(y4.2.2.2.2.2.2.1,(y4.2.2.2.2.2.2.2,y4.2.2.2.2.2.1)))))),())∧Lp (σ:=Int×(List (List (Zc)))×(ByteArray→Option Bool)) (fun y6 R6=>let v13:=List.getD v12 (Int.toNat y6.1) ([]:List (Zc));let v14:=Zo.fn ((Zb.fn (v13,())).1,());let v16:=[(Zb.fn (v13,())).1];cond (decide (y6.1 < ((List.length v12:Nat):Int))) (((0:Int)≤y6.1∧y6.1 < ((List.length v12:Nat):Int))∧(Zb.pre (v13,())∧cond (((Zb.fn (v13,())).2).2 != (0:Int)) (((!((0:Int) != (0:Int)))=true→((!((0:Int) != (0:Int)))=true∧True))∧((((0:Int) != (0:Int))=false→(!((0:Int) != (0:Int)))=true)∧cond (((0:Int) != (0:Int))||(((Zb.fn (v13,())).2).2 != (0:Int))) (Q (([]:List (List (Zc))),(3:Int))) (Q (([]:List (List (Zc))),(0:Int))))) (((!(((Zb.fn (v13,())).2).1))=true→((!(((Zb.fn (v13,())).2).1))=true∧Zo.pre ((Zb.fn (v13,())).1,())))∧(((!(((Zb.fn (v13,())).2).1))=true→((!(((Zb.fn (v13,())).2).1))=true∧((!(((Zb.fn (v13,())).2).1))=true∧True)))∧((((Zb.fn (v13,())).2).1=false→(!(((Zb.fn (v13,())).2).1))=true)∧cond (((Zb.fn (v13,())).2).1||(Option.getD (y6.2.2 v14) false)) (Zu IntKind.i64 (y6.1+(1:Int))∧R6 ((y6.1+(1:Int)),y6.2)) (Zo.pre ((Zb.fn (v13,())).1,())∧((((List.length y6.2.1+List.length v16)*24)≤140737488355328∧(List.length y6.2.1+List.length v16)≤9223372036854775807)∧cond (decide ((400:Int) < (((List.length (y6.2.1++v16)):Nat):Int))) (((!((0:Int) != (0:Int)))=true→((!((0:Int) != (0:Int)))=true∧True))∧((((0:Int) != (0:Int))=false→(!((0:Int) != (0:Int)))=true)∧Q (([]:List (List (Zc))),(3:Int)))) (Zu IntKind.i64 (y6.1+(1:Int))∧R6 ((y6.1+(1:Int)),((y6.2.1++v16),Zdw y6.2.2 v14 true)))))))))) (((!((0:Int) != (0:Int)))=true→((!((0:Int) != (0:Int)))=true∧True))∧((((0:Int) != (0:Int))=false→(!((0:Int) != (0:Int)))=true)∧Q (y6.2.1,(0:Int))))) ((0:Int),(([]:List (List (Zc))),fun (a6:ByteArray)=>(none:Option Bool)))) (cond (decide ((0:Int) < ((v9:Nat):Int))) (Lp (σ:=Int×List Int) (fun y6 R6=>let v18:=List.getD y4.2.2.2.2.1 (Int.toNat y6.1) (Za,((0:Int),(([]:List Int),(0:Int))));let v19:=Max.max v18.2.1 (-v18.2.1);cond (decide (y6.1 < ((v5:Nat):Int))) (((0:Int)≤y6.1∧y6.1 < ((v5:Nat):Int))∧(Int.toNat y6.1 < v5∧(Zu IntKind.i64 (-v18.2.1)∧((((List.length y6.2+List.length [v19])*8)≤140737488355328∧(List.length y6.2+List.length [v19])≤9223372036854775807)∧(Zu IntKind.i64 (y6.1+(1:Int))∧R6 ((y6.1+(1:Int)),(y6.2++[v19]))))))) (ZQ.pre (y6.2,())∧cond ((ZQ.fn (y6.2,())).2 != (0:Int)) (((!((3:Int) != (0:Int)))=true→((!((3:Int) != (0:Int)))=true∧True))∧((((3:Int) != (0:Int))=false→(!((3:Int) != (0:Int)))=true)∧Q (([]:List (List (Zc))),(3:Int)))) (Lp (σ:=Int×(List Int)×List ((Zc)×Int×(List Int)×Int)) (fun y8 R8=>let v21:=List.getD y8.2.2 (Int.toNat y8.1) (Za,((0:Int),(([]:List Int),(0:Int))));let v22:=Max.max v21.2.1 (-v21.2.1);let v23:=Int.tdiv ((ZQ.fn (y6.2,())).1) v22;let v24:=List.length ([(v21.1.2.1*v23)]);let v26:=List.set y8.2.2 (Int.toNat y8.1) ((v21.1.1,((v21.1.2.1*v23),(([]:List Int),(0:Int)))),((v21.2.1*v23),(ZM.fn (v23,(v21.2.2,((0:Int),(v21.2.2,())))))));cond (decide (y8.1 < ((v5:Nat):Int))) (((0:Int)≤y8.1∧y8.1 < ((List.length y8.2.2:Nat):Int))∧(Int.toNat y8.1 < List.length y8.2.2∧(Zu IntKind.i64 (-v21.2.1)∧((v22≠(0:Int)∧Zu IntKind.i64 v23)∧(Zu IntKind.i64 (v21.1.2.1*v23)∧(Zu IntKind.i64 (v21.2.1*v23)∧(ZM.pre (v23,(v21.2.2,((0:Int),(v21.2.2,()))))∧(((0:Int)≤y8.1∧y8.1 < ((List.length y8.2.2:Nat):Int))∧(Int.toNat y8.1 < List.length y8.2.2∧cond (v21.1.1 == (2:Int)) (Zu IntKind.i64 (v21.1.2.1*v23)∧((((List.length y8.2.1+v24)*8)≤140737488355328∧(List.length y8.2.1+v24)≤9223372036854775807)∧(Zu IntKind.i64 (y8.1+(1:Int))∧R8 ((y8.1+(1:Int)),((y8.2.1++[(v21.1.2.1*v23)]),v26))))) (Zu IntKind.i64 (y8.1+(1:Int))∧R8 ((y8.1+(1:Int)),(y8.2.1,v26)))))))))))) (ZQ.pre (y8.2.1,())∧cond ((ZQ.fn (y8.2.1,())).2 != (0:Int)) (((!((3:Int) != (0:Int)))=true→((!((3:Int) != (0:Int)))=true∧True))∧((((3:Int) != (0:Int))=false→(!((3:Int) != (0:Int)))=true)∧Q (([]:List (List (Zc))),(3:Int)))) (((!(((v10:Nat):Int) == (0:Int)))=true→((!(((v10:Nat):Int) == (0:Int)))=true∧True))∧(((!(((v10:Nat):Int) == (0:Int)))=true→((!(((v10:Nat):Int) == (0:Int)))=true∧True))∧(((!(((v10:Nat):Int) == (0:Int)))=true→((!(((v10:Nat):Int) == (0:Int)))=true∧True))∧(((((v10:Nat):Int) == (0:Int))=false→(!(((v10:Nat):Int) == (0:Int)))=true)∧cond ((((v10:Nat):Int) == (0:Int))||(((v11:Nat):Int) == (0:Int))) (Lp (σ:=Int×(List (List (Zc)))×(ByteArray→Option Bool)) (fun y10 R10=>let v28:=Zl.fn ((y4.2.1,(y4.2.2.2.1,(y8.2.2,(y4.2.2.1,(y4.2.2.2.2.2.2.1,(y4.2.2.2.2.2.2.2,y4.2.2.2.2.2.1)))))),((ZQ.fn (y6.2,())).1,((v27,y10.1),(false,()))));let v29:=Zo.fn ((Zb.fn (v28,())).1,());let v31:=[(Zb.fn (v28,())).1];cond (decide (y10.1 < (ZQ.fn (y8.2.1,())).1)) (((0:Int)≤y4.2.1∧(y4.2.1≤y4.2.1∧((y4.2.1*((8:Nat):Int))≤(140737488355328:Int)∧y4.2.1≤(9223372036854775807:Int))))∧(Zl.pre ((y4.2.1,(y4.2.2.2.1,(y8.2.2,(y4.2.2.1,(y4.2.2.2.2.2.2.1,(y4.2.2.2.2.2.2.2,y4.2.2.2.2.2.1)))))),((ZQ.fn (y6.2,())).1,((v27,y10.1),(false,()))))∧(Zb.pre (v28,())∧cond (((Zb.fn (v28,())).2).2 != (0:Int)) (((!((0:Int) != (0:Int)))=true→((!((0:Int) != (0:Int)))=true∧True))∧((((0:Int) != (0:Int))=false→(!((0:Int) != (0:Int)))=true)∧cond (((0:Int) != (0:Int))||(((Zb.fn (v28,())).2).2 != (0:Int))) (Q (([]:List (List (Zc))),(3:Int))) (Q (([]:List (List (Zc))),(0:Int))))) (((!(((Zb.fn (v28,())).2).1))=true→((!(((Zb.fn (v28,())).2).1))=true∧Zo.pre ((Zb.fn (v28,())).1,())))∧(((!(((Zb.fn (v28,())).2).1))=true→((!(((Zb.fn (v28,())).2).1))=true∧((!(((Zb.fn (v28,())).2).1))=true∧True)))∧((((Zb.fn (v28,())).2).1=false→(!(((Zb.fn (v28,())).2).1))=true)∧cond (((Zb.fn (v28,())).2).1||(Option.getD (y10.2.2 v29) false)) (Zu IntKind.i64 (y10.1+(1:Int))∧R10 ((y10.1+(1:Int)),y10.2)) (Zo.pre ((Zb.fn (v28,())).1,())∧((((List.length y10.2.1+List.length v31)*24)≤140737488355328∧(List.length y10.2.1+List.length v31)≤9223372036854775807)∧cond (decide ((400:Int) < (((List.length (y10.2.1++v31)):Nat):Int))) (((!((0:Int) != (0:Int)))=true→((!((0:Int) != (0:Int)))=true∧True))∧((((0:Int) != (0:Int))=false→(!((0:Int) != (0:Int)))=true)∧Q (([]:List (List (Zc))),(3:Int)))) (Zu IntKind.i64 (y10.1+(1:Int))∧R10 ((y10.1+(1:Int)),((y10.2.1++v31),Zdw y10.2.2 v29 true))))))))))) (((!((0:Int) != (0:Int)))=true→((!((0:Int) != (0:Int)))=true∧True))∧((((0:Int) != (0:Int))=false→(!((0:Int) != (0:Int)))=true)∧Q (y10.2.1,(0:Int))))) ((0:Int),(([]:List (List (Zc))),fun (a10:ByteArray)=>(none:Option Bool)))) (Lp (σ:=Int×(List (List (Zc)))×(ByteArray→Option Bool)) (fun y10 R10=>let v33:=List.getD y8.2.2 (Int.toNat y10.1) (Za,((0:Int),(([]:List Int),(0:Int))));let v34:=ZM.fn ((-(1:Int)),(v33.2.2,((0:Int),(v33.2.2,()))));cond (decide (y10.1 < ((List.length y8.2.2:Nat):Int))) (((0:Int)≤y10.1∧y10.1 < ((List.length y8.2.2:Nat):Int))∧(((!(v33.1.1 == (2:Int)))=true→((!(v33.1.1 == (2:Int)))=true∧True))∧(((!(v33.1.1 == (2:Int)))=true→((!(v33.1.1 == (2:Int)))=true∧True))∧(((!(v33.1.1 == (2:Int)))=true→((!(v33.1.1 == (2:Int)))=true∧((!(v33.1.1 == (2:Int)))=true∧True)))∧(((v33.1.1 == (2:Int))=false→(!(v33.1.1 == (2:Int)))=true)∧cond ((v33.1.1 == (2:Int))||(decide ((0:Int) < v33.2.1) != decide (((v10:Nat):Int)≤((v11:Nat):Int)))) (Zu IntKind.i64 (y10.1+(1:Int))∧R10 ((y10.1+(1:Int)),y10.2)) (Lp (σ:=Int×(List (List (Zc)))×(ByteArray→Option Bool)) (fun y12 R12=>let v35:=Z9.fn (v33.2.2,((-y12.1),()));let v36:=Zl.fn ((y4.2.1,(y4.2.2.2.1,(y8.2.2,(y4.2.2.1,(y4.2.2.2.2.2.2.1,(y4.2.2.2.2.2.2.2,y4.2.2.2.2.2.1)))))),((ZQ.fn (y6.2,())).1,(v35,(true,()))));let v37:=Zo.fn ((Zb.fn (v36,())).1,());let v39:=[(Zb.fn (v36,())).1];let v41:=Z9.fn (v34,(y12.1,()));let v42:=Zl.fn ((y4.2.1,(y4.2.2.2.1,(y8.2.2,(y4.2.2.1,(y4.2.2.2.2.2.2.1,(y4.2.2.2.2.2.2.2,y4.2.2.2.2.2.1)))))),((ZQ.fn (y6.2,())).1,(v41,(true,()))));let v43:=Zo.fn ((Zb.fn (v42,())).1,());let v45:=[(Zb.fn (v42,())).1];cond (decide (y12.1 < (ZQ.fn (y8.2.1,())).1)) (ZM.pre ((-(1:Int)),(v33.2.2,((0:Int),(v33.2.2,()))))∧(Z9.pre (v34,(y12.1,()))∧cond (!(decide (((v10:Nat):Int)≤((v11:Nat):Int)))) (Zu IntKind.i64 (-y12.1)∧(Z9.pre (v33.2.2,((-y12.1),()))∧(Zl.pre ((y4.2.1,(y4.2.2.2.1,(y8.2.2,(y4.2.2.1,(y4.2.2.2.2.2.2.1,(y4.2.2.2.2.2.2.2,y4.2.2.2.2.2.1)))))),((ZQ.fn (y6.2,())).1,(v35,(true,()))))∧(Zb.pre (v36,())∧cond (((Zb.fn (v36,())).2).2 != (0:Int)) (((!((0:Int) != (0:Int)))=true→((!((0:Int) != (0:Int)))=true∧True))∧((((0:Int) != (0:Int))=false→(!((0:Int) != (0:Int)))=true)∧cond (((0:Int) != (0:Int))||(((Zb.fn (v36,())).2).2 != (0:Int))) (Q (([]:List (List (Zc))),(3:Int))) (Q (([]:List (List (Zc))),(0:Int))))) (((!(((Zb.fn (v36,())).2).1))=true→((!(((Zb.fn (v36,())).2).1))=true∧Zo.pre ((Zb.fn (v36,())).1,())))∧(((!(((Zb.fn (v36,())).2).1))=true→((!(((Zb.fn (v36,())).2).1))=true∧((!(((Zb.fn (v36,())).2).1))=true∧True)))∧((((Zb.fn (v36,())).2).1=false→(!(((Zb.fn (v36,())).2).1))=true)∧cond (((Zb.fn (v36,())).2).1||(Option.getD (y12.2.2 v37) false)) (Zu IntKind.i64 (y12.1+(1:Int))∧R12 ((y12.1+(1:Int)),y12.2)) (Zo.pre ((Zb.fn (v36,())).1,())∧((((List.length y12.2.1+List.length v39)*24)≤140737488355328∧(List.length y12.2.1+List.length v39)≤9223372036854775807)∧cond (decide ((400:Int) < (((List.length (y12.2.1++v39)):Nat):Int))) (((!((0:Int) != (0:Int)))=true→((!((0:Int) != (0:Int)))=true∧True))∧((((0:Int) != (0:Int))=false→(!((0:Int) != (0:Int)))=true)∧Q (([]:List (List (Zc))),(3:Int)))) (Zu IntKind.i64 (y12.1+(1:Int))∧R12 ((y12.1+(1:Int)),((y12.2.1++v39),Zdw y12.2.2 v37 true)))))))))))) (Zl.pre ((y4.2.1,(y4.2.2.2.1,(y8.2.2,(y4.2.2.1,(y4.2.2.2.2.2.2.1,(y4.2.2.2.2.2.2.2,y4.2.2.2.2.2.1)))))),((ZQ.fn (y6.2,())).1,(v41,(true,()))))∧(Zb.pre (v42,())∧cond (((Zb.fn (v42,())).2).2 != (0:Int)) (((!((0:Int) != (0:Int)))=true→((!((0:Int) != (0:Int)))=true∧True))∧((((0:Int) != (0:Int))=false→(!((0:Int) != (0:Int)))=true)∧cond (((0:Int) != (0:Int))||(((Zb.fn (v42,())).2).2 != (0:Int))) (Q (([]:List (List (Zc))),(3:Int))) (Q (([]:List (List (Zc))),(0:Int))))) (((!(((Zb.fn (v42,())).2).1))=true→((!(((Zb.fn (v42,())).2).1))=true∧Zo.pre ((Zb.fn (v42,())).1,())))∧(((!(((Zb.fn (v42,())).2).1))=true→((!(((Zb.fn (v42,())).2).1))=true∧((!(((Zb.fn (v42,())).2).1))=true∧True)))∧((((Zb.fn (v42,())).2).1=false→(!(((Zb.fn (v42,())).2).1))=true)∧cond (((Zb.fn (v42,())).2).1||(Option.getD (y12.2.2 v43) false)) (Zu IntKind.i64 (y12.1+(1:Int))∧R12 ((y12.1+(1:Int)),y12.2)) (Zo.pre ((Zb.fn (v42,())).1,())∧((((List.length y12.2.1+List.length v45)*24)≤140737488355328∧(List.length y12.2.1+List.length v45)≤9223372036854775807)∧cond (decide ((400:Int) < (((List.length (y12.2.1++v45)):Nat):Int))) (((!((0:Int) != (0:Int)))=true→((!((0:Int) != (0:Int)))=true∧True))∧((((0:Int) != (0:Int))=false→(!((0:Int) != (0:Int)))=true)∧Q (([]:List (List (Zc))),(3:Int)))) (Zu IntKind.i64 (y12.1+(1:Int))∧R12 ((y12.1+(1:Int)),((y12.2.1++v45),Zdw y12.2.2 v43 true)))))))))))) (Zu IntKind.i64 (y10.1+(1:Int))∧R10 ((y10.1+(1:Int)),y12.2))) ((0:Int),y10.2))))))) (((!((0:Int) != (0:Int)))=true→((!((0:Int) != (0:Int)))=true∧True))∧((((0:Int) != (0:Int))=false→(!((0:Int) != (0:Int)))=true)∧Q (y10.2.1,(0:Int))))) ((0:Int),(([]:List (List (Zc))),fun (a10:ByteArray)=>(none:Option Bool)))))))))) ((0:Int),(([(ZQ.fn (y6.2,())).1]),y4.2.2.2.2.1))))) ((0:Int),([]:List Int))) (Lp (σ:=Int) (fun y6 R6=>let v47:=List.getD y4.2.2.2.2.2.2.1 (Int.toNat y6) (Za,((0:Int),(([]:List Int),(0:Int))));cond (decide (y6 < ((v10:Nat):Int))) (((0:Int)≤y6∧y6 < ((v10:Nat):Int))∧Lp (σ:=Int) (fun y8 R8=>cond (decide (y8 < ((v11:Nat):Int))) (((0:Int)≤y8∧y8 < ((v11:Nat):Int))∧(((v47.2.1 != (1:Int))=true→((v47.2.1 != (1:Int))=true∧True))∧(((v47.2.1 != (1:Int))=true→((v47.2.1 != (1:Int))=true∧True))∧(((v47.2.1 != (1:Int))=true→(v47.2.1 != (1:Int))=true)∧cond ((v47.2.1 != (1:Int))&&((List.getD y4.2.2.2.2.2.2.2 (Int.toNat y8) (Za,((0:Int),(([]:List Int),(0:Int))))).2.1 != (-(1:Int)))) (Lp (σ:=Int×List Int) (fun y10 R10=>let v49:=List.getD y4.2.2.2.2.1 (Int.toNat y10.1) (Za,((0:Int),(([]:List Int),(0:Int))));let v50:=Max.max v49.2.1 (-v49.2.1);cond (decide (y10.1 < ((v5:Nat):Int))) (((0:Int)≤y10.1∧y10.1 < ((v5:Nat):Int))∧(Int.toNat y10.1 < v5∧(Zu IntKind.i64 (-v49.2.1)∧((((List.length y10.2+List.length [v50])*8)≤140737488355328∧(List.length y10.2+List.length [v50])≤9223372036854775807)∧(Zu IntKind.i64 (y10.1+(1:Int))∧R10 ((y10.1+(1:Int)),(y10.2++[v50]))))))) (ZQ.pre (y10.2,())∧cond ((ZQ.fn (y10.2,())).2 != (0:Int)) (((!((3:Int) != (0:Int)))=true→((!((3:Int) != (0:Int)))=true∧True))∧((((3:Int) != (0:Int))=false→(!((3:Int) != (0:Int)))=true)∧Q (([]:List (List (Zc))),(3:Int)))) (Lp (σ:=Int×(List Int)×List ((Zc)×Int×(List Int)×Int)) (fun y12 R12=>let v52:=List.getD y12.2.2 (Int.toNat y12.1) (Za,((0:Int),(([]:List Int),(0:Int))));let v53:=Max.max v52.2.1 (-v52.2.1);let v54:=Int.tdiv ((ZQ.fn (y10.2,())).1) v53;let v55:=List.length ([(v52.1.2.1*v54)]);let v57:=List.set y12.2.2 (Int.toNat y12.1) ((v52.1.1,((v52.1.2.1*v54),(([]:List Int),(0:Int)))),((v52.2.1*v54),(ZM.fn (v54,(v52.2.2,((0:Int),(v52.2.2,())))))));let v58:=ZQ.fn (y12.2.1,());cond (decide (y12.1 < ((v5:Nat):Int))) (((0:Int)≤y12.1∧y12.1 < ((List.length y12.2.2:Nat):Int))∧(Int.toNat y12.1 < List.length y12.2.2∧(Zu IntKind.i64 (-v52.2.1)∧((v53≠(0:Int)∧Zu IntKind.i64 v54)∧(Zu IntKind.i64 (v52.1.2.1*v54)∧(Zu IntKind.i64 (v52.2.1*v54)∧(ZM.pre (v54,(v52.2.2,((0:Int),(v52.2.2,()))))∧(((0:Int)≤y12.1∧y12.1 < ((List.length y12.2.2:Nat):Int))∧(Int.toNat y12.1 < List.length y12.2.2∧cond (v52.1.1 == (2:Int)) (Zu IntKind.i64 (v52.1.2.1*v54)∧((((List.length y12.2.1+v55)*8)≤140737488355328∧(List.length y12.2.1+v55)≤9223372036854775807)∧(Zu IntKind.i64 (y12.1+(1:Int))∧R12 ((y12.1+(1:Int)),((y12.2.1++[(v52.1.2.1*v54)]),v57))))) (Zu IntKind.i64 (y12.1+(1:Int))∧R12 ((y12.1+(1:Int)),(y12.2.1,v57)))))))))))) (ZQ.pre (y12.2.1,())∧cond (v58.2 != (0:Int)) (((!((3:Int) != (0:Int)))=true→((!((3:Int) != (0:Int)))=true∧True))∧((((3:Int) != (0:Int))=false→(!((3:Int) != (0:Int)))=true)∧Q (([]:List (List (Zc))),(3:Int)))) (((!(((v10:Nat):Int) == (0:Int)))=true→((!(((v10:Nat):Int) == (0:Int)))=true∧True))∧(((!(((v10:Nat):Int) == (0:Int)))=true→((!(((v10:Nat):Int) == (0:Int)))=true∧True))∧(((!(((v10:Nat):Int) == (0:Int)))=true→((!(((v10:Nat):Int) == (0:Int)))=true∧True))∧(((((v10:Nat):Int) == (0:Int))=false→(!(((v10:Nat):Int) == (0:Int)))=true)∧cond ((((v10:Nat):Int) == (0:Int))||(((v11:Nat):Int) == (0:Int))) (Lp (σ:=Int×(List (List (Zc)))×(ByteArray→Option Bool)) (fun y14 R14=>let v59:=Zl.fn ((y4.2.1,(y4.2.2.2.1,(y12.2.2,(y4.2.2.1,(y4.2.2.2.2.2.2.1,(y4.2.2.2.2.2.2.2,y4.2.2.2.2.2.1)))))),((ZQ.fn (y10.2,())).1,((v27,y14.1),(false,()))));let v60:=Zo.fn ((Zb.fn (v59,())).1,());let v62:=[(Zb.fn (v59,())).1];cond (decide (y14.1 < v58.1)) (((0:Int)≤y4.2.1∧(y4.2.1≤y4.2.1∧((y4.2.1*((8:Nat):Int))≤(140737488355328:Int)∧y4.2.1≤(9223372036854775807:Int))))∧(Zl.pre ((y4.2.1,(y4.2.2.2.1,(y12.2.2,(y4.2.2.1,(y4.2.2.2.2.2.2.1,(y4.2.2.2.2.2.2.2,y4.2.2.2.2.2.1)))))),((ZQ.fn (y10.2,())).1,((v27,y14.1),(false,()))))∧(Zb.pre (v59,())∧cond (((Zb.fn (v59,())).2).2 != (0:Int)) (((!((0:Int) != (0:Int)))=true→((!((0:Int) != (0:Int)))=true∧True))∧((((0:Int) != (0:Int))=false→(!((0:Int) != (0:Int)))=true)∧cond (((0:Int) != (0:Int))||(((Zb.fn (v59,())).2).2 != (0:Int))) (Q (([]:List (List (Zc))),(3:Int))) (Q (([]:List (List (Zc))),(0:Int))))) (((!(((Zb.fn (v59,())).2).1))=true→((!(((Zb.fn (v59,())).2).1))=true∧Zo.pre ((Zb.fn (v59,())).1,())))∧(((!(((Zb.fn (v59,())).2).1))=true→((!(((Zb.fn (v59,())).2).1))=true∧((!(((Zb.fn (v59,())).2).1))=true∧True)))∧((((Zb.fn (v59,())).2).1=false→(!(((Zb.fn (v59,())).2).1))=true)∧cond (((Zb.fn (v59,())).2).1||(Option.getD (y14.2.2 v60) false)) (Zu IntKind.i64 (y14.1+(1:Int))∧R14 ((y14.1+(1:Int)),y14.2)) (Zo.pre ((Zb.fn (v59,())).1,())∧((((List.length y14.2.1+List.length v62)*24)≤140737488355328∧(List.length y14.2.1+List.length v62)≤9223372036854775807)∧cond (decide ((400:Int) < (((List.length (y14.2.1++v62)):Nat):Int))) (((!((0:Int) != (0:Int)))=true→((!((0:Int) != (0:Int)))=true∧True))∧((((0:Int) != (0:Int))=false→(!((0:Int) != (0:Int)))=true)∧Q (([]:List (List (Zc))),(3:Int)))) (Zu IntKind.i64 (y14.1+(1:Int))∧R14 ((y14.1+(1:Int)),((y14.2.1++v62),Zdw y14.2.2 v60 true))))))))))) (((!((0:Int) != (0:Int)))=true→((!((0:Int) != (0:Int)))=true∧True))∧((((0:Int) != (0:Int))=false→(!((0:Int) != (0:Int)))=true)∧Q (y14.2.1,(0:Int))))) ((0:Int),(([]:List (List (Zc))),fun (a14:ByteArray)=>(none:Option Bool)))) (Lp (σ:=Int×(List (List (Zc)))×(ByteArray→Option Bool)) (fun y14 R14=>let v64:=List.getD y12.2.2 (Int.toNat y14.1) (Za,((0:Int),(([]:List Int),(0:Int))));let v65:=ZM.fn ((-(1:Int)),(v64.2.2,((0:Int),(v64.2.2,()))));cond (decide (y14.1 < ((List.length y12.2.2:Nat):Int))) (((0:Int)≤y14.1∧y14.1 < ((List.length y12.2.2:Nat):Int))∧(((!(v64.1.1 == (2:Int)))=true→((!(v64.1.1 == (2:Int)))=true∧True))∧(((!(v64.1.1 == (2:Int)))=true→((!(v64.1.1 == (2:Int)))=true∧True))∧(((!(v64.1.1 == (2:Int)))=true→((!(v64.1.1 == (2:Int)))=true∧((!(v64.1.1 == (2:Int)))=true∧True)))∧(((v64.1.1 == (2:Int))=false→(!(v64.1.1 == (2:Int)))=true)∧cond ((v64.1.1 == (2:Int))||(decide ((0:Int) < v64.2.1) != decide (((v10:Nat):Int)≤((v11:Nat):Int)))) (Zu IntKind.i64 (y14.1+(1:Int))∧R14 ((y14.1+(1:Int)),y14.2)) (Lp (σ:=Int×(List (List (Zc)))×(ByteArray→Option Bool)) (fun y16 R16=>let v66:=Z9.fn (v64.2.2,((-y16.1),()));let v67:=Zl.fn ((y4.2.1,(y4.2.2.2.1,(y12.2.2,(y4.2.2.1,(y4.2.2.2.2.2.2.1,(y4.2.2.2.2.2.2.2,y4.2.2.2.2.2.1)))))),((ZQ.fn (y10.2,())).1,(v66,(true,()))));let v68:=Zo.fn ((Zb.fn (v67,())).1,());let v70:=[(Zb.fn (v67,())).1];let v72:=Z9.fn (v65,(y16.1,()));let v73:=Zl.fn ((y4.2.1,(y4.2.2.2.1,(y12.2.2,(y4.2.2.1,(y4.2.2.2.2.2.2.1,(y4.2.2.2.2.2.2.2,y4.2.2.2.2.2.1)))))),((ZQ.fn (y10.2,())).1,(v72,(true,()))));let v74:=Zo.fn ((Zb.fn (v73,())).1,());let v76:=[(Zb.fn (v73,())).1];cond (decide (y16.1 < v58.1)) (ZM.pre ((-(1:Int)),(v64.2.2,((0:Int),(v64.2.2,()))))∧(Z9.pre (v65,(y16.1,()))∧cond (!(decide (((v10:Nat):Int)≤((v11:Nat):Int)))) (Zu IntKind.i64 (-y16.1)∧(Z9.pre (v64.2.2,((-y16.1),()))∧(Zl.pre ((y4.2.1,(y4.2.2.2.1,(y12.2.2,(y4.2.2.1,(y4.2.2.2.2.2.2.1,(y4.2.2.2.2.2.2.2,y4.2.2.2.2.2.1)))))),((ZQ.fn (y10.2,())).1,(v66,(true,()))))∧(Zb.pre (v67,())∧cond (((Zb.fn (v67,())).2).2 != (0:Int)) (((!((0:Int) != (0:Int)))=true→((!((0:Int) != (0:Int)))=true∧True))∧((((0:Int) != (0:Int))=false→(!((0:Int) != (0:Int)))=true)∧cond (((0:Int) != (0:Int))||(((Zb.fn (v67,())).2).2 != (0:Int))) (Q (([]:List (List (Zc))),(3:Int))) (Q (([]:List (List (Zc))),(0:Int))))) (((!(((Zb.fn (v67,())).2).1))=true→((!(((Zb.fn (v67,())).2).1))=true∧Zo.pre ((Zb.fn (v67,())).1,())))∧(((!(((Zb.fn (v67,())).2).1))=true→((!(((Zb.fn (v67,())).2).1))=true∧((!(((Zb.fn (v67,())).2).1))=true∧True)))∧((((Zb.fn (v67,())).2).1=false→(!(((Zb.fn (v67,())).2).1))=true)∧cond (((Zb.fn (v67,())).2).1||(Option.getD (y16.2.2 v68) false)) (Zu IntKind.i64 (y16.1+(1:Int))∧R16 ((y16.1+(1:Int)),y16.2)) (Zo.pre ((Zb.fn (v67,())).1,())∧((((List.length y16.2.1+List.length v70)*24)≤140737488355328∧(List.length y16.2.1+List.length v70)≤9223372036854775807)∧cond (decide ((400:Int) < (((List.length (y16.2.1++v70)):Nat):Int))) (((!((0:Int) != (0:Int)))=true→((!((0:Int) != (0:Int)))=true∧True))∧((((0:Int) != (0:Int))=false→(!((0:Int) != (0:Int)))=true)∧Q (([]:List (List (Zc))),(3:Int)))) (Zu IntKind.i64 (y16.1+(1:Int))∧R16 ((y16.1+(1:Int)),((y16.2.1++v70),Zdw y16.2.2 v68 true)))))))))))) (Zl.pre ((y4.2.1,(y4.2.2.2.1,(y12.2.2,(y4.2.2.1,(y4.2.2.2.2.2.2.1,(y4.2.2.2.2.2.2.2,y4.2.2.2.2.2.1)))))),((ZQ.fn (y10.2,())).1,(v72,(true,()))))∧(Zb.pre (v73,())∧cond (((Zb.fn (v73,())).2).2 != (0:Int)) (((!((0:Int) != (0:Int)))=true→((!((0:Int) != (0:Int)))=true∧True))∧((((0:Int) != (0:Int))=false→(!((0:Int) != (0:Int)))=true)∧cond (((0:Int) != (0:Int))||(((Zb.fn (v73,())).2).2 != (0:Int))) (Q (([]:List (List (Zc))),(3:Int))) (Q (([]:List (List (Zc))),(0:Int))))) (((!(((Zb.fn (v73,())).2).1))=true→((!(((Zb.fn (v73,())).2).1))=true∧Zo.pre ((Zb.fn (v73,())).1,())))∧(((!(((Zb.fn (v73,())).2).1))=true→((!(((Zb.fn (v73,())).2).1))=true∧((!(((Zb.fn (v73,())).2).1))=true∧True)))∧((((Zb.fn (v73,())).2).1=false→(!(((Zb.fn (v73,())).2).1))=true)∧cond (((Zb.fn (v73,())).2).1||(Option.getD (y16.2.2 v74) false)) (Zu IntKind.i64 (y16.1+(1:Int))∧R16 ((y16.1+(1:Int)),y16.2)) (Zo.pre ((Zb.fn (v73,())).1,())∧((((List.length y16.2.1+List.length v76)*24)≤140737488355328∧(List.length y16.2.1+List.length v76)≤9223372036854775807)∧cond (decide ((400:Int) < (((List.length (y16.2.1++v76)):Nat):Int))) (((!((0:Int) != (0:Int)))=true→((!((0:Int) != (0:Int)))=true∧True))∧((((0:Int) != (0:Int))=false→(!((0:Int) != (0:Int)))=true)∧Q (([]:List (List (Zc))),(3:Int)))) (Zu IntKind.i64 (y16.1+(1:Int))∧R16 ((y16.1+(1:Int)),((y16.2.1++v76),Zdw y16.2.2 v74 true)))))))))))) (Zu IntKind.i64 (y14.1+(1:Int))∧R14 ((y14.1+(1:Int)),y16.2))) ((0:Int),y14.2))))))) (((!((0:Int) != (0:Int)))=true→((!((0:Int) != (0:Int)))=true∧True))∧((((0:Int) != (0:Int))=false→(!((0:Int) != (0:Int)))=true)∧Q (y14.2.1,(0:Int))))) ((0:Int),(([]:List (List (Zc))),fun (a14:ByteArray)=>(none:Option Bool)))))))))) ((0:Int),(([(ZQ.fn (y10.2,())).1]),y4.2.2.2.2.1))))) ((0:Int),([]:List Int))) (Zu IntKind.i64 (y8+(1:Int))∧R8 (y8+(1:Int))))))) (Zu IntKind.i64 (y6+(1:Int))∧R6 (y6+(1:Int)))) (0:Int)) (Zr.pre ((y4.2.1,(y4.2.2.2.1,(y4.2.2.2.2.1,(y4.2.2.1,(y4.2.2.2.2.2.2.1,(y4.2.2.2.2.2.2.2,y4.2.2.2.2.2.1)))))),())∧Lp (σ:=Int×(List (List (Zc)))×(ByteArray→Option Bool)) (fun y8 R8=>let v79:=List.getD v78 (Int.toNat y8.1) ([]:List (Zc));let v80:=Zo.fn ((Zb.fn (v79,())).1,());let v82:=[(Zb.fn (v79,())).1];cond (decide (y8.1 < ((List.length v78:Nat):Int))) (((0:Int)≤y8.1∧y8.1 < ((List.length v78:Nat):Int))∧(Zb.pre (v79,())∧cond (((Zb.fn (v79,())).2).2 != (0:Int)) (((!((0:Int) != (0:Int)))=true→((!((0:Int) != (0:Int)))=true∧True))∧((((0:Int) != (0:Int))=false→(!((0:Int) != (0:Int)))=true)∧cond (((0:Int) != (0:Int))||(((Zb.fn (v79,())).2).2 != (0:Int))) (Q (([]:List (List (Zc))),(3:Int))) (Q (([]:List (List (Zc))),(0:Int))))) (((!(((Zb.fn (v79,())).2).1))=true→((!(((Zb.fn (v79,())).2).1))=true∧Zo.pre ((Zb.fn (v79,())).1,())))∧(((!(((Zb.fn (v79,())).2).1))=true→((!(((Zb.fn (v79,())).2).1))=true∧((!(((Zb.fn (v79,())).2).1))=true∧True)))∧((((Zb.fn (v79,())).2).1=false→(!(((Zb.fn (v79,())).2).1))=true)∧cond (((Zb.fn (v79,())).2).1||(Option.getD (y8.2.2 v80) false)) (Zu IntKind.i64 (y8.1+(1:Int))∧R8 ((y8.1+(1:Int)),y8.2)) (Zo.pre ((Zb.fn (v79,())).1,())∧((((List.length y8.2.1+List.length v82)*24)≤140737488355328∧(List.length y8.2.1+List.length v82)≤9223372036854775807)∧cond (decide ((400:Int) < (((List.length (y8.2.1++v82)):Nat):Int))) (((!((0:Int) != (0:Int)))=true→((!((0:Int) != (0:Int)))=true∧True))∧((((0:Int) != (0:Int))=false→(!((0:Int) != (0:Int)))=true)∧Q (([]:List (List (Zc))),(3:Int)))) (Zu IntKind.i64 (y8.1+(1:Int))∧R8 ((y8.1+(1:Int)),((y8.2.1++v82),Zdw y8.2.2 v80 true)))))))))) (((!((0:Int) != (0:Int)))=true→((!((0:Int) != (0:Int)))=true∧True))∧((((0:Int) != (0:Int))=false→(!((0:Int) != (0:Int)))=true)∧Q (y8.2.1,(0:Int))))) ((0:Int),(([]:List (List (Zc))),fun (a8:ByteArray)=>(none:Option Bool))))) (0:Int))))) ((0:Int),((x1 - (1:Int)),((-(1:Int)),(([]:List (Zc)),(([]:List ((Zc)×Int×(List Int)×Int)),(([]:List ((Zc)×Int×(List Int)×Int)),(([]:List ((Zc)×Int×(List Int)×Int)),([]:List ((Zc)×Int×(List Int)×Int))))))))))
def ZeE (n:Int) (oth:List Zc) (parts:List Part) (e:Int) (lows ups divs:List Part) (Q:(List (List Zc))×Int→Prop):Prop:=let v5:=List.length parts;let v10:=List.length lows;let v11:=List.length ups;let v27:=List.replicate (Int.toNat n) (0:Int);Lp (σ:=Int×List Int) (fun y6 R6=>let v18:=List.getD parts (Int.toNat y6.1) (Za,((0:Int),(([]:List Int),(0:Int))));let v19:=Max.max v18.2.1 (-v18.2.1);cond (decide (y6.1 < ((v5:Nat):Int))) (((0:Int)≤y6.1∧y6.1 < ((v5:Nat):Int))∧(Int.toNat y6.1 < v5∧(Zu IntKind.i64 (-v18.2.1)∧((((List.length y6.2+List.length [v19])*8)≤140737488355328∧(List.length y6.2+List.length [v19])≤9223372036854775807)∧(Zu IntKind.i64 (y6.1+(1:Int))∧R6 ((y6.1+(1:Int)),(y6.2++[v19]))))))) (ZQ.pre (y6.2,())∧cond ((ZQ.fn (y6.2,())).2 != (0:Int)) (((!((3:Int) != (0:Int)))=true→((!((3:Int) != (0:Int)))=true∧True))∧((((3:Int) != (0:Int))=false→(!((3:Int) != (0:Int)))=true)∧Q (([]:List (List (Zc))),(3:Int)))) (Lp (σ:=Int×(List Int)×List ((Zc)×Int×(List Int)×Int)) (fun y8 R8=>let v21:=List.getD y8.2.2 (Int.toNat y8.1) (Za,((0:Int),(([]:List Int),(0:Int))));let v22:=Max.max v21.2.1 (-v21.2.1);let v23:=Int.tdiv ((ZQ.fn (y6.2,())).1) v22;let v24:=List.length ([(v21.1.2.1*v23)]);let v26:=List.set y8.2.2 (Int.toNat y8.1) ((v21.1.1,((v21.1.2.1*v23),(([]:List Int),(0:Int)))),((v21.2.1*v23),(ZM.fn (v23,(v21.2.2,((0:Int),(v21.2.2,())))))));cond (decide (y8.1 < ((v5:Nat):Int))) (((0:Int)≤y8.1∧y8.1 < ((List.length y8.2.2:Nat):Int))∧(Int.toNat y8.1 < List.length y8.2.2∧(Zu IntKind.i64 (-v21.2.1)∧((v22≠(0:Int)∧Zu IntKind.i64 v23)∧(Zu IntKind.i64 (v21.1.2.1*v23)∧(Zu IntKind.i64 (v21.2.1*v23)∧(ZM.pre (v23,(v21.2.2,((0:Int),(v21.2.2,()))))∧(((0:Int)≤y8.1∧y8.1 < ((List.length y8.2.2:Nat):Int))∧(Int.toNat y8.1 < List.length y8.2.2∧cond (v21.1.1 == (2:Int)) (Zu IntKind.i64 (v21.1.2.1*v23)∧((((List.length y8.2.1+v24)*8)≤140737488355328∧(List.length y8.2.1+v24)≤9223372036854775807)∧(Zu IntKind.i64 (y8.1+(1:Int))∧R8 ((y8.1+(1:Int)),((y8.2.1++[(v21.1.2.1*v23)]),v26))))) (Zu IntKind.i64 (y8.1+(1:Int))∧R8 ((y8.1+(1:Int)),(y8.2.1,v26)))))))))))) (ZQ.pre (y8.2.1,())∧cond ((ZQ.fn (y8.2.1,())).2 != (0:Int)) (((!((3:Int) != (0:Int)))=true→((!((3:Int) != (0:Int)))=true∧True))∧((((3:Int) != (0:Int))=false→(!((3:Int) != (0:Int)))=true)∧Q (([]:List (List (Zc))),(3:Int)))) (((!(((v10:Nat):Int) == (0:Int)))=true→((!(((v10:Nat):Int) == (0:Int)))=true∧True))∧(((!(((v10:Nat):Int) == (0:Int)))=true→((!(((v10:Nat):Int) == (0:Int)))=true∧True))∧(((!(((v10:Nat):Int) == (0:Int)))=true→((!(((v10:Nat):Int) == (0:Int)))=true∧True))∧(((((v10:Nat):Int) == (0:Int))=false→(!(((v10:Nat):Int) == (0:Int)))=true)∧cond ((((v10:Nat):Int) == (0:Int))||(((v11:Nat):Int) == (0:Int))) (Lp (σ:=Int×(List (List (Zc)))×(ByteArray→Option Bool)) (fun y10 R10=>let v28:=Zl.fn ((n,(oth,(y8.2.2,(e,(lows,(ups,divs)))))),((ZQ.fn (y6.2,())).1,((v27,y10.1),(false,()))));let v29:=Zo.fn ((Zb.fn (v28,())).1,());let v31:=[(Zb.fn (v28,())).1];cond (decide (y10.1 < (ZQ.fn (y8.2.1,())).1)) (((0:Int)≤n∧(n≤n∧((n*((8:Nat):Int))≤(140737488355328:Int)∧n≤(9223372036854775807:Int))))∧(Zl.pre ((n,(oth,(y8.2.2,(e,(lows,(ups,divs)))))),((ZQ.fn (y6.2,())).1,((v27,y10.1),(false,()))))∧(Zb.pre (v28,())∧cond (((Zb.fn (v28,())).2).2 != (0:Int)) (((!((0:Int) != (0:Int)))=true→((!((0:Int) != (0:Int)))=true∧True))∧((((0:Int) != (0:Int))=false→(!((0:Int) != (0:Int)))=true)∧cond (((0:Int) != (0:Int))||(((Zb.fn (v28,())).2).2 != (0:Int))) (Q (([]:List (List (Zc))),(3:Int))) (Q (([]:List (List (Zc))),(0:Int))))) (((!(((Zb.fn (v28,())).2).1))=true→((!(((Zb.fn (v28,())).2).1))=true∧Zo.pre ((Zb.fn (v28,())).1,())))∧(((!(((Zb.fn (v28,())).2).1))=true→((!(((Zb.fn (v28,())).2).1))=true∧((!(((Zb.fn (v28,())).2).1))=true∧True)))∧((((Zb.fn (v28,())).2).1=false→(!(((Zb.fn (v28,())).2).1))=true)∧cond (((Zb.fn (v28,())).2).1||(Option.getD (y10.2.2 v29) false)) (Zu IntKind.i64 (y10.1+(1:Int))∧R10 ((y10.1+(1:Int)),y10.2)) (Zo.pre ((Zb.fn (v28,())).1,())∧((((List.length y10.2.1+List.length v31)*24)≤140737488355328∧(List.length y10.2.1+List.length v31)≤9223372036854775807)∧cond (decide ((400:Int) < (((List.length (y10.2.1++v31)):Nat):Int))) (((!((0:Int) != (0:Int)))=true→((!((0:Int) != (0:Int)))=true∧True))∧((((0:Int) != (0:Int))=false→(!((0:Int) != (0:Int)))=true)∧Q (([]:List (List (Zc))),(3:Int)))) (Zu IntKind.i64 (y10.1+(1:Int))∧R10 ((y10.1+(1:Int)),((y10.2.1++v31),Zdw y10.2.2 v29 true))))))))))) (((!((0:Int) != (0:Int)))=true→((!((0:Int) != (0:Int)))=true∧True))∧((((0:Int) != (0:Int))=false→(!((0:Int) != (0:Int)))=true)∧Q (y10.2.1,(0:Int))))) ((0:Int),(([]:List (List (Zc))),fun (a10:ByteArray)=>(none:Option Bool)))) (Lp (σ:=Int×(List (List (Zc)))×(ByteArray→Option Bool)) (fun y10 R10=>let v33:=List.getD y8.2.2 (Int.toNat y10.1) (Za,((0:Int),(([]:List Int),(0:Int))));let v34:=ZM.fn ((-(1:Int)),(v33.2.2,((0:Int),(v33.2.2,()))));cond (decide (y10.1 < ((List.length y8.2.2:Nat):Int))) (((0:Int)≤y10.1∧y10.1 < ((List.length y8.2.2:Nat):Int))∧(((!(v33.1.1 == (2:Int)))=true→((!(v33.1.1 == (2:Int)))=true∧True))∧(((!(v33.1.1 == (2:Int)))=true→((!(v33.1.1 == (2:Int)))=true∧True))∧(((!(v33.1.1 == (2:Int)))=true→((!(v33.1.1 == (2:Int)))=true∧((!(v33.1.1 == (2:Int)))=true∧True)))∧(((v33.1.1 == (2:Int))=false→(!(v33.1.1 == (2:Int)))=true)∧cond ((v33.1.1 == (2:Int))||(decide ((0:Int) < v33.2.1) != decide (((v10:Nat):Int)≤((v11:Nat):Int)))) (Zu IntKind.i64 (y10.1+(1:Int))∧R10 ((y10.1+(1:Int)),y10.2)) (Lp (σ:=Int×(List (List (Zc)))×(ByteArray→Option Bool)) (fun y12 R12=>let v35:=Z9.fn (v33.2.2,((-y12.1),()));let v36:=Zl.fn ((n,(oth,(y8.2.2,(e,(lows,(ups,divs)))))),((ZQ.fn (y6.2,())).1,(v35,(true,()))));let v37:=Zo.fn ((Zb.fn (v36,())).1,());let v39:=[(Zb.fn (v36,())).1];let v41:=Z9.fn (v34,(y12.1,()));let v42:=Zl.fn ((n,(oth,(y8.2.2,(e,(lows,(ups,divs)))))),((ZQ.fn (y6.2,())).1,(v41,(true,()))));let v43:=Zo.fn ((Zb.fn (v42,())).1,());let v45:=[(Zb.fn (v42,())).1];cond (decide (y12.1 < (ZQ.fn (y8.2.1,())).1)) (ZM.pre ((-(1:Int)),(v33.2.2,((0:Int),(v33.2.2,()))))∧(Z9.pre (v34,(y12.1,()))∧cond (!(decide (((v10:Nat):Int)≤((v11:Nat):Int)))) (Zu IntKind.i64 (-y12.1)∧(Z9.pre (v33.2.2,((-y12.1),()))∧(Zl.pre ((n,(oth,(y8.2.2,(e,(lows,(ups,divs)))))),((ZQ.fn (y6.2,())).1,(v35,(true,()))))∧(Zb.pre (v36,())∧cond (((Zb.fn (v36,())).2).2 != (0:Int)) (((!((0:Int) != (0:Int)))=true→((!((0:Int) != (0:Int)))=true∧True))∧((((0:Int) != (0:Int))=false→(!((0:Int) != (0:Int)))=true)∧cond (((0:Int) != (0:Int))||(((Zb.fn (v36,())).2).2 != (0:Int))) (Q (([]:List (List (Zc))),(3:Int))) (Q (([]:List (List (Zc))),(0:Int))))) (((!(((Zb.fn (v36,())).2).1))=true→((!(((Zb.fn (v36,())).2).1))=true∧Zo.pre ((Zb.fn (v36,())).1,())))∧(((!(((Zb.fn (v36,())).2).1))=true→((!(((Zb.fn (v36,())).2).1))=true∧((!(((Zb.fn (v36,())).2).1))=true∧True)))∧((((Zb.fn (v36,())).2).1=false→(!(((Zb.fn (v36,())).2).1))=true)∧cond (((Zb.fn (v36,())).2).1||(Option.getD (y12.2.2 v37) false)) (Zu IntKind.i64 (y12.1+(1:Int))∧R12 ((y12.1+(1:Int)),y12.2)) (Zo.pre ((Zb.fn (v36,())).1,())∧((((List.length y12.2.1+List.length v39)*24)≤140737488355328∧(List.length y12.2.1+List.length v39)≤9223372036854775807)∧cond (decide ((400:Int) < (((List.length (y12.2.1++v39)):Nat):Int))) (((!((0:Int) != (0:Int)))=true→((!((0:Int) != (0:Int)))=true∧True))∧((((0:Int) != (0:Int))=false→(!((0:Int) != (0:Int)))=true)∧Q (([]:List (List (Zc))),(3:Int)))) (Zu IntKind.i64 (y12.1+(1:Int))∧R12 ((y12.1+(1:Int)),((y12.2.1++v39),Zdw y12.2.2 v37 true)))))))))))) (Zl.pre ((n,(oth,(y8.2.2,(e,(lows,(ups,divs)))))),((ZQ.fn (y6.2,())).1,(v41,(true,()))))∧(Zb.pre (v42,())∧cond (((Zb.fn (v42,())).2).2 != (0:Int)) (((!((0:Int) != (0:Int)))=true→((!((0:Int) != (0:Int)))=true∧True))∧((((0:Int) != (0:Int))=false→(!((0:Int) != (0:Int)))=true)∧cond (((0:Int) != (0:Int))||(((Zb.fn (v42,())).2).2 != (0:Int))) (Q (([]:List (List (Zc))),(3:Int))) (Q (([]:List (List (Zc))),(0:Int))))) (((!(((Zb.fn (v42,())).2).1))=true→((!(((Zb.fn (v42,())).2).1))=true∧Zo.pre ((Zb.fn (v42,())).1,())))∧(((!(((Zb.fn (v42,())).2).1))=true→((!(((Zb.fn (v42,())).2).1))=true∧((!(((Zb.fn (v42,())).2).1))=true∧True)))∧((((Zb.fn (v42,())).2).1=false→(!(((Zb.fn (v42,())).2).1))=true)∧cond (((Zb.fn (v42,())).2).1||(Option.getD (y12.2.2 v43) false)) (Zu IntKind.i64 (y12.1+(1:Int))∧R12 ((y12.1+(1:Int)),y12.2)) (Zo.pre ((Zb.fn (v42,())).1,())∧((((List.length y12.2.1+List.length v45)*24)≤140737488355328∧(List.length y12.2.1+List.length v45)≤9223372036854775807)∧cond (decide ((400:Int) < (((List.length (y12.2.1++v45)):Nat):Int))) (((!((0:Int) != (0:Int)))=true→((!((0:Int) != (0:Int)))=true∧True))∧((((0:Int) != (0:Int))=false→(!((0:Int) != (0:Int)))=true)∧Q (([]:List (List (Zc))),(3:Int)))) (Zu IntKind.i64 (y12.1+(1:Int))∧R12 ((y12.1+(1:Int)),((y12.2.1++v45),Zdw y12.2.2 v43 true)))))))))))) (Zu IntKind.i64 (y10.1+(1:Int))∧R10 ((y10.1+(1:Int)),y12.2))) ((0:Int),y10.2))))))) (((!((0:Int) != (0:Int)))=true→((!((0:Int) != (0:Int)))=true∧True))∧((((0:Int) != (0:Int))=false→(!((0:Int) != (0:Int)))=true)∧Q (y10.2.1,(0:Int))))) ((0:Int),(([]:List (List (Zc))),fun (a10:ByteArray)=>(none:Option Bool)))))))))) ((0:Int),(([(ZQ.fn (y6.2,())).1]),parts))))) ((0:Int),([]:List Int))
end Go.Proofs.YtgpdnmfpgkkgcaaGreatDoor
namespace Go.Proofs.YtgpdnmfpgkkgcaaGreatDoor
open Go
set_option linter.unusedVariables false
theorem Zi6 {β:Type} {d:β} {n j:Nat} {f:Nat→β} (h:j < n):((List.range n).map f).getD j d=f j:=by
 rw [List.getD_eq_getElem?_getD,List.getElem?_map,List.getElem?_range h];rfl
theorem Zsd {β:Type} {n j:Nat} {f g:Nat→β} (h:∀ i,i≠j→f i=g i):((List.range n).map f).set j (g j)=(List.range n).map g:=by
 apply List.ext_getElem (by simp)
 intro i h1 h2
 simp only [List.getElem_set,List.getElem_map,List.getElem_range]
 split
 ·rename_i e;rw [e]
 ·rename_i e;exact h i (fun e'=>e e'.symm)
theorem Zmi {α β:Type} (d:α) (l:List α) (f:α→β):(List.range l.length).map (fun i=>f (l.getD i d))=l.map f:=by
 apply List.ext_getElem (by simp)
 intro i h1 h2
 simp only [List.getElem_map,List.getElem_range]
 rw [ZT (by simpa using h2)]
theorem ZgK {α τ:Type} (f:α→Bool) (g:τ→α→Option τ):∀ (l:List α) (a:τ),l.foldlM (fun t x=>if f x=true then g t x else some t) a=(l.filter f).foldlM g a
 | [],a=>rfl
 | x::l,a=>by
   rw [List.foldlM_cons]
   by_cases h:f x=true
   ·rw [if_pos h,List.filter_cons_of_pos h,List.foldlM_cons]
    cases g a x with
    | none=>rfl
    | some t=>exact ZgK f g l t
   ·rw [if_neg h,List.filter_cons_of_neg h]
    exact ZgK f g l a
theorem Zfd {α β τ:Type} (f:α→List β) (g:τ→β→Option τ):∀ (l:List α) (a:τ),(l.flatMap f).foldlM g a=l.foldlM (fun t x=>(f x).foldlM g t) a
 | [],a=>rfl
 | x::l,a=>by
   rw [List.flatMap_cons,List.foldlM_append,List.foldlM_cons]
   cases (f x).foldlM g a with
   | none=>rfl
   | some t=>exact Zfd f g l t
def Zho (v:Nat) (l:Int) (c:Zc):Part:=((c.1,c.2.1*ZbN v l c,[],0),Zf v c*ZbN v l c,Zcf (ZbN v l c) (ZaX v c) 0 (ZaX v c))
theorem ZfZ (v:Nat) (l:Int) (c:Zc):(Zho v l c).2.2=Zjb v l c:=by unfold Zho;simp only [Zdc];rfl
theorem Zup {a l:Int} (h0:a≠0) (hl:l.tdiv (Zbe a)*Zbe a=l) (h1:1≤l):(a*l.tdiv (Zbe a)).tdiv l=ZmH a:=by
 have e:a*l.tdiv (Zbe a)=ZmH a*l:=by
  by_cases h:a < 0
  ·have ha:Zbe a=-a:=by unfold Zbe;omega
   rw [ha] at hl ⊢
   unfold ZmH
   rw [if_pos h,← Int.neg_inj,show -(-1*l)=l by omega,← Int.neg_mul,Int.mul_comm];exact hl
  ·have ha:Zbe a=a:=by unfold Zbe;omega
   rw [ha] at hl ⊢
   unfold ZmH
   rw [if_neg h,Int.one_mul,Int.mul_comm];exact hl
 rw [e,Int.mul_tdiv_cancel _ (by omega)]
theorem Zim {a f:Int} (hf:1≤f):0 < a*f↔0 < a:=by
 constructor
 ·intro h
  apply Classical.byContradiction
  intro hn
  have:=Int.mul_nonpos_of_nonpos_of_nonneg (show a≤0 by omega) (show 0≤f by omega)
  omega
 ·exact fun h=>Int.mul_pos h (by omega)
section
variable {p:List Zc} {N V:Nat}
theorem ZgJ (hN:pieceN p (N:Int)) (hV:V < N) {c:Zc} (hc:c∈p):Zpi (N - 1) (ZaT V c):=by
 have hcn:=hN.c hc
 have hr:=Zch hcn (v:=V) (by omega)
 have hn12:=hN.2.2.2
 exact ⟨Zis hcn.1,Zcq hcn.1 V,hr.small (by omega) (by omega),hr.1⟩
theorem Ztt (hN:pieceN p (N:Int)) (hV:V < N) (hl0:(Zbs V p).2=0) {c:Zc} (hc:c∈Zw V p):Zpi (N - 1) (Zho V (Zbs V p).1 c):=by
 have hcp:=Za3.1 hc
 have hcn:=hN.c hcp.1
 obtain ⟨f0,f1,f2,f3⟩:=Zet hl0 hc
 obtain ⟨_,l1,l2⟩:=Zfq hl0
 have hs:=ZhV hcn (v:=V) (by omega) ⟨f1,f2⟩
 have hmed:=Zkr hcn (v:=V) (by omega) hN.2.2.2 ⟨f1,f2⟩ hcp.2
 have hn12:=hN.2.2.2
 have habs:Zbe (Zf V c*ZbN V (Zbs V p).1 c)=(Zbs V p).1:=by
  refine Eq.trans ?_ f0
  by_cases h:Zf V c < 0
  ·have h1:=Int.mul_neg_of_neg_of_pos h (show 0 < ZbN V (Zbs V p).1 c by omega)
   have e1:Zbe (Zf V c*ZbN V (Zbs V p).1 c)=-(Zf V c*ZbN V (Zbs V p).1 c):=by unfold Zbe;omega
   have e2:Zbe (Zf V c)=-Zf V c:=by unfold Zbe;omega
   rw [e1,e2,Int.mul_neg,Int.mul_comm]
  ·have h1:=Int.mul_nonneg (show 0≤Zf V c by omega) (show 0≤ZbN V (Zbs V p).1 c by omega)
   have e1:Zbe (Zf V c*ZbN V (Zbs V p).1 c)=(Zf V c*ZbN V (Zbs V p).1 c):=by unfold Zbe;omega
   have e2:Zbe (Zf V c)=Zf V c:=by unfold Zbe;omega
   rw [e1,e2,Int.mul_comm]
 refine ⟨hmed.1,?_,?_,?_⟩
 ·show -1048576≤Zf V c*ZbN V (Zbs V p).1 c∧Zf V c*ZbN V (Zbs V p).1 c≤1048576
  unfold Zbe at habs;omega
 ·rw [ZfZ];exact hs.small (by omega) (by omega)
 ·rw [ZfZ,hs.1];rfl
theorem ZvR (hN : pieceN p (N : Int)) (hl0 : (Zbs V p).2 = 0) (n e : Int) (lows ups divs : List Part) (w : Lin) (all : Bool) :
 Zl.fn ((n,ZbH V p,(Zw V p).map (Zho V (Zbs V p).1),e,lows,ups,divs),(Zbs V p).1,w,all,())=Ze0 V p (Zbs V p).1 w all:=by
 show ZbH V p++(((Zw V p).map (Zho V (Zbs V p).1)).filter fun q=>all||decide (q.1.1=2)).map (fun q=>(q.1.1,q.1.2.1,Zcf 1 q.2.2 (q.2.1.tdiv (Zbs V p).1) w))++[(2,(Zbs V p).1,w)]=_
 unfold Ze0
 congr 2
 rw [List.filter_map,List.map_map]
 apply List.map_congr_left
 intro c hc
 have hcp:=(List.mem_filter.1 hc).1
 obtain ⟨f0,_,_,_⟩:=Zet hl0 hcp
 obtain ⟨_,l1,_⟩:=Zfq hl0
 show ((Zho V (Zbs V p).1 c).1.1,(Zho V (Zbs V p).1 c).1.2.1,Zcf 1 (Zho V (Zbs V p).1 c).2.2 ((Zho V (Zbs V p).1 c).2.1.tdiv (Zbs V p).1) w)=Zu7 V (Zbs V p).1 w c
 rw [ZfZ]
 have:(Zho V (Zbs V p).1 c).2.1.tdiv (Zbs V p).1=ZmH (Zf V c):=Zup (Za3.1 hcp).2 f0 l1
 rw [this]
 rfl
theorem Zvw (hN : pieceN p (N : Int)) (hV : V < N) (hl0 : (Zbs V p).2 = 0) (n e : Int) (divs : List Part) {w : Lin} (hw : ZcN w ∧ w.1.length = N - 1) (all : Bool) :
 Zl.pre ((n,ZbH V p,(Zw V p).map (Zho V (Zbs V p).1),e,(ZbM V p).map (ZaT V),(upP V p).map (ZaT V),divs),(Zbs V p).1,w,all,()):=by
 have h400:=hN.1
 have hle:∀ f:Zc→Bool,(p.filter f).length≤400:=fun f=>Nat.le_trans (List.length_filter_le _ _) h400
 obtain ⟨_,l1,_⟩:=Zfq hl0
 refine ⟨⟨N - 1,⟨Nat.le_trans Zcm h400,⟨by show ((Zw V p).map _).length≤400;rw [List.length_map];exact hle _,fun q hq=>?_⟩,⟨by show ((ZbM V p).map _).length≤400;rw [List.length_map];exact hle _,fun q hq=>?_⟩,⟨by show ((upP V p).map _).length≤400;rw [List.length_map];exact hle _,fun q hq=>?_⟩⟩,hw.2⟩,by show (Zbs V p).1≠0;omega,hw.1⟩
 ·obtain ⟨c,hc,rfl⟩:=List.mem_map.1 hq
  exact Ztt hN hV hl0 hc
 ·obtain ⟨c,hc,rfl⟩:=List.mem_map.1 hq
  exact ZgJ hN hV (List.mem_filter.1 hc).1
 ·obtain ⟨c,hc,rfl⟩:=List.mem_map.1 hq
  exact ZgJ hN hV (List.mem_filter.1 hc).1
end
theorem Zqc {p:List Zc} {V n:Nat} {l:Int} {d:Nat} (h:¬ (ZbM V p=[]∨upP V p=[])):ZfK (ZbV V p n l d)=(Zw V p).foldlM (fun out c=>if (decide (c.1≠2∧decide (0 < Zf V c)=Zgq V p))=true then ((List.range d).map fun (j:Nat)=>Ze0 V p l (Zdx V l c (Zgq V p) j) true).foldlM Zas out else some out) []:=by
 have e:ZbV V p n l d=(ZlU V p).flatMap fun c=>(List.range d).map fun (j:Nat)=>Ze0 V p l (Zdx V l c (Zgq V p) j) true:=by unfold ZbV;rw [if_neg h]
 rw [e]
 show ((ZlU V p).flatMap fun c=>(List.range d).map fun (j:Nat)=>Ze0 V p l (Zdx V l c (Zgq V p) j) true).foldlM Zas []=_
 rw [Zfd,ZgK]
 rfl
theorem ZeE.spec {p : List Zc} {N V : Nat} (hN : pieceN p (N : Int)) (hV : V < N) (e : Int) (divs : List Part) {Q : List (List Zc) × Int → Prop}
 (hQ:∀ r,r=(if (Zbs V p).2≠0 then ([],3) else if (ZeW V p (Zbs V p).1).2≠0 then ([],3) else Zd7 (ZbV V p (N - 1) (Zbs V p).1 (ZeW V p (Zbs V p).1).1.toNat))→Q r) :
 ZeE ((N:Int) - 1) (ZbH V p) ((Zw V p).map (ZaT V)) e ((ZbM V p).map (ZaT V)) ((upP V p).map (ZaT V)) divs Q:=by
 have h400:=hN.1
 have hn12:=hN.2.2.2
 have hlc:∀ l,ZQ.fn (l,())=ZhH l:=fun _=>rfl
 have hsu:∀ a l b m,ZM.fn (a,l,b,m,())=Zcf a l b m:=fun _ _ _ _=>rfl
 have hpl:∀ l k,Z9.fn (l,k,())=(l.1,l.2+k):=fun _ _=>rfl
 unfold ZeE
 have hpartlen:(Zw V p).length≤400:=Nat.le_trans (List.length_filter_le _ _) h400
 simp only [List.length_map,hlc,hsu,hpl]
 have hNt:((N:Int) - 1).toNat=N - 1:=by omega
 simp only [hNt]
 refine Lp.flt ((Zw V p).map (ZaT V)) ZbU [] (fun _=>true) (fun jq=>Zbe jq.2.2.1) (by rw [List.length_map];omega) (fun i t R hi hi' hf htl h1 h2=>?_) (fun R _=>?_)
 ·rw [List.length_map] at hi hi'
  have hm:=Zj (d:=Za) hi
  have hg:((Zw V p).map (ZaT V)).getD i ZbU=ZaT V ((Zw V p).getD i Za):=ZeH hi
  rw [hg] at h1
  simp only [decide_eq_true hi',Int.toNat_natCast,cond_true,hg]
  have hb:=ZgJ hN hV (Za3.1 hm).1
  obtain ⟨q,hq⟩:∃ q,ZaT V ((Zw V p).getD i Za)=q:=⟨_,rfl⟩
  simp only [hq,List.length_nil,Nat.zero_add] at hb h1 htl ⊢
  obtain ⟨_,hqa,_,_⟩:=hb
  exact ⟨⟨by omega,hi'⟩,hi,⟨by omega,by omega⟩,⟨by simp only [List.length_singleton];omega,by simp only [List.length_singleton];omega⟩,hf,h1 trivial⟩
 have hall:((Zbw ZbU ((Zw V p).map (ZaT V))).filter fun _=>true).map (fun jq=>Zbe jq.2.2.1)=(Zw V p).map fun c=>Zbe (Zf V c):=by
  rw [ZdJ ZbU ((Zw V p).map (ZaT V)) (fun _=>true) (fun q=>Zbe q.2.1),List.filter_eq_self.2 (fun _ _=>rfl),List.map_map]
  rfl
 simp only [Int.lt_irrefl,decide_false,cond_false,List.nil_append,List.length_map,hall]
 have hL:ZhH ((Zw V p).map fun c=>Zbe (Zf V c))=Zbs V p:=rfl
 simp only [hL]
 refine ⟨fun x hx=>?_,?_⟩
 ·obtain ⟨c,hc,rfl⟩:=List.mem_map.1 hx
  have:=Ziw (Zcq (hN.c (Za3.1 hc).1).1 V)
  omega
 have h30:((3:Int) != (0:Int))=true:=rfl
 have h00:((0:Int) != (0:Int))=false:=rfl
 by_cases hl0:(Zbs V p).2=0
 rotate_left
 ·rw [show ((Zbs V p).2 != 0)=true by simpa using hl0,cond_true]
  refine ⟨fun h=>⟨h,trivial⟩,fun h=>by rw [h];rfl,hQ _ ?_⟩
  rw [if_pos hl0]
 rw [show ((Zbs V p).2 != 0)=false by simpa using hl0,cond_false]
 rw [if_neg (by simpa using hl0)] at hQ
 obtain ⟨_,hl1,hl512⟩:=Zfq hl0
 have hfac:∀ c∈Zw V p,1≤ZbN V (Zbs V p).1 c∧ZbN V (Zbs V p).1 c≤512:=fun c hc=>⟨(Zet hl0 hc).2.1,(Zet hl0 hc).2.2.1⟩
 have hsclB:∀ c∈Zw V p,Zpi (N - 1) (Zho V (Zbs V p).1 c):=fun c hc=>Ztt hN hV hl0 hc
 have hats:=fun (w:Lin) (all:Bool)=>ZvR hN hl0 ((N:Int) - 1) e ((ZbM V p).map (ZaT V)) ((upP V p).map (ZaT V)) divs w all
 have hatp:=fun (w:Lin) (hw:ZcN w∧w.1.length=N - 1) (all:Bool)=>Zvw hN hV hl0 ((N:Int) - 1) e divs hw all
 have hgood:=ZfA hN (v:=V) (by omega) hl0 (d:=(ZeW V p (Zbs V p).1).1.toNat)
 have hsubg:∀ w,ZdO 536871424 (N - 1) w→∀ all,Zjl (N - 1) (Ze0 V p (Zbs V p).1 w all):=fun w hw all=>ZhO hN (v:=V) (by omega) hl0 (by simpa using hw) all
 have hnear:∀ c∈Zw V p,∀ (low:Bool) (j:Nat),j≤512→ZdO 536871424 (N - 1) (Zdx V (Zbs V p).1 c low j):=fun c hc low j hj=>by
  have:=Zlm (low:=low) (hN.c (Za3.1 hc).1) (v:=V) (by omega) (hfac c hc) hj
  simpa using this
 have hsclbd:∀ c∈Zw V p,ZdO 536870912 (N - 1) (Zjb V (Zbs V p).1 c):=fun c hc=>by
  have:=ZhV (hN.c (Za3.1 hc).1) (v:=V) (by omega) (hfac c hc)
  simpa using this
 obtain ⟨l,hl⟩:∃ l,(Zbs V p).1=l:=⟨_,rfl⟩
 simp only [hl] at hl1 hl512 hfac hQ hsclB hats hatp hgood hsubg hnear hsclbd ⊢
 have hstart:((Zw V p).map (ZaT V))=(List.range (Zw V p).length).map fun j=>if j < 0 then Zho V l ((Zw V p).getD j Za) else ZaT V ((Zw V p).getD j Za):=by
  rw [← Zmi Za (Zw V p) (ZaT V)]
  apply List.map_congr_left
  intro j _
  rw [if_neg (by omega)]
 rw [hstart]
 refine Lp.iter (Zw V p).length (fun i z=>z=((i:Int),l::(((Zw V p).take i).filter fun c=>decide (c.1=2)).map (fun c=>c.2.1*ZbN V l c),(List.range (Zw V p).length).map fun j=>if j < i then Zho V l ((Zw V p).getD j Za) else ZaT V ((Zw V p).getD j Za))) (by simp) ?_
 rintro i z hle rfl R hR
 by_cases hi:i < (Zw V p).length
 ·have hi':(i:Int) < ((Zw V p).length:Int):=by omega
  have hm:=Zj (d:=Za) hi
  have hR':=hR hi _ rfl
  rw [ZbP (d:=Za) hi,List.filter_append,List.map_append] at hR'
  simp only [decide_eq_true hi',Int.toNat_natCast,cond_true,List.length_map,List.length_range,Zi6 hi,if_neg (Nat.lt_irrefl i)]
  have hset:=Zsd (n:=(Zw V p).length) (j:=i) (f:=fun j=>if j < i then Zho V l ((Zw V p).getD j Za) else ZaT V ((Zw V p).getD j Za)) (g:=fun j=>if j < i+1 then Zho V l ((Zw V p).getD j Za) else ZaT V ((Zw V p).getD j Za)) (fun j hj=>by
   by_cases h:j < i
   ·rw [if_pos h,if_pos (by omega)]
   ·rw [if_neg h,if_neg (by omega)])
  simp only [if_pos (Nat.lt_succ_self i)] at hset
  obtain ⟨c,hq⟩:∃ c,(Zw V p).getD i Za=c:=⟨_,rfl⟩
  simp only [hq] at hm hR' hset ⊢
  have hcp:=Za3.1 hm
  have hcn:=hN.c hcp.1
  obtain ⟨f1,f2⟩:=hfac c hm
  obtain ⟨hsM,hsa,hsL,hsk⟩:=hsclB c hm
  have hsM':-1048576≤c.2.1*ZbN V l c∧c.2.1*ZbN V l c≤1048576:=hsM
  have hsa':-1048576≤Zf V c*ZbN V l c∧Zf V c*ZbN V l c≤1048576:=hsa
  have hcb:=Zcq hcn.1 V
  have hrb:=Zch hcn (v:=V) (by omega)
  have ha1:Max.max (Zf V c) (-Zf V c)≠(0:Int):=by have:=hcp.2;omega
  have hfe:l.tdiv (Max.max (Zf V c) (-Zf V c))=ZbN V l c:=rfl
  have hpc:(ZaT V c).2.1=Zf V c:=rfl
  have hpr:(ZaT V c).2.2=ZaX V c:=rfl
  have hp1:(ZaT V c).1=c:=rfl
  have hsc:((c.1,((c.2.1*ZbN V l c),(([]:List Int),(0:Int)))),((Zf V c*ZbN V l c),Zcf (ZbN V l c) (ZaX V c) 0 (ZaX V c)))=Zho V l c:=rfl
  simp only [hpc,hpr,hp1,hfe,hsc,hset]
  have hdl:(((Zw V p).take i).filter fun c=>decide (c.1=2)).length≤i:=Nat.le_trans (List.length_filter_le _ _) (by rw [List.length_take];omega)
  refine ⟨⟨by omega,hi'⟩,hi,⟨by omega,by omega⟩,⟨ha1,⟨by omega,by omega⟩⟩,⟨by omega,by omega⟩,⟨by omega,by omega⟩,⟨by show -1048576≤ZbN V l c∧ZbN V l c≤1048576;omega,hrb.small (by omega) (by omega),by show (-1048576:Int)≤0∧(0:Int)≤1048576;omega,hrb.small (by omega) (by omega),rfl⟩,⟨by omega,hi'⟩,hi,?_⟩
  by_cases h2:c.1=2
  ·rw [show (c.1 == 2)=true by simpa using h2,cond_true]
   rw [List.filter_cons_of_pos (by simpa using h2)] at hR'
   exact ⟨⟨by omega,by omega⟩,⟨by simp only [List.length_cons,List.length_nil,List.length_map];omega,by simp only [List.length_cons,List.length_nil,List.length_map];omega⟩,⟨by omega,by omega⟩,hR'⟩
  ·rw [show (c.1 == 2)=false by simpa using h2,cond_false]
   rw [List.filter_cons_of_neg (by simpa using h2),List.filter_nil,List.map_nil,List.append_nil] at hR'
   exact ⟨⟨by omega,by omega⟩,hR'⟩
 have:i=(Zw V p).length:=by omega
 subst this
 have hend:((List.range (Zw V p).length).map fun j=>if j < (Zw V p).length then Zho V l ((Zw V p).getD j Za) else ZaT V ((Zw V p).getD j Za))=(Zw V p).map (Zho V l):=by
  rw [← Zmi Za (Zw V p) (Zho V l)]
  apply List.map_congr_left
  intro j hj
  rw [if_pos (List.mem_range.1 hj)]
 simp only [Int.lt_irrefl,decide_false,cond_false,List.take_length,hend,List.length_map]
 have hdd:ZhH (l::((Zw V p).filter fun c=>decide (c.1=2)).map (fun c=>c.2.1*ZbN V l c))=ZeW V p l:=rfl
 simp only [hdd]
 refine ⟨fun x hx=>?_,?_⟩
 ·rcases List.mem_cons.1 hx with rfl | hx
  ·omega
  ·obtain ⟨c,hc,rfl⟩:=List.mem_map.1 hx
   obtain ⟨hc,_⟩:=List.mem_filter.1 hc
   have hsM:-1048576≤c.2.1*ZbN V l c∧c.2.1*ZbN V l c≤1048576:=(hsclB c hc).1
   omega
 by_cases hd0:(ZeW V p l).2=0
 rotate_left
 ·rw [show ((ZeW V p l).2 != 0)=true by simpa using hd0,cond_true]
  refine ⟨fun h=>⟨h,trivial⟩,fun h=>by rw [h];rfl,hQ _ ?_⟩
  rw [if_pos hd0]
 rw [show ((ZeW V p l).2 != 0)=false by simpa using hd0,cond_false]
 rw [if_neg (by simpa using hd0)] at hQ
 obtain ⟨hd1,hd512,_,_⟩:=Znl hd0
 obtain ⟨d,hd⟩:∃ d:Nat,(ZeW V p l).1=(d:Int):=⟨(ZeW V p l).1.toNat,by omega⟩
 simp only [hd,Int.toNat_natCast] at hd1 hd512 hQ hgood ⊢
 refine ⟨fun h=>⟨h,trivial⟩,fun h=>⟨h,trivial⟩,fun h=>⟨h,trivial⟩,fun h=>by rw [h];rfl,?_⟩
 have hmade:∀ L,Zd7 L=match ZfK L with
  | none=>([],3)
  | some out=>(out,0):=fun _=>rfl
 have hfail:ZfK (ZbV V p (N - 1) l d)=none→Q ([],3):=fun h=>hQ _ (by rw [hmade,h])
 have hdone:∀ out,ZfK (ZbV V p (N - 1) l d)=some out→Q (out,0):=fun out h=>hQ _ (by rw [hmade,h])
 by_cases hAB:ZbM V p=[]∨upP V p=[]
 ·have hc:(((ZbM V p).length:Int) == 0||((upP V p).length:Int) == 0)=true:=by
   rcases hAB with h | h<;>simp [h]
  rw [hc,cond_true]
  have hT:ZbV V p (N - 1) l d=(List.range d).map fun (j:Nat)=>Ze0 V p l (List.replicate (N - 1) 0,(j:Int)) false:=by
   unfold ZbV;rw [if_pos hAB]
  rw [hT] at hfail hdone
  have hlen:((List.range d).map fun (j:Nat)=>Ze0 V p l (List.replicate (N - 1) 0,(j:Int)) false).length=d:=by simp
  refine Lp.tid ((List.range d).map fun (j:Nat)=>Ze0 V p l (List.replicate (N - 1) 0,(j:Int)) false) [] _ Ze4.nil (by simp) (by omega) (fun i out m R hi hi' hf hk hol h1 h2 h3=>?_) (fun out m R ht hk hol=>?_)
  ·rw [hlen] at hi hi'
   have hnb:=Zk7 (n:=N - 1) (j:=i) (by omega)
   rw [Zi6 hi] at h1 h2 h3
   simp only [decide_eq_true hi',cond_true,hats]
   refine ⟨⟨by omega,by omega,by omega,by omega⟩,hatp (List.replicate (N - 1) 0,(i:Int)) ⟨hnb.small (by omega) (by omega),hnb.1⟩ false,ZeQ (hsubg (List.replicate (N - 1) 0,(i:Int)) hnb false).D.1 hk hol (fun h4 hn=>?_) (fun hs=>⟨hf,h1 hs⟩) (fun hn=>?_) (fun hs=>⟨hf,h2 hs⟩)⟩
   ·simp only [h00,Zb.fn,h4,h30,Bool.or_true,cond_true]
    exact ⟨fun h=>⟨h,trivial⟩,fun h=>rfl,hfail (h3 hn)⟩
   ·exact ⟨fun h=>⟨h,trivial⟩,fun h=>by rw [h];rfl,hfail (h3 hn)⟩
  ·rw [hlen]
   simp only [Int.lt_irrefl,decide_false,cond_false]
   exact ⟨fun h=>⟨h,trivial⟩,fun h=>by rw [h];rfl,hdone out ht⟩
 ·have hc:(((ZbM V p).length:Int) == 0||((upP V p).length:Int) == 0)=false:=by
   simp only [not_or] at hAB
   have h1:(ZbM V p).length≠0:=fun h=>hAB.1 (List.eq_nil_of_length_eq_zero h)
   have h2:(upP V p).length≠0:=fun h=>hAB.2 (List.eq_nil_of_length_eq_zero h)
   simp;omega
  rw [hc,cond_false]
  rw [Zqc hAB] at hfail hdone
  have hlowS:decide (((ZbM V p).length:Int)≤((upP V p).length:Int))=Zgq V p:=by
   unfold Zgq
   by_cases h:(ZbM V p).length≤(upP V p).length
   ·rw [decide_eq_true h,decide_eq_true (by omega)]
   ·rw [decide_eq_false h,decide_eq_false (by omega)]
  simp only [hlowS]
  obtain ⟨F,hF⟩:∃ F:List (List Zc)→Zc→Option (List (List Zc)),F=fun out c=>if (decide (c.1≠2∧decide (0 < Zf V c)=Zgq V p))=true then ((List.range d).map fun (j:Nat)=>Ze0 V p l (Zdx V l c (Zgq V p) j) true).foldlM Zas out else some out:=⟨_,rfl⟩
  rw [← hF] at hfail hdone
  refine Lp.iter (Zw V p).length (fun i (z:Int×List (List Zc)×(ByteArray→Option Bool))=>z.1=(i:Int)∧((Zw V p).take i).foldlM F []=some z.2.1∧Ze4 z.2.1 z.2.2∧z.2.1.length≤400) ⟨rfl,rfl,Ze4.nil,by simp⟩ ?_
  rintro i ⟨y,out,m⟩ hle ⟨hy,ht,hk,hol⟩ R hR
  simp only at hy ht hk hol
  subst hy
  by_cases hi:i < (Zw V p).length
  ·have hi':(i:Int) < ((Zw V p).length:Int):=by omega
   have hm:=Zj (d:=Za) hi
   have hR':=hR hi
   have hsn:((Zw V p).take (i+1)).foldlM F []=F out ((Zw V p).getD i Za):=ZcX ht hi
   have hnn:F out ((Zw V p).getD i Za)=none→(Zw V p).foldlM F []=none:=fun h=>ZiS ht hi h
   have hg:((Zw V p).map (Zho V l)).getD i ZbU=Zho V l ((Zw V p).getD i Za):=ZeH hi
   simp only [decide_eq_true hi',Int.toNat_natCast,cond_true,hg]
   obtain ⟨c,hq⟩:∃ c,(Zw V p).getD i Za=c:=⟨_,rfl⟩
   simp only [hq] at hm hsn hnn ⊢
   obtain ⟨f1,f2⟩:=hfac c hm
   have hcp:=Za3.1 hm
   have hFc:F out c=if (decide (c.1≠2∧decide (0 < Zf V c)=Zgq V p))=true then ((List.range d).map fun (j:Nat)=>Ze0 V p l (Zdx V l c (Zgq V p) j) true).foldlM Zas out else some out:=by rw [hF]
   have hk1:(Zho V l c).1.1=c.1:=rfl
   have ha1:decide ((0:Int) < (Zho V l c).2.1)=decide (0 < Zf V c):=by
    have:(Zho V l c).2.1=Zf V c*ZbN V l c:=rfl
    rw [this]
    by_cases h:0 < Zf V c
    ·rw [decide_eq_true h,decide_eq_true ((Zim f1).2 h)]
    ·rw [decide_eq_false h,decide_eq_false (fun h'=>h ((Zim f1).1 h'))]
   simp only [hk1,ha1,ZfZ]
   refine ⟨⟨by omega,hi'⟩,fun h=>⟨h,trivial⟩,fun h=>⟨h,trivial⟩,fun h=>⟨h,h,trivial⟩,fun h=>by rw [h];rfl,?_⟩
   have hcnd:((c.1 == 2)||(decide (0 < Zf V c) != Zgq V p))=!decide (c.1≠2∧decide (0 < Zf V c)=Zgq V p):=by
    by_cases h2:c.1=2
    ·simp [h2]
    ·cases decide (0 < Zf V c)<;>cases Zgq V p<;>simp [h2]
   rw [hcnd]
   cases hsd:decide (c.1≠2∧decide (0 < Zf V c)=Zgq V p) with
   | false =>
     rw [hsd,if_neg (by simp)] at hFc
     simp only [Bool.not_false,cond_true]
     exact ⟨⟨by omega,by omega⟩,hR' _ ⟨rfl,by rw [hsn,hFc],hk,hol⟩⟩
   | true =>
     rw [hsd,if_pos rfl] at hFc
     simp only [Bool.not_true,cond_false]
     have hlen:((List.range d).map fun (j:Nat)=>Ze0 V p l (Zdx V l c (Zgq V p) j) true).length=d:=by simp
     have hscl:=hsclbd c hm
     have hsum:Zcf (-1) (Zjb V l c) 0 (Zjb V l c)=((Zjb V l c).1.map fun n=>-1*n,-1*(Zjb V l c).2):=Zdc _ _
     simp only [hsum]
     refine Lp.tid ((List.range d).map fun (j:Nat)=>Ze0 V p l (Zdx V l c (Zgq V p) j) true) out m hk hol (by omega) (fun j out2 m2 R2 hj hj' hf hk2 hol2 h1 h2 h3=>?_) (fun out2 m2 R2 ht2 hk2 hol2=>?_)
     ·rw [hlen] at hj hj'
      have hnb:=hnear c hm (Zgq V p) j (by omega)
      rw [Zi6 hj] at h1 h2 h3
      simp only [decide_eq_true hj',cond_true]
      have hsm:ZcN ((Zjb V l c).1.map fun n=>-1*n,-1*(Zjb V l c).2):=by
       have h:=Zlm (low:=true) (j:=0) (hN.c hcp.1) (v:=V) (l:=l) (by omega) (hfac c hm) (by omega)
       have h':=h.small (by omega) (by omega)
       unfold Zdx at h'
       simpa using h'
      refine ⟨⟨by show (-1048576:Int)≤-1∧(-1:Int)≤1048576;omega,hscl.small (by omega) (by omega),by show (-1048576:Int)≤0∧(0:Int)≤1048576;omega,hscl.small (by omega) (by omega),rfl⟩,⟨hsm,by show -1048576≤(j:Int);omega,by show (j:Int)≤1048576;omega⟩,?_⟩
      cases hlow:Zgq V p with
      | false =>
        rw [hlow] at hnb h1 h2 h3
        have hw:((Zjb V l c).1,(Zjb V l c).2+-(j:Int))=Zdx V l c false j:=rfl
        simp only [Bool.not_false,cond_true,hw,hats]
        refine ⟨⟨by omega,by omega⟩,⟨hscl.small (by omega) (by omega),by show -1048576≤-(j:Int);omega,by show -(j:Int)≤1048576;omega⟩,hatp _ ⟨hnb.small (by omega) (by omega),hnb.1⟩ true,ZeQ (hsubg _ hnb true).D.1 hk2 hol2 (fun h4 hn=>?_) (fun hs=>⟨hf,h1 hs⟩) (fun hn=>?_) (fun hs=>⟨hf,h2 hs⟩)⟩
        ·simp only [h00,Zb.fn,h4,h30,Bool.or_true,cond_true]
         exact ⟨fun h=>⟨h,trivial⟩,fun h=>rfl,hfail (hnn (by rw [hFc,hlow];exact h3 hn))⟩
        ·exact ⟨fun h=>⟨h,trivial⟩,fun h=>by rw [h];rfl,hfail (hnn (by rw [hFc,hlow];exact h3 hn))⟩
      | true =>
        rw [hlow] at hnb h1 h2 h3
        have hw:((Zjb V l c).1.map (fun n=>-1*n),-1*(Zjb V l c).2+(j:Int))=Zdx V l c true j:=rfl
        simp only [Bool.not_true,cond_false,hw,hats]
        refine ⟨hatp _ ⟨hnb.small (by omega) (by omega),hnb.1⟩ true,ZeQ (hsubg _ hnb true).D.1 hk2 hol2 (fun h4 hn=>?_) (fun hs=>⟨hf,h1 hs⟩) (fun hn=>?_) (fun hs=>⟨hf,h2 hs⟩)⟩
        ·simp only [h00,Zb.fn,h4,h30,Bool.or_true,cond_true]
         exact ⟨fun h=>⟨h,trivial⟩,fun h=>rfl,hfail (hnn (by rw [hFc,hlow];exact h3 hn))⟩
        ·exact ⟨fun h=>⟨h,trivial⟩,fun h=>by rw [h];rfl,hfail (hnn (by rw [hFc,hlow];exact h3 hn))⟩
     ·rw [hlen]
      simp only [Int.lt_irrefl,decide_false,cond_false]
      exact ⟨⟨by omega,by omega⟩,hR' _ ⟨rfl,by rw [hsn,hFc];exact ht2,hk2,hol2⟩⟩
  ·have:i=(Zw V p).length:=by omega
   subst this
   rw [List.take_length] at ht
   simp only [Int.lt_irrefl,decide_false,cond_false]
   exact ⟨fun h=>⟨h,trivial⟩,fun h=>by rw [h];rfl,hdone out ht⟩
end Go.Proofs.YtgpdnmfpgkkgcaaGreatDoor
namespace Go.Proofs.YtgpdnmfpgkkgcaaGreatDoor
open Go
set_option linter.unusedVariables false
theorem ZiJ {p q:List Zc} (h:∀ x,x∈p↔x∈q):Za0 p=Za0 q:=by
 unfold Za0
 rw [Bool.eq_iff_iff]
 simp only [List.any_eq_true,List.mem_map]
 constructor
 ·rintro ⟨r,⟨c,hc,rfl⟩,hr⟩;exact ⟨_,⟨c,(h c).1 hc,rfl⟩,hr⟩
 ·rintro ⟨r,⟨c,hc,rfl⟩,hr⟩;exact ⟨_,⟨c,(h c).2 hc,rfl⟩,hr⟩
theorem Zlj {p q:List Zc} (h:∀ x,x∈p↔x∈q) (x:Zc):x∈ZbL p↔x∈ZbL q:=by
 unfold ZbL
 simp only [List.mem_map,List.mem_filter]
 constructor
 ·rintro ⟨r,⟨⟨c,hc,rfl⟩,hr⟩,rfl⟩;exact ⟨_,⟨⟨c,(h c).1 hc,rfl⟩,hr⟩,rfl⟩
 ·rintro ⟨r,⟨⟨c,hc,rfl⟩,hr⟩,rfl⟩;exact ⟨_,⟨⟨c,(h c).2 hc,rfl⟩,hr⟩,rfl⟩
theorem Zvz {p q:List Zc} (h:∀ x,x∈p↔x∈q):Lm p=Lm q:=by
 funext x
 apply propext
 unfold Lm
 constructor
 ·rintro ⟨h1,h2⟩;exact ⟨(h x).1 h1,fun h0 d hd=>h2 h0 d ((h d).2 hd)⟩
 ·rintro ⟨h1,h2⟩;exact ⟨(h x).2 h1,fun h0 d hd=>h2 h0 d ((h d).1 hd)⟩
theorem Zrf {p q:List Zc} {n:Nat} (hp:ZaU p∧ZeD p n) (hq:ZaU q∧ZeD q n) (h:∀ x,x∈p↔x∈q):Zat p=Zat q:=by
 by_cases hv:Za0 p=true
 ·rw [Zb7,Zb7,← ZiJ h,hv];rfl
 ·have hv:Za0 p=false:=by simpa using hv
  have hv2:Za0 q=false:=by rw [← ZiJ h];exact hv
  obtain ⟨a1,a2⟩:=ZdE hp.1 hp.2 hv
  obtain ⟨b1,b2⟩:=ZdE hq.1 hq.2 hv2
  have hL:Lm (ZbL q)=Lm (ZbL p):=(Zvz (Zlj h)).symm
  rw [hL] at b1 b2
  by_cases hV:ZgE (Lm (ZbL p))∨ZfI (MM (Lm (ZbL p)))
  ·rw [a1 hV,b1 hV]
  ·obtain ⟨m,hm⟩:=Zi2 hp.1 hp.2 hv (fun h=>hV (.inl h)) (fun h=>hV (.inr h))
   rw [a2 (fun h=>hV (.inl h)) (fun h=>hV (.inr h)) m hm,b2 (fun h=>hV (.inl h)) (fun h=>hV (.inr h)) m hm]
   have hany:(ZbL p).any (fun c=>!Zh c)=(ZbL q).any (fun c=>!Zh c):=by
    rw [Bool.eq_iff_iff]
    simp only [List.any_eq_true]
    constructor
    ·rintro ⟨c,hc,h2⟩;exact ⟨c,(Zlj h c).1 hc,h2⟩
    ·rintro ⟨c,hc,h2⟩;exact ⟨c,(Zlj h c).2 hc,h2⟩
   rw [hany]
theorem Zfp {α:Type} {d:α}:∀ {l:List α} {k:Nat},k < l.length→l=l.take k++l.getD k d::l.drop (k+1)
 | [],k,h=>by simp at h
 | x::l,0,_=>by simp
 | x::l,k+1,h=>by
   simp only [List.take_succ_cons,List.getD_cons_succ,List.drop_succ_cons,List.cons_append]
   congr 1
   exact Zfp (by simpa using h)
theorem Zit {α:Type} (d:α) (l:List α) (k:Nat) (hk:k < l.length):((Zbw d l).filter fun ix=>decide (ix.1≠k)).map (·.2)=l.take k++l.drop (k+1):=by
 have hr:List.range l.length=List.range k++k::(List.range (l.length - (k+1))).map (fun j=>j+(k+1)):=by
  obtain ⟨r,hr⟩:∃ r,l.length - (k+1)=r:=⟨_,rfl⟩
  rw [hr,show l.length=k+(1+r) by omega,List.range_add,List.range_add,List.map_append,List.map_map]
  congr 1
  show [k+0]++_=_
  rw [List.singleton_append]
  congr 1
  apply List.map_congr_left
  intro j _
  show k+(1+j)=j+(k+1)
  omega
 unfold Zbw
 rw [hr,List.map_append,List.map_cons,List.filter_append,List.map_append,List.filter_cons_of_neg (by simp)]
 congr 1
 ·rw [List.filter_eq_self.2 ?_,List.map_map]
  ·apply List.ext_getElem (by simp;omega)
   intro i h1 h2
   simp only [List.length_map,List.length_range] at h1
   simp only [List.getElem_map,List.getElem_range,Function.comp,List.getElem_take]
   exact ZT (by omega)
  ·intro x hx
   simp only [List.mem_map,List.mem_range] at hx
   obtain ⟨i,hi,rfl⟩:=hx
   simp;omega
 ·rw [List.filter_eq_self.2 ?_,List.map_map,List.map_map]
  ·apply List.ext_getElem (by simp)
   intro i h1 h2
   simp only [List.length_map,List.length_range] at h1
   simp only [List.getElem_map,List.getElem_range,Function.comp,List.getElem_drop]
   rw [ZT (by omega)]
   congr 1;omega
  ·intro x hx
   simp only [List.mem_map,List.mem_range] at hx
   obtain ⟨j,⟨i,hi,rfl⟩,rfl⟩:=hx
   simp;omega
theorem Zg6 (v:Nat) (a b:List Zc):Zw v (a++b)=Zw v a++Zw v b:=List.filter_append _ _
theorem Znc {v : Nat} {p : List Zc} {j : Nat} (hj : j < p.length) (h0 : Zf v (p.getD j Za) ≠ 0) : (Zw v (p.take j)).length < (Zw v p).length ∧ (Zw v p).getD (Zw v (p.take j)).length Za = p.getD j Za ∧
 (Zw v p).take (Zw v (p.take j)).length++(Zw v p).drop ((Zw v (p.take j)).length+1)=Zw v (p.take j++p.drop (j+1)):=by
 have e:Zw v p=Zw v (p.take j)++p.getD j Za::Zw v (p.drop (j+1)):=by
  have:=congrArg (Zw v) (Zfp (d:=Za) hj)
  rw [this,Zg6]
  congr 1
  show List.filter _ (p.getD j Za::p.drop (j+1))=_
  rw [List.filter_cons_of_pos (by simpa using h0)]
  rfl
 rw [e]
 refine ⟨by simp,?_,?_⟩
 ·rw [List.getD_eq_getElem?_getD,List.getElem?_append_right (Nat.le_refl _)];simp
 ·rw [Zg6]
  congr 1
  ·simp
  ·rw [List.drop_append];simp
def eqQ (v:Nat) (p:List Zc) (i:Nat):Int:=if eqJ v p i < 0 then -1 else ((Zw v (p.take (eqJ v p i).toNat)).length:Int)
theorem Zua (v:Nat) (e c:Zc):ZtD (ZaT v e) (ZaT v c)=ZlS v e c:=by
 unfold ZtD ZlS ZaT
 simp only
 rw [Int.mul_comm (Zbe (Zf v e)) c.2.1,Int.mul_comm _ (Zf v c)]
theorem ZnI {p : List Zc} {N V : Nat} (hN : pieceN p (N : Int)) (hV : V < N) {j : Nat} (hj : j < p.length) (h0 : Zf V (p.getD j Za) ≠ 0) (n : Int) (lows ups divs : List Part) :
 ZaU (Zen (n,ZbH V p,(Zw V p).map (ZaT V),((Zw V (p.take j)).length:Int),lows,ups,divs)) ∧
 Zat (Zen (n,ZbH V p,(Zw V p).map (ZaT V),((Zw V (p.take j)).length:Int),lows,ups,divs))=Zat (Zcs V p j):=by
 obtain ⟨k1,k2,k3⟩:=Znc hj h0
 obtain ⟨e,he⟩:∃ e,p.getD j Za=e:=⟨_,rfl⟩
 obtain ⟨tail,htail⟩:∃ tail:List Zc,tail=if 1 < Zbe (Zf V e) then [(2,Zbe (Zf V e),ZaX V e)] else []:=⟨_,rfl⟩
 have hq:Zen (n,ZbH V p,(Zw V p).map (ZaT V),((Zw V (p.take j)).length:Int),lows,ups,divs)=ZbH V p++(Zw V (p.take j++p.drop (j+1))).map (ZlS V e)++tail:=by
  unfold Zen
  simp only [Int.toNat_natCast]
  have hg:((Zw V p).map (ZaT V)).getD (Zw V (p.take j)).length ZbU=ZaT V e:=by rw [ZeH (d:=Za) k1,k2,he]
  rw [hg,htail]
  congr 2
  have hx:((Zbw ZbU ((Zw V p).map (ZaT V))).filter fun jq=>decide ((jq.1:Int)≠((Zw V (p.take j)).length:Int)))=((Zbw ZbU ((Zw V p).map (ZaT V))).filter fun jq=>decide (jq.1≠(Zw V (p.take j)).length)):=by
   apply List.filter_congr
   intro x _
   exact decide_eq_decide.2 (by omega)
  have hm:((Zbw ZbU ((Zw V p).map (ZaT V))).filter fun jq=>decide ((jq.1:Int)≠((Zw V (p.take j)).length:Int))).map (fun jq=>ZtD (ZaT V e) jq.2)=(((Zbw ZbU ((Zw V p).map (ZaT V))).filter fun jq=>decide (jq.1≠(Zw V (p.take j)).length)).map (·.2)).map (ZtD (ZaT V e)):=by
   rw [hx,List.map_map];rfl
  rw [hm,Zit ZbU _ _ (by rw [List.length_map];exact k1),← List.map_take,← List.map_drop,← List.map_append,k3,List.map_map]
  apply List.map_congr_left
  intro c _
  exact Zua V e c
 have hp:Zcs V p j=(p.take j++p.drop (j+1)).map (fun c=>if Zf V c=0 then Zdd V c else ZlS V e c)++tail:=by
  unfold Zcs
  rw [he,htail]
  congr 1
  rw [← Zit Za p j hj,List.map_map]
  rfl
 have hmem:∀ x,x∈ZbH V p++(Zw V (p.take j++p.drop (j+1))).map (ZlS V e)++tail↔x∈(p.take j++p.drop (j+1)).map (fun c=>if Zf V c=0 then Zdd V c else ZlS V e c)++tail:=by
  intro x
  rw [List.mem_append,List.mem_append,List.mem_append]
  have hfree:x∈ZbH V p↔∃ c∈p.take j++p.drop (j+1),Zf V c=0∧Zdd V c=x:=by
   unfold ZbH
   simp only [List.mem_map,List.mem_filter,decide_eq_true_eq]
   constructor
   ·rintro ⟨c,⟨hc,hc0⟩,rfl⟩
    refine ⟨c,?_,hc0,rfl⟩
    rw [Zfp (d:=Za) hj] at hc
    rcases List.mem_append.1 hc with hc | hc
    ·exact List.mem_append_left _ hc
    ·rcases List.mem_cons.1 hc with rfl | hc
     ·exact absurd hc0 h0
     ·exact List.mem_append_right _ hc
   ·rintro ⟨c,hc,hc0,rfl⟩
    refine ⟨c,⟨?_,hc0⟩,rfl⟩
    rcases List.mem_append.1 hc with hc | hc
    ·exact List.mem_of_mem_take hc
    ·exact List.mem_of_mem_drop hc
  have hmap:x∈(p.take j++p.drop (j+1)).map (fun c=>if Zf V c=0 then Zdd V c else ZlS V e c)↔(∃ c∈p.take j++p.drop (j+1),Zf V c=0∧Zdd V c=x)∨x∈(Zw V (p.take j++p.drop (j+1))).map (ZlS V e):=by
   simp only [List.mem_map,Za3]
   constructor
   ·rintro ⟨c,hc,rfl⟩
    by_cases hc0:Zf V c=0
    ·rw [if_pos hc0];exact .inl ⟨c,hc,hc0,rfl⟩
    ·rw [if_neg hc0];exact .inr ⟨c,⟨hc,hc0⟩,rfl⟩
   ·rintro (⟨c,hc,hc0,rfl⟩ | ⟨c,⟨hc,hc0⟩,rfl⟩)
    ·exact ⟨c,hc,if_pos hc0⟩
    ·exact ⟨c,hc,if_neg hc0⟩
  rw [hfree,hmap]
 have hgood:=ZeF hN (v:=V) (by omega) hj h0
 have hgq:Zjl (N - 1) (Zen (n,ZbH V p,(Zw V p).map (ZaT V),((Zw V (p.take j)).length:Int),lows,ups,divs)):=by
  rw [hq]
  refine ⟨?_,fun c hc=>?_⟩
  ·have h1:=Zcm (v:=V) (p:=p)
   have h2:(Zw V (p.take j++p.drop (j+1))).length≤(p.take j++p.drop (j+1)).length:=List.length_filter_le _ _
   have h3:tail.length≤1:=by rw [htail];split<;>simp
   have h4:=hN.1
   simp only [List.length_append,List.length_map,List.length_take,List.length_drop] at h2 ⊢
   omega
  ·have:=(hmem c).1 hc
   rw [← hp] at this
   exact hgood.2 c this
 refine ⟨hgq.D.1,Zrf hgq.D hgood.D fun x=>?_⟩
 rw [hq,hp]
 exact hmem x
theorem Zrz (C:List Int) (V:Nat):C.take V++C.drop ((V:Int)+1).toNat=ZcR C V:=by
 rw [show ((V:Int)+1).toNat=V+1 by omega];rfl
theorem Zun {q q':List Zc} (h:Zat q=Zat q'):ZfK [q]=ZfK [q']:=by
 show [q].foldlM Zas []=[q'].foldlM Zas []
 rw [List.foldlM_cons,List.foldlM_cons]
 have:Zas [] q=Zas [] q':=by unfold Zas;rw [h]
 rw [this]
theorem ZP.spec (p:List Zc) (n v:Int) (hp:ZP.pre (p,n,v,())):ZP.wp p n v (fun r=>r=ZP.fn (p,n,v,())):=by
 obtain ⟨hN,hv0,hv1⟩:=hp
 simp only at hN hv0 hv1
 obtain ⟨V,rfl⟩:∃ V:Nat,v=(V:Int):=⟨v.toNat,by omega⟩
 obtain ⟨N,rfl⟩:∃ N:Nat,n=(N:Int):=⟨n.toNat,by omega⟩
 have h400:=hN.1
 have hn12:=hN.2.2.2
 have hV:V < N:=by omega
 have hfn:ZP.fn (p,(N:Int),(V:Int),())=Z4 p N V:=rfl
 have hsh:Z4 p N V=match ZcJ p N V with
  | none=>([],3)
  | some l=>Zd7 l:=rfl
 have hmade:∀ L,Zd7 L=match ZfK L with
  | none=>([],3)
  | some out=>(out,0):=fun _=>rfl
 unfold ZP.wp
 rw [hfn]
 dsimp only
 refine ⟨⟨by omega,by omega⟩,?_⟩
 refine Lp.iter p.length (fun i z=>z=((i:Int),(N:Int) - 1,eqQ V p i,ZbH V (p.take i),(Zw V (p.take i)).map (ZaT V),(Zf9 V (p.take i)).map (ZaT V),(ZbM V (p.take i)).map (ZaT V),(upP V (p.take i)).map (ZaT V))) (by simp [eqQ,eqJ,ZbH,Zf9,ZbM,upP,Zw]) ?_
 rintro i z hle rfl R hR
 by_cases e:i < p.length
 ·have e':(i:Int) < (p.length:Int):=by omega
  have hm:=Zj (d:=Za) e
  have hR':=hR e _ rfl
  have hQ1:eqQ V p (i+1)=if Zf V (p.getD i Za)≠0∧(p.getD i Za).1=1∧(eqJ V p i < 0∨Zbe (Zf V (p.getD i Za)) < Zbe (Zf V (p.getD (eqJ V p i).toNat Za))) then ((Zw V (p.take i)).length:Int) else eqQ V p i:=by
   unfold eqQ
   rw [Zks]
   unfold Zd2
   split
   ·rw [if_neg (by omega),Int.toNat_natCast]
   ·rfl
  rw [hQ1,ZbP (d:=Za) e,Zjr,ZjJ,ZlM,ZjB,ZlT] at hR'
  simp only [decide_eq_true e',Int.toNat_natCast,cond_true,Zrz,List.length_map]
  have hJ:=ZlQ V p i (by omega)
  have hpart:0≤eqJ V p i→eqQ V p i=((Zw V (p.take (eqJ V p i).toNat)).length:Int)∧(Zw V (p.take (eqJ V p i).toNat)).length < (Zw V (p.take i)).length∧((Zw V (p.take i)).map (ZaT V)).getD (eqQ V p i).toNat ZbU=ZaT V (p.getD (eqJ V p i).toNat Za):=fun h0=>by
   rcases hJ with h | ⟨_,h2,h3,h4⟩
   ·omega
   ·have hjl:(eqJ V p i).toNat < (p.take i).length:=by rw [List.length_take];omega
    have hg:(p.take i).getD (eqJ V p i).toNat Za=p.getD (eqJ V p i).toNat Za:=by
     rw [List.getD_eq_getElem?_getD,List.getD_eq_getElem?_getD,List.getElem?_take,if_pos (by omega)]
    have hk:=Znc (v:=V) (p:=p.take i) hjl (by rw [hg];exact h3)
    rw [List.take_take,Nat.min_eq_left (by omega),hg] at hk
    have hq:eqQ V p i=((Zw V (p.take (eqJ V p i).toNat)).length:Int):=by unfold eqQ;rw [if_neg (by omega)]
    refine ⟨hq,hk.1,?_⟩
    rw [hq,Int.toNat_natCast,ZeH (d:=Za) hk.1,hk.2.1]
  have hneg:eqQ V p i < 0↔eqJ V p i < 0:=by
   unfold eqQ
   split
   ·omega
   ·omega
  obtain ⟨c,hq⟩:∃ c,p.getD i Za=c:=⟨_,rfl⟩
  simp only [hq] at hm hR' ⊢
  have hcn:=hN.c hm
  have hlen:(V:Int) < (c.2.2.1.length:Int):=by have:=hcn.2;omega
  have hcoef:c.2.2.1.getD V 0=Zf V c:=rfl
  have hoth:((c.1,(c.2.1,(ZcR c.2.2.1 V,c.2.2.2))):Zc)=Zdd V c:=rfl
  have hpc:((c,(Zf V c,(ZcR c.2.2.1 V,c.2.2.2))):Part)=ZaT V c:=rfl
  simp only [hcoef,hoth,hpc]
  have hcb:=Zcq hcn.1 V
  have hfi:Zu IntKind.i64 ((i:Int)+1):=⟨by omega,by omega⟩
  have l0:(Zw V (p.take i)).length≤i:=ZcP i
  have l2:(Zf9 V (p.take i)).length≤i:=ZcP i
  have l3:(ZbM V (p.take i)).length≤i:=ZcP i
  have l4:(upP V (p.take i)).length≤i:=ZcP i
  have l1':(ZbH V (p.take i)).length≤i:=by unfold ZbH;rw [List.length_map];exact ZcP i
  have hne:c.2.2.1≠([]:List Int):=fun h=>by rw [h] at hlen;simp at hlen;omega
  refine ⟨⟨by omega,e'⟩,by omega,⟨by omega,by omega⟩,⟨hne,by omega,by omega,by omega⟩,⟨by omega,hlen⟩,?_⟩
  have obp:((((Zw V (p.take i)).length+List.length [ZaT V c])*88)≤140737488355328∧((Zw V (p.take i)).length+List.length [ZaT V c])≤9223372036854775807):=⟨by simp only [List.length_singleton];omega,by simp only [List.length_singleton];omega⟩
  by_cases h0:Zf V c=0
  ·rw [show (Zf V c == 0)=true by simpa using h0,cond_true]
   rw [if_neg (fun h=>h.1 h0),if_pos h0,if_neg (show ¬ (Zf V c≠0) from fun h=>h h0),if_neg (fun h=>h.1 h0),if_neg (fun h=>h.1 h0),if_neg (fun h=>h.1 h0),List.append_nil,List.append_nil,List.append_nil,List.append_nil] at hR'
   exact ⟨⟨by simp only [List.length_singleton];omega,by simp only [List.length_singleton];omega⟩,hfi,hR'⟩
  ·rw [show (Zf V c == 0)=false by simpa using h0,cond_false]
   rw [if_neg (show ¬ Zf V c=0 from h0),List.append_nil,if_pos (show Zf V c≠0 from h0),List.map_append,List.map_cons,List.map_nil] at hR'
   by_cases h1:c.1=1
   ·rw [show (c.1 == 1)=true by simpa using h1,cond_true]
    rw [if_neg (show ¬ (Zf V c≠0∧c.1=2) from fun h=>by omega),if_neg (show ¬ (Zf V c≠0∧c.1≠1∧c.1≠2∧0 < Zf V c) from fun h=>h.2.1 h1),if_neg (show ¬ (Zf V c≠0∧c.1≠1∧c.1≠2∧¬ 0 < Zf V c) from fun h=>h.2.1 h1),List.append_nil,List.append_nil,List.append_nil] at hR'
    by_cases hE0:eqJ V p i < 0
    ·have hEq:eqQ V p i < 0:=hneg.2 hE0
     simp only [decide_eq_true hEq,Bool.not_true,Bool.true_or,cond_true]
     rw [if_pos ⟨h0,h1,.inl hE0⟩] at hR'
     simp only [Bool.false_eq_true,false_implies,true_and,Bool.true_eq_false]
     exact ⟨obp,hfi,hR'⟩
    ·have hEq:¬ eqQ V p i < 0:=fun h=>hE0 (hneg.1 h)
     obtain ⟨k1,k2,k3⟩:=hpart (by omega)
     have hjp:(eqJ V p i).toNat < p.length:=by rcases hJ with h | h<;>omega
     have hmE:=Zj (d:=Za) hjp
     obtain ⟨ce,hce⟩:∃ ce,p.getD (eqJ V p i).toNat Za=ce:=⟨_,rfl⟩
     simp only [hce] at hmE hR' k3
     have hceb:=Zcq (hN.c hmE).1 V
     have hpce:(ZaT V ce).2.1=Zf V ce:=rfl
     simp only [k3,hpce,decide_eq_false hEq,Bool.not_false,Bool.false_or]
     have hcf:Zu IntKind.i64 (-Zf V c):=⟨by omega,by omega⟩
     have hcef:Zu IntKind.i64 (-Zf V ce):=⟨by omega,by omega⟩
     have hEr:(0:Int)≤eqQ V p i∧eqQ V p i < ((Zw V (p.take i)).length:Int):=⟨by omega,by omega⟩
     have hEn:(eqQ V p i).toNat < (Zw V (p.take i)).length:=by omega
     refine ⟨fun h=>⟨h,hcf⟩,fun h=>⟨h,h,trivial⟩,fun h=>⟨h,trivial⟩,fun h=>⟨h,trivial⟩,fun h=>⟨h,h,hEr⟩,fun h=>⟨h,trivial⟩,fun h=>⟨h,hEn⟩,fun h=>⟨h,trivial⟩,fun h=>⟨h,trivial⟩,fun h=>⟨h,h,hEr⟩,fun h=>⟨h,trivial⟩,fun h=>⟨h,hEn⟩,fun h=>⟨h,hcef⟩,fun h=>⟨h,h,trivial⟩,fun h=>⟨h,h,trivial⟩,fun _=>trivial,?_⟩
     by_cases hlt:Zbe (Zf V c) < Zbe (Zf V ce)
     ·have hlt':Max.max (Zf V c) (-Zf V c) < Max.max (Zf V ce) (-Zf V ce):=hlt
      rw [decide_eq_true hlt',cond_true]
      rw [if_pos ⟨h0,h1,.inr hlt⟩] at hR'
      exact ⟨obp,hfi,hR'⟩
     ·have hlt':¬ Max.max (Zf V c) (-Zf V c) < Max.max (Zf V ce) (-Zf V ce):=hlt
      rw [decide_eq_false hlt',cond_false]
      rw [if_neg (fun h=>h.2.2.elim hE0 hlt)] at hR'
      exact ⟨obp,hfi,hR'⟩
   ·rw [show (c.1 == 1)=false by simpa using h1,cond_false]
    rw [if_neg (fun h=>h1 h.2.1)] at hR'
    by_cases h2:c.1=2
    ·rw [show (c.1 == 2)=true by simpa using h2,cond_true]
     rw [if_pos ⟨h0,h2⟩,if_neg (fun h=>h.2.2.1 h2),if_neg (fun h=>h.2.2.1 h2),List.append_nil,List.append_nil,List.map_append,List.map_cons,List.map_nil] at hR'
     exact ⟨⟨by simp only [List.length_singleton];omega,by simp only [List.length_singleton];omega⟩,obp,hfi,hR'⟩
    ·rw [show (c.1 == 2)=false by simpa using h2,cond_false]
     rw [if_neg (show ¬ (Zf V c≠0∧c.1=2) from fun h=>h2 h.2),List.append_nil] at hR'
     by_cases hpos:0 < Zf V c
     ·rw [decide_eq_true hpos,cond_true]
      rw [if_pos ⟨h0,h1,h2,hpos⟩,if_neg (fun h=>h.2.2.2 hpos),List.append_nil,List.map_append,List.map_cons,List.map_nil] at hR'
      exact ⟨⟨by simp only [List.length_singleton];omega,by simp only [List.length_singleton];omega⟩,obp,hfi,hR'⟩
     ·rw [decide_eq_false hpos,cond_false]
      rw [if_neg (fun h=>hpos h.2.2.2),if_pos ⟨h0,h1,h2,hpos⟩,List.append_nil,List.map_append,List.map_cons,List.map_nil] at hR'
      exact ⟨⟨by simp only [List.length_singleton];omega,by simp only [List.length_singleton];omega⟩,obp,hfi,hR'⟩
 have hip:i=p.length:=by omega
 subst hip
 rw [decide_eq_false (Int.lt_irrefl _),cond_false,List.take_length]
 have hJ:=ZlQ V p p.length (Nat.le_refl _)
 have hJe:eqJ V p p.length=eqI V p:=rfl
 rw [hJe] at hJ
 have hQe:eqQ V p p.length=if eqI V p < 0 then -1 else ((Zw V (p.take (eqI V p).toNat)).length:Int):=rfl
 have hle:∀ f:Zc→Bool,(p.filter f).length≤400:=fun f=>Nat.le_trans (List.length_filter_le _ _) h400
 have hPcB:∀ (n e:Int) (divs:List Part),PcB (N - 1) (n,ZbH V p,(Zw V p).map (ZaT V),e,(ZbM V p).map (ZaT V),(upP V p).map (ZaT V),divs):=fun n e divs=>by
  refine ⟨Nat.le_trans Zcm h400,⟨by show ((Zw V p).map _).length≤400;rw [List.length_map];exact hle _,fun q hq=>?_⟩,⟨by show ((ZbM V p).map _).length≤400;rw [List.length_map];exact hle _,fun q hq=>?_⟩,⟨by show ((upP V p).map _).length≤400;rw [List.length_map];exact hle _,fun q hq=>?_⟩⟩
  ·obtain ⟨c,hc,rfl⟩:=List.mem_map.1 hq
   exact ZgJ hN hV (Za3.1 hc).1
  ·obtain ⟨c,hc,rfl⟩:=List.mem_map.1 hq
   exact ZgJ hN hV (List.mem_filter.1 hc).1
  ·obtain ⟨c,hc,rfl⟩:=List.mem_map.1 hq
   exact ZgJ hN hV (List.mem_filter.1 hc).1
 have h30:((3:Int) != (0:Int))=true:=rfl
 have h00:((0:Int) != (0:Int))=false:=rfl
 have one:∀ (q q':List Zc),ZaU q→Zat q=Zat q'→ZcJ p N V=some [q']→Lp (σ:=Int×(List (List (Zc)))×(ByteArray→Option Bool)) (fun y6 R6=>let v13:=List.getD [q] (Int.toNat y6.1) ([]:List (Zc));let v14:=Zo.fn ((Zb.fn (v13,())).1,());let v16:=[(Zb.fn (v13,())).1];cond (decide (y6.1 < ((List.length [q]:Nat):Int))) (((0:Int)≤y6.1∧y6.1 < ((List.length [q]:Nat):Int))∧(Zb.pre (v13,())∧cond (((Zb.fn (v13,())).2).2 != (0:Int)) (((!((0:Int) != (0:Int)))=true→((!((0:Int) != (0:Int)))=true∧True))∧((((0:Int) != (0:Int))=false→(!((0:Int) != (0:Int)))=true)∧cond (((0:Int) != (0:Int))||(((Zb.fn (v13,())).2).2 != (0:Int))) ((([]:List (List (Zc))),(3:Int))=Z4 p N V) ((([]:List (List (Zc))),(0:Int))=Z4 p N V))) (((!(((Zb.fn (v13,())).2).1))=true→((!(((Zb.fn (v13,())).2).1))=true∧Zo.pre ((Zb.fn (v13,())).1,())))∧(((!(((Zb.fn (v13,())).2).1))=true→((!(((Zb.fn (v13,())).2).1))=true∧((!(((Zb.fn (v13,())).2).1))=true∧True)))∧((((Zb.fn (v13,())).2).1=false→(!(((Zb.fn (v13,())).2).1))=true)∧cond (((Zb.fn (v13,())).2).1||(Option.getD (y6.2.2 v14) false)) (Zu IntKind.i64 (y6.1+(1:Int))∧R6 ((y6.1+(1:Int)),y6.2)) (Zo.pre ((Zb.fn (v13,())).1,())∧((((List.length y6.2.1+List.length v16)*24)≤140737488355328∧(List.length y6.2.1+List.length v16)≤9223372036854775807)∧cond (decide ((400:Int) < (((List.length (y6.2.1++v16)):Nat):Int))) (((!((0:Int) != (0:Int)))=true→((!((0:Int) != (0:Int)))=true∧True))∧((((0:Int) != (0:Int))=false→(!((0:Int) != (0:Int)))=true)∧(([]:List (List (Zc))),(3:Int))=Z4 p N V)) (Zu IntKind.i64 (y6.1+(1:Int))∧R6 ((y6.1+(1:Int)),((y6.2.1++v16),Zdw y6.2.2 v14 true)))))))))) (((!((0:Int) != (0:Int)))=true→((!((0:Int) != (0:Int)))=true∧True))∧((((0:Int) != (0:Int))=false→(!((0:Int) != (0:Int)))=true)∧(y6.2.1,(0:Int))=Z4 p N V))) ((0:Int),(([]:List (List (Zc))),fun (a6:ByteArray)=>(none:Option Bool))):=by
  intro q q' hB ht hS
  have hres:Z4 p N V=match ZfK [q] with
   | none=>([],3)
   | some out=>(out,0):=by rw [hsh,hS,Zun ht];exact hmade _
  refine Lp.tid [q] [] _ Ze4.nil (by simp) (by simp) (fun i out m R hi hi' hf hk hol h1 h2 h3=>?_) (fun out m R ht hk hol=>?_)
  ·have hi0:i=0:=by simpa using hi
   subst hi0
   have hg:List.getD [q] 0 []=q:=rfl
   rw [hg] at h1 h2 h3
   dsimp only
   rw [decide_eq_true hi',cond_true,Int.toNat_natCast,hg]
   refine ⟨⟨by omega,hi'⟩,ZeQ hB hk hol (fun h4 hn=>?_) (fun hs=>⟨hf,h1 hs⟩) (fun hn=>?_) (fun hs=>⟨hf,h2 hs⟩)⟩
   ·have hn':ZfK [q]=none:=h3 hn
    simp only [h00,Zb.fn,h4,h30,Bool.or_true,cond_true]
    exact ⟨fun h=>⟨h,trivial⟩,fun h=>rfl,by rw [hres,hn']⟩
   ·have hn':ZfK [q]=none:=h3 hn
    exact ⟨fun h=>⟨h,trivial⟩,fun h=>by rw [h];rfl,by rw [hres,hn']⟩
  ·have ht':ZfK [q]=some out:=ht
   dsimp only
   rw [decide_eq_false (Int.lt_irrefl _),cond_false]
   exact ⟨fun h=>⟨h,trivial⟩,fun h=>by rw [h];rfl,by rw [hres,ht']⟩
 by_cases hE:0≤eqI V p
 ·rcases hJ with h | ⟨h1,h2,h3,h4⟩
  ·omega
  ·have hQv:eqQ V p p.length=((Zw V (p.take (eqI V p).toNat)).length:Int):=by rw [hQe,if_neg (by omega)]
   have hjp:(eqI V p).toNat < p.length:=by omega
   obtain ⟨k1,_,_⟩:=Znc hjp h3
   have hS:ZcJ p N V=some [Zcs V p (eqI V p).toNat]:=by unfold ZcJ;rw [if_pos hE]
   rw [hQv,decide_eq_true (show (0:Int)≤((Zw V (p.take (eqI V p).toNat)).length:Int) by omega),cond_true]
   obtain ⟨b1,b2⟩:=ZnI hN hV hjp h3 ((N:Int) - 1) ((ZbM V p).map (ZaT V)) ((upP V p).map (ZaT V)) ((Zf9 V p).map (ZaT V))
   refine ⟨⟨⟨N - 1,hPcB _ _ _⟩,by show (0:Int)≤((Zw V (p.take (eqI V p).toNat)).length:Int);omega,by show ((Zw V (p.take (eqI V p).toNat)).length:Int) < (((Zw V p).map (ZaT V)).length:Int);rw [List.length_map];omega⟩,?_⟩
   exact one _ _ b1 b2 hS
 ·have hQv:eqQ V p p.length=-1:=by rw [hQe,if_pos (by omega)]
  rw [hQv,decide_eq_false (show ¬ (0:Int)≤-1 by omega),cond_false]
  have tried:¬ (Zf9 V p=[]∧(ZbM V p=[]∨upP V p=[]))→ZgW V p=false→∀ e,ZeE ((N:Int) - 1) (ZbH V p) ((Zw V p).map (ZaT V)) e ((ZbM V p).map (ZaT V)) ((upP V p).map (ZaT V)) ((Zf9 V p).map (ZaT V)) (fun r=>r=Z4 p N V):=fun hA hX e=>by
   refine ZeE.spec hN hV e _ fun r hr=>?_
   have hS:ZcJ p N V=if (Zbs V p).2≠0 then none else if (ZeW V p (Zbs V p).1).2≠0 then none else some (ZbV V p (N - 1) (Zbs V p).1 (ZeW V p (Zbs V p).1).1.toNat):=by
    unfold ZcJ;rw [if_neg hE,if_neg hA,if_neg (by rw [hX];simp)]
   rw [hr,hsh,hS]
   split
   ·rfl
   ·split
    ·rfl
    ·rfl
  by_cases hD:Zf9 V p=[]
  rotate_left
  ·have hdl:(0:Int) < ((((Zf9 V p).map (ZaT V)).length:Nat):Int):=by
    rw [List.length_map]
    have:(Zf9 V p).length≠0:=fun h=>hD (List.eq_nil_of_length_eq_zero h)
    omega
   rw [decide_eq_true hdl,cond_true]
   refine tried (fun h=>hD h.1) ?_ (-1)
   unfold ZgW
   cases hh:Zf9 V p with
   | nil=>exact absurd hh hD
   | cons x l=>rfl
  have hdl:¬ (0:Int) < ((((Zf9 V p).map (ZaT V)).length:Nat):Int):=by rw [hD];simp
  rw [decide_eq_false hdl,cond_false]
  have hlowlen:(ZbM V p).length≤400:=hle _
  have huplen:(upP V p).length≤400:=hle _
  refine Lp.iter (ZbM V p).length (fun i z=>z=(i:Int)∧∀ a,a < i→∀ b,b < (upP V p).length→Zf V ((ZbM V p).getD a Za)=1∨Zf V ((upP V p).getD b Za)=-1) ⟨rfl,fun a ha=>absurd ha (by omega)⟩ ?_
  rintro i z hi ⟨rfl,hdone⟩ R1 hR1
  dsimp only
  by_cases e:i < (ZbM V p).length
  ·have e':(i:Int) < ((((ZbM V p).map (ZaT V)).length:Nat):Int):=by rw [List.length_map];omega
   have hgl:((ZbM V p).map (ZaT V)).getD i ZbU=ZaT V ((ZbM V p).getD i Za):=ZeH e
   rw [decide_eq_true e',cond_true,Int.toNat_natCast,hgl]
   refine ⟨⟨by omega,e'⟩,?_⟩
   have hcx:(ZaT V ((ZbM V p).getD i Za)).2.1=Zf V ((ZbM V p).getD i Za):=rfl
   rw [hcx]
   refine Lp.iter (upP V p).length (fun j z=>z=(j:Int)∧∀ b,b < j→Zf V ((ZbM V p).getD i Za)=1∨Zf V ((upP V p).getD b Za)=-1) ⟨rfl,fun a ha=>absurd ha (by omega)⟩ ?_
   rintro j z hj ⟨rfl,hdj⟩ R2 hR2
   by_cases ej:j < (upP V p).length
   ·have ej':(j:Int) < ((((upP V p).map (ZaT V)).length:Nat):Int):=by rw [List.length_map];omega
    have hgu:((upP V p).map (ZaT V)).getD j ZbU=ZaT V ((upP V p).getD j Za):=ZeH ej
    have hcy:(ZaT V ((upP V p).getD j Za)).2.1=Zf V ((upP V p).getD j Za):=rfl
    rw [decide_eq_true ej',cond_true,Int.toNat_natCast,hgu,hcy]
    refine ⟨⟨by omega,ej'⟩,fun h=>⟨h,trivial⟩,fun h=>⟨h,trivial⟩,fun h=>h,?_⟩
    by_cases hb:Zf V ((ZbM V p).getD i Za)=1∨Zf V ((upP V p).getD j Za)=-1
    ·have hc:(Zf V ((ZbM V p).getD i Za) != 1&&Zf V ((upP V p).getD j Za) != -(1:Int))=false:=by
      rw [Bool.and_eq_false_iff]
      exact hb.imp (fun h=>by rw [h];rfl) (fun h=>by rw [h];rfl)
     rw [hc,cond_false]
     refine ⟨⟨by omega,by omega⟩,hR2 ej _ ⟨rfl,fun b hbj=>?_⟩⟩
     by_cases hbe:b=j
     ·subst hbe;exact hb
     ·exact hdj b (by omega)
    ·have hc:(Zf V ((ZbM V p).getD i Za) != 1&&Zf V ((upP V p).getD j Za) != -(1:Int))=true:=by
      simp only [not_or] at hb
      rw [Bool.and_eq_true]
      exact ⟨by simpa using hb.1,by simpa using hb.2⟩
     rw [hc,cond_true]
     refine tried (fun h=>?_) ?_ (-1)
     ·rcases h.2 with h | h
      ·rw [h] at e;simp at e
      ·rw [h] at ej;simp at ej
     ·unfold ZgW
      rw [Bool.and_eq_false_iff]
      right
      rw [List.all_eq_false]
      refine ⟨_,Zj (d:=Za) e,?_⟩
      rw [Bool.not_eq_true,List.all_eq_false]
      refine ⟨_,Zj (d:=Za) ej,by simpa using hb⟩
   ·have:j=(upP V p).length:=by omega
    subst this
    rw [decide_eq_false (by rw [List.length_map];omega),cond_false]
    refine ⟨⟨by omega,by omega⟩,hR1 e _ ⟨rfl,fun a ha b hb=>?_⟩⟩
    by_cases hae:a=i
    ·subst hae;exact hdj b hb
    ·exact hdone a (by omega) b hb
  ·have:i=(ZbM V p).length:=by omega
   subst this
   rw [decide_eq_false (by rw [List.length_map];omega),cond_false]
   have hpaired:Zr.fn (((N:Int) - 1,ZbH V p,(Zw V p).map (ZaT V),(-1:Int),(ZbM V p).map (ZaT V),(upP V p).map (ZaT V),(Zf9 V p).map (ZaT V)),())=[Zjj V p]:=by
    show [ZbH V p++((ZbM V p).map (ZaT V)).flatMap fun l=>((upP V p).map (ZaT V)).map fun u=>((0:Int),(0:Int),Zcf l.2.1 u.2.2 (-u.2.1) l.2.2)]=_
    unfold Zjj
    rw [List.flatMap_map]
    congr 2
    congr 1
    funext x
    rw [List.map_map]
    rfl
   have hX:ZgW V p=true:=by
    unfold ZgW
    rw [hD,Bool.and_eq_true]
    refine ⟨rfl,List.all_eq_true.2 fun x hx=>List.all_eq_true.2 fun y hy=>?_⟩
    obtain ⟨a,ha,rfl⟩:=ZbO (d:=Za) hx
    obtain ⟨b,hb,rfl⟩:=ZbO (d:=Za) hy
    simpa using hdone a ha b hb
   have hS:ZcJ p N V=some [Zjj V p]:=by
    unfold ZcJ
    rw [if_neg hE]
    by_cases hA:Zf9 V p=[]∧(ZbM V p=[]∨upP V p=[])
    ·rw [if_pos hA]
     have:Zjj V p=ZbH V p:=by
      unfold Zjj
      rcases hA.2 with h | h
      ·rw [h];simp
      ·rw [h];simp
     rw [this]
    ·rw [if_neg hA,if_pos hX]
   refine ⟨⟨N - 1,hPcB _ _ _⟩,?_⟩
   rw [hpaired]
   exact one _ _ (ZgR hN (v:=V) (by omega)).D.1 rfl hS
abbrev Zbd.fn (x:Int×List Int×Unit):Zc:=(0,0,x.2.1,x.1)
abbrev Z1.fn (x:Int×Int×Unit):List Zc:=[(2,x.1,[1],x.2.1)]
abbrev Zbf.fn (x:Zcw×Int×Zcw×Int×Unit):Bool:=decide (x.2.1=x.2.2.2.1)&&decide (x.1=x.2.2.1)
abbrev ZA.fn (x:Unit):Bool:=true
set_option maxRecDepth 4000
def ZaV.wp (x0:Int×(List (List Zc))) (x1:Int) (Q:(Int×(List (List Zc)))×Int→Prop):Prop:=let v0:=List.length (((Z5.fn (x0,())).1).2);cond (!(ZaO.fn (x0,()))) (Q (((0:Int),([]:List (List (Zc)))),(1:Int))) (((!(decide (x1 < (0:Int))))=true→((!(decide (x1 < (0:Int))))=true∧True))∧(((!(decide (x1 < (0:Int))))=true→((!(decide (x1 < (0:Int))))=true∧((!(decide (x1 < (0:Int))))=true∧True)))∧((decide (x1 < (0:Int))=false→(!(decide (x1 < (0:Int))))=true)∧cond (decide (x1 < (0:Int))||decide (x0.1≤x1)) (Q (((0:Int),([]:List (List (Zc)))),(6:Int))) (cond ((Z5.fn (x0,())).2 != (0:Int)) (Q (((0:Int),([]:List (List (Zc)))),(Z5.fn (x0,())).2)) (Lp (σ:=Int×List (List (Zc))) (fun y3 R3=>let v1:=List.getD (((Z5.fn (x0,())).1).2) (Int.toNat y3.1) ([]:List (Zc));let v2:=ZP.fn (v1,(x0.1,(x1,())));cond (decide (y3.1 < ((v0:Nat):Int))) (((0:Int)≤y3.1∧y3.1 < ((v0:Nat):Int))∧(ZP.pre (v1,(x0.1,(x1,())))∧cond (v2.2 != (0:Int)) (Q (((0:Int),([]:List (List (Zc)))),v2.2)) ((((List.length y3.2+List.length v2.1)*24)≤140737488355328∧(List.length y3.2+List.length v2.1)≤9223372036854775807)∧(Zu IntKind.i64 (y3.1+(1:Int))∧R3 ((y3.1+(1:Int)),(y3.2++v2.1)))))) (Lp (σ:=Int×(List (List (Zc)))×(ByteArray→Option Bool)) (fun y5 R5=>let v3:=List.getD y3.2 (Int.toNat y5.1) ([]:List (Zc));let v4:=Zo.fn ((Zb.fn (v3,())).1,());let v6:=[(Zb.fn (v3,())).1];cond (decide (y5.1 < ((List.length y3.2:Nat):Int))) (((0:Int)≤y5.1∧y5.1 < ((List.length y3.2:Nat):Int))∧(Zb.pre (v3,())∧cond (((Zb.fn (v3,())).2).2 != (0:Int)) (cond (((Zb.fn (v3,())).2).2 != (0:Int)) (Q (((0:Int),([]:List (List (Zc)))),((Zb.fn (v3,())).2).2)) (Zu IntKind.i64 (x0.1 - (1:Int))∧Q (((x0.1 - (1:Int)),([]:List (List (Zc)))),(0:Int)))) (((!(((Zb.fn (v3,())).2).1))=true→((!(((Zb.fn (v3,())).2).1))=true∧Zo.pre ((Zb.fn (v3,())).1,())))∧(((!(((Zb.fn (v3,())).2).1))=true→((!(((Zb.fn (v3,())).2).1))=true∧((!(((Zb.fn (v3,())).2).1))=true∧True)))∧((((Zb.fn (v3,())).2).1=false→(!(((Zb.fn (v3,())).2).1))=true)∧cond (((Zb.fn (v3,())).2).1||(Option.getD (y5.2.2 v4) false)) (Zu IntKind.i64 (y5.1+(1:Int))∧R5 ((y5.1+(1:Int)),y5.2)) (Zo.pre ((Zb.fn (v3,())).1,())∧((((List.length y5.2.1+List.length v6)*24)≤140737488355328∧(List.length y5.2.1+List.length v6)≤9223372036854775807)∧cond (decide ((400:Int) < (((List.length (y5.2.1++v6)):Nat):Int))) (Q (((0:Int),([]:List (List (Zc)))),(3:Int))) (Zu IntKind.i64 (y5.1+(1:Int))∧R5 ((y5.1+(1:Int)),((y5.2.1++v6),Zdw y5.2.2 v4 true)))))))))) (Zu IntKind.i64 (x0.1 - (1:Int))∧Q (((x0.1 - (1:Int)),y5.2.1),(0:Int)))) ((0:Int),(([]:List (List (Zc))),fun (a5:ByteArray)=>(none:Option Bool))))) ((0:Int),([]:List (List (Zc)))))))))
def ZaS.wp (x0:Int×(List (List Zc))) (x1:Int) (Q:(Int×(List (List Zc)))×Int→Prop):Prop:=let v0:=Zae.fn (x0,());cond (!(Zaj.fn (x0,()))) (Q (((0:Int),([]:List (List (Zc)))),(1:Int))) (((!(decide (x1 < (0:Int))))=true→((!(decide (x1 < (0:Int))))=true∧True))∧(((!(decide (x1 < (0:Int))))=true→((!(decide (x1 < (0:Int))))=true∧((!(decide (x1 < (0:Int))))=true∧True)))∧((decide (x1 < (0:Int))=false→(!(decide (x1 < (0:Int))))=true)∧cond (decide (x1 < (0:Int))||decide (x0.1≤x1)) (Q (((0:Int),([]:List (List (Zc)))),(6:Int))) (cond (v0.2 != (0:Int)) (Q (((0:Int),([]:List (List (Zc)))),v0.2)) (Lp (σ:=Int×List (List (Zc))) (fun y3 R3=>let v1:=List.getD v0.1.2 (Int.toNat y3.1) ([]:List (Zc));let v2:=ZS.fn (v1,(x0.1,(x1,())));cond (decide (y3.1 < ((List.length v0.1.2:Nat):Int))) (((0:Int)≤y3.1∧y3.1 < ((List.length v0.1.2:Nat):Int))∧(ZS.pre (v1,(x0.1,(x1,())))∧cond (v2.2 != (0:Int)) (Q (((0:Int),([]:List (List (Zc)))),v2.2)) ((((List.length y3.2+List.length v2.1)*24)≤140737488355328∧(List.length y3.2+List.length v2.1)≤9223372036854775807)∧(Zu IntKind.i64 (y3.1+(1:Int))∧R3 ((y3.1+(1:Int)),(y3.2++v2.1)))))) (Zu IntKind.i64 (x0.1 - (1:Int))∧(Zag.pre ((x0.1 - (1:Int)),(y3.2,()))∧Q (Zag.fn ((x0.1 - (1:Int)),(y3.2,())))))) ((0:Int),([]:List (List (Zc)))))))))
def Za4.wp (N:Nat) (x0:List Zc) (x1:Int) (x2:ByteArray→Option Bool) (Q:Bool×Int→(ByteArray→Option Bool)→Prop):Prop:=let v2:=Z7.fn (x0,(x1,()));let v3:=ZP.fn (x0,(x1,(v2,())));cond (x1 == (0:Int)) (Q (true,(0:Int)) x2) (Zo.pre (x0,())∧cond (Option.isSome (x2 (Zo.fn (x0,())))) (Q ((Option.getD (x2 (Zo.fn (x0,()))) false),(0:Int)) x2) (Z7.pre (x0,(x1,()))∧(ZP.pre (x0,(x1,(v2,())))∧cond (v3.2 != (0:Int)) (Q (false,v3.2) x2) (Lp (σ:=Int×(ByteArray→Option Bool)) (fun y5 R5=>let v4:=List.getD v3.1 (Int.toNat y5.1) ([]:List (Zc));cond (decide (y5.1 < ((List.length v3.1:Nat):Int))) (((0:Int)≤y5.1∧y5.1 < ((List.length v3.1:Nat):Int))∧(Zu IntKind.i64 (x1 - (1:Int))∧(ZdU N (v4,(x1 - (1:Int))) y5.2∧∀ b7:Bool×Int,∀ b8:(ByteArray→Option Bool),(Zc6 (v4,(x1 - (1:Int))) y5.2 b7 b8→cond (b7.2 != (0:Int)) (Q (false,b7.2) b8) (cond b7.1 (Q (true,(0:Int)) (Zdw b8 (Zo.fn (x0,())) true)) (Zu IntKind.i64 (y5.1+(1:Int))∧R5 ((y5.1+(1:Int)),b8))))))) (Q (false,(0:Int)) (Zdw y5.2 (Zo.fn (x0,())) false))) ((0:Int),x2)))))
def ZaJ.wp (x0:Int×(List (List Zc))) (Q:Bool×Int→Prop):Prop:=let v0:=List.length (((Z5.fn (x0,())).1).2);cond (!(ZaO.fn (x0,()))) (Q (false,(1:Int))) (cond ((Z5.fn (x0,())).2 != (0:Int)) (Q (false,(Z5.fn (x0,())).2)) (Lp (σ:=Int×(ByteArray→Option Bool)) (fun y2 R2=>let v1:=List.getD (((Z5.fn (x0,())).1).2) (Int.toNat y2.1) ([]:List (Zc));cond (decide (y2.1 < ((v0:Nat):Int))) (((0:Int)≤y2.1∧y2.1 < ((v0:Nat):Int))∧(Zjp (v1,x0.1) y2.2∧∀ b4:Bool×Int,∀ b5:(ByteArray→Option Bool),(Zc6 (v1,x0.1) y2.2 b4 b5→(((b4.2 != (0:Int))=false→(!(b4.2 != (0:Int)))=true)∧cond ((b4.2 != (0:Int))||b4.1) (Q (false,b4.2)) (Zu IntKind.i64 (y2.1+(1:Int))∧R2 ((y2.1+(1:Int)),b5)))))) (Q (true,(0:Int)))) ((0:Int),fun (a2:ByteArray)=>(none:Option Bool))))
def Zbd.wp (x0:Int) (x1:List Int) (Q:Zc→Prop):Prop:=Q ((0:Int),((0:Int),(x1,x0)))
def Z1.wp (x0:Int) (x1:Int) (Q:(List Zc)→Prop):Prop:=Q ([((2:Int),(x0,([(1:Int)],x1)))])
def Zbf.wp (x0:Int×(List (List Zc))) (x1:Int) (x2:Int×(List (List Zc))) (x3:Int) (Q:Bool→Prop):Prop:=(((x1 == x3)=true→((x1 == x3)=true∧((x1 == x3)=true∧True)))∧(((x1 == x3)=true→(x1 == x3)=true)∧Q ((x1 == x3)&&(Zaq.fn (x0,(x2,()))))))
def law05_ElimShadows.wp (x0:Int×(List (List Zc))) (x1:Int) (Q:Bool→Prop):Prop:=let v1:=ZaV.fn (x0,(x1,()));let v2:=ZaS.fn (x0,(x1,()));let v3:=Zbf.fn (v1.1,(v1.2,(v2.1,(v2.2,()))));cond (!(ZY.fn ((6:Int),((10:Int),([x0],()))))) (Q (ZA.fn ())) ((v3=true→v3=true)∧Q (v3&&ZA.fn ()))
theorem ZmS (p:List Zc) (n v:Int):(Z4 p n v).2=0∨(Z4 p n v).2=3:=by
 unfold Z4
 rcases ZaB (ZcJ p n.toNat v.toNat) with e | ⟨l,e⟩
 ·rw [e];exact .inr rfl
 ·simp only [e]
  unfold Zd7
  rcases ZaB (ZfK l) with e | ⟨l,e⟩
  ·rw [e];exact .inr rfl
  ·rw [e];exact .inl rfl
theorem Zkj {p:List Zc} {n v:Int} (h:¬ (Z4 p n v).2=0):(Z4 p n v).2=3:=(ZmS p n v).resolve_left h
def ZeU (n v:Int) (all:List (List Zc)) (p:List Zc):Option (List (List Zc)):=if (Z4 p n v).2≠0 then none else some (all++(Z4 p n v).1)
theorem ZkK {n v:Int} (hv0:0≤v) (hv:v < n):∀ {l a b:List (List Zc)},(∀ q∈l,pieceN q n)→l.foldlM (ZeU n v) a=some b→(∀ q∈a,ZaU q∧ZeD q (n.toNat - 1))→b.length≤a.length+400*l.length∧∀ q∈b,ZaU q∧ZeD q (n.toNat - 1)
 | [],a,b,_,h,ha=>by cases h;exact ⟨by simp,ha⟩
 | p::l,a,b,hl,h,ha=>by
   rw [List.foldlM_cons] at h
   obtain ⟨o,h1,h2⟩:=Option.bind_eq_some_iff.1 h
   unfold ZeU at h1
   split at h1
   ·cases h1
   ·rename_i h0
    cases h1
    obtain ⟨k1,_⟩:=ZeI (hl p (by simp)) hv0 hv (by simpa using h0)
    obtain ⟨j1,j2⟩:=ZkK hv0 hv (fun q hq=>hl q (List.mem_cons_of_mem _ hq)) h2 (fun q hq=>by
     rcases List.mem_append.1 hq with hq | hq
     ·exact ha q hq
     ·exact ⟨(k1.at hq).1.B,(k1.at hq).2⟩)
    refine ⟨?_,j2⟩
    have:=k1.1.1
    simp only [List.length_append] at j1
    simp only [List.length_cons];omega
theorem ZoV (n v:Int) (l:List (List Zc)):ZkU n v l=l.foldlM (ZeU n v) []:=rfl
theorem ZhX {s:Zcw} (h:(Za1 s).2=0):ZH s=true:=by
 cases hv:ZH s with
 | true=>rfl
 | false=>unfold Za1 at h;rw [if_pos hv] at h;cases h
theorem Zg3 {s:Zcw} (h:(Za1 s).2=0) {q:List Zc} (hq:q∈(Za1 s).1.2):pieceN q s.1:=by
 have hb:=ZH.b (ZhX h)
 have:=(Zkp h).pieceN (by omega) hq
 rwa [Int.toNat_of_nonneg hb.1] at this
theorem ZoD {s : Zcw} {v : Int} (hn : (Za1 s).2 = 0) (hv0 : 0 ≤ v) (hv : v < s.1) {body : Int × List (List Zc) → (Int × List (List Zc) → Prop) → Prop}
 (h:∀ (i:Nat) (t:List (List Zc)) (R:Int×List (List Zc)→Prop),(i:Int) < ((Za1 s).1.2.length:Int)→Zu .i64 ((i:Int)+1)→ZP.pre ((Za1 s).1.2.getD i [],s.1,v,()) →
  (Ze6 s v=((0,[]),3)→(Z4 ((Za1 s).1.2.getD i []) s.1 v).2≠0→(Z4 ((Za1 s).1.2.getD i []) s.1 v).2=3→body ((i:Int),t) R) ∧
  ((Z4 ((Za1 s).1.2.getD i []) s.1 v).2=0→t.length+(Z4 ((Za1 s).1.2.getD i []) s.1 v).1.length≤4194304→R ((i:Int)+1,t++(Z4 ((Za1 s).1.2.getD i []) s.1 v).1)→body ((i:Int),t) R))
 (h2:∀ (t:List (List Zc)) (R:Int×List (List Zc)→Prop),Ze6 s v=ZgH (s.1 - 1) (ZfK t)→t.length≤4194304→(∀ q∈t,ZaU q∧ZeD q (s.1.toNat - 1))→body (((Za1 s).1.2.length:Int),t) R):Lp body (0,[]):=by
 have hval:=ZhX hn
 have hE:Ze6 s v=match ZkU s.1 v (Za1 s).1.2 with
  | none=>((0,[]),3)
  | some all=>ZgH (s.1 - 1) (ZfK all):=by
  unfold Ze6
  rw [if_neg (by rw [hval];simp),if_neg (by omega),if_neg (by omega)]
  cases ZkU s.1 v (Za1 s).1.2<;>rfl
 have hlen:(Za1 s).1.2.length≤400:=(Zkp hn).1.1
 have hall:∀ q∈(Za1 s).1.2,pieceN q s.1:=fun q hq=>Zg3 hn hq
 rw [ZoV] at hE
 refine Lp.foldO (Za1 s).1.2 [] (ZeU s.1 v) [] (by omega) (fun i t R hi hi' hf ht hs hno=>?_) (fun t R ht=>?_)
 ·have hq:=Zj (d:=[]) hi
  obtain ⟨g1,g2⟩:=h i t R hi' hf ⟨hall _ hq,hv0,hv⟩
  have htk:=(ZkK hv0 hv (fun q hq=>hall q (List.mem_of_mem_take hq)) ht (by simp)).1
  have:((Za1 s).1.2.take i).length≤400:=by rw [List.length_take];omega
  simp only [List.length_nil] at htk
  by_cases h0:(Z4 ((Za1 s).1.2.getD i []) s.1 v).2=0
  ·have hl:=(ZeI (hall _ hq) hv0 hv h0).1.1.1
   refine g2 h0 (by omega) (hs _ ?_)
   unfold ZeU
   rw [if_neg (by omega)]
  ·refine g1 ?_ h0 (Zkj h0)
   rw [hE,hno (by unfold ZeU;rw [if_pos h0])]
 ·obtain ⟨k1,k2⟩:=ZkK hv0 hv hall ht (by simp)
  simp only [List.length_nil] at k1
  exact h2 t R (by rw [hE,ht]) (by omega) k2
theorem ZaV.spec (s:Zcw) (v:Int):ZaV.wp s v (fun r=>r=ZaV.fn (s,v,())):=by
 unfold ZaV.wp
 dsimp only
 rw [show ZaV.fn (s,v,())=Ze6 s v from rfl,show ZaO.fn (s,())=ZH s from rfl,show Z5.fn (s,())=Za1 s from rfl]
 cases hval:ZH s with
 | false =>
   simp only [Bool.not_false,cond_true]
   unfold Ze6;rw [if_pos hval]
 | true =>
   have hb:=ZH.b hval
   simp only [Bool.not_true,cond_false]
   refine ⟨fun h=>⟨h,trivial⟩,fun h=>⟨h,h,trivial⟩,fun h=>by rw [h];rfl,?_⟩
   by_cases hr:v < 0∨s.1≤v
   ·rw [show (decide (v < 0)||decide (s.1≤v))=true by rw [← Bool.decide_or,decide_eq_true hr],cond_true]
    unfold Ze6;rw [if_neg (by rw [hval];simp),if_pos hr]
   ·rw [show (decide (v < 0)||decide (s.1≤v))=false by rw [← Bool.decide_or,decide_eq_false hr],cond_false]
    by_cases hn:(Za1 s).2=0
    ·rw [show ((Za1 s).2 != 0)=false by rw [hn];rfl,cond_false]
     refine ZoD hn (v:=v) (by omega) (by omega) (fun i t R hi hf hp=>⟨fun h1 h2 h3=>?_,fun h1 h2 hR=>?_⟩) (fun t R ht htl htp=>?_)
     ·dsimp only
      rw [decide_eq_true hi,cond_true,Int.toNat_natCast]
      refine ⟨⟨by omega,hi⟩,hp,?_⟩
      rw [show ZP.fn ((Za1 s).1.2.getD i [],s.1,v,())=Z4 ((Za1 s).1.2.getD i []) s.1 v from rfl,bne_iff_ne.2 h2,cond_true,h3,h1]
     ·dsimp only
      rw [decide_eq_true hi,cond_true,Int.toNat_natCast]
      refine ⟨⟨by omega,hi⟩,hp,?_⟩
      rw [show ZP.fn ((Za1 s).1.2.getD i [],s.1,v,())=Z4 ((Za1 s).1.2.getD i []) s.1 v from rfl,h1,show ((0:Int) != 0)=false from rfl,cond_false]
      exact ⟨⟨by omega,by omega⟩,hf,hR⟩
     ·dsimp only
      rw [decide_eq_false (Int.lt_irrefl _),cond_false]
      have hfits:Zu IntKind.i64 (s.1 - 1):=⟨by omega,by omega⟩
      refine Lp.tid t [] _ Ze4.nil (by simp) (by omega) (fun i out m R hi hi' hf hk hol h1 h2 h3=>?_) (fun out m R ht2 hk hol=>?_)
      ·dsimp only
       rw [decide_eq_true hi',cond_true,Int.toNat_natCast]
       have hres:=fun hn=>ht.trans (show ZgH (s.1 - 1) (ZfK t)=((0,[]),3) by rw [show ZfK t=none from h3 hn];rfl)
       refine ⟨⟨by omega,hi'⟩,ZeQ (htp _ (Zj hi)).1 hk hol (fun h4 hn=>?_) (fun hs=>⟨hf,h1 hs⟩) (fun hn=>?_) (fun hs=>⟨hf,h2 hs⟩)⟩
       ·simp only [Zb.fn,h4,show ((3:Int) != 0)=true from rfl,cond_true]
        rw [hres hn]
       ·rw [hres hn]
      ·dsimp only
       rw [decide_eq_false (Int.lt_irrefl _),cond_false]
       exact ⟨hfits,by rw [ht,show ZfK t=some out from ht2];rfl⟩
    ·rw [bne_iff_ne.2 hn,cond_true]
     unfold Ze6;rw [if_neg (by rw [hval];simp),if_neg hr,if_pos hn]
theorem ZaS.spec (s:Zcw) (v:Int):ZaS.wp s v (fun r=>r=ZaS.fn (s,v,())):=by
 unfold ZaS.wp
 dsimp only
 rw [show ZaS.fn (s,v,())=Ze6 s v from rfl,show Zaj.fn (s,())=ZH s from rfl,show Zae.fn (s,())=Za1 s from rfl]
 cases hval:ZH s with
 | false =>
   simp only [Bool.not_false,cond_true]
   unfold Ze6;rw [if_pos hval]
 | true =>
   have hb:=ZH.b hval
   simp only [Bool.not_true,cond_false]
   refine ⟨fun h=>⟨h,trivial⟩,fun h=>⟨h,h,trivial⟩,fun h=>by rw [h];rfl,?_⟩
   by_cases hr:v < 0∨s.1≤v
   ·rw [show (decide (v < 0)||decide (s.1≤v))=true by rw [← Bool.decide_or,decide_eq_true hr],cond_true]
    unfold Ze6;rw [if_neg (by rw [hval];simp),if_pos hr]
   ·rw [show (decide (v < 0)||decide (s.1≤v))=false by rw [← Bool.decide_or,decide_eq_false hr],cond_false]
    by_cases hn:(Za1 s).2=0
    ·rw [show ((Za1 s).2 != 0)=false by rw [hn];rfl,cond_false]
     refine ZoD hn (v:=v) (by omega) (by omega) (fun i t R hi hf hp=>⟨fun h1 h2 h3=>?_,fun h1 h2 hR=>?_⟩) (fun t R ht htl htp=>?_)
     ·dsimp only
      rw [decide_eq_true hi,cond_true,Int.toNat_natCast]
      refine ⟨⟨by omega,hi⟩,hp,?_⟩
      rw [show ZS.fn ((Za1 s).1.2.getD i [],s.1,v,())=Z4 ((Za1 s).1.2.getD i []) s.1 v from rfl,bne_iff_ne.2 h2,cond_true,h3,h1]
     ·dsimp only
      rw [decide_eq_true hi,cond_true,Int.toNat_natCast]
      refine ⟨⟨by omega,hi⟩,hp,?_⟩
      rw [show ZS.fn ((Za1 s).1.2.getD i [],s.1,v,())=Z4 ((Za1 s).1.2.getD i []) s.1 v from rfl,h1,show ((0:Int) != 0)=false from rfl,cond_false]
      exact ⟨⟨by omega,by omega⟩,hf,hR⟩
     ·dsimp only
      rw [decide_eq_false (Int.lt_irrefl _),cond_false]
      exact ⟨⟨by omega,by omega⟩,⟨by show t.length≤_;omega,fun p hp=>⟨(htp p hp).1,_,(htp p hp).2⟩⟩,ht.symm⟩
    ·rw [bne_iff_ne.2 hn,cond_true]
     unfold Ze6;rw [if_neg (by rw [hval];simp),if_neg hr,if_pos hn]
theorem ZjD {f:List Zc→Bool×Int} {l:List (List Zc)} {i:Nat} (hi:i < l.length):Ze9 f (l.drop i)=if (f (l.getD i [])).1=true∨(f (l.getD i [])).2≠0 then f (l.getD i []) else Ze9 f (l.drop (i+1)):=by
 have:l.drop i=l.getD i []::l.drop (i+1):=by
  rw [List.getD_eq_getElem?_getD,List.getElem?_eq_getElem hi]
  simp
 rw [this];rfl
theorem ZjQ (k:Nat) (p:List Zc):Zcp (k+1) p=if (Z4 p ((k+1:Nat):Int) (ZbI p ((k+1:Nat):Int))).2≠0 then (false,(Z4 p ((k+1:Nat):Int) (ZbI p ((k+1:Nat):Int))).2) else Ze9 (Zcp k) (Z4 p ((k+1:Nat):Int) (ZbI p ((k+1:Nat):Int))).1:=rfl
theorem pieceN.shadow {p:List Zc} {k:Nat} {v:Int} (h:pieceN p ((k+1:Nat):Int)) (hv0:0≤v) (hv:v < ((k+1:Nat):Int)) (h0:(Z4 p ((k+1:Nat):Int) v).2=0) {q:List Zc} (hq:q∈(Z4 p ((k+1:Nat):Int) v).1):pieceN q (k:Int):=by
 have h1:=(ZeI h hv0 hv h0).1
 have h2:(((k+1:Nat):Int)).toNat - 1=k:=by omega
 rw [h2] at h1
 exact h1.pieceN (by have:=h.2.2.2;omega) hq
theorem pieceN.nameOk {p:List Zc} {n:Int} (h:pieceN p n):nameOk p:=by
 obtain ⟨h1,h2,h3,h4⟩:=h
 exact Zhd.name ⟨by omega,fun c hc=>(h2 c hc).1⟩
theorem ZuV:ZfK [[]]=some [[]]:=by decide
theorem Zna (n v:Int):Z4 [] n v=([[]],0):=by
 unfold Z4
 have:ZcJ [] n.toNat v.toNat=some [[]]:=by
  unfold ZcJ
  rw [show eqI v.toNat []=-1 from rfl,if_neg (show ¬ (0:Int)≤-1 by decide),if_pos ⟨rfl,.inl rfl⟩]
  rfl
 rw [this]
 show Zd7 [[]]=_
 unfold Zd7
 rw [ZuV]
theorem Zl4:∀ n,Zcp n []=(true,0)
 | 0=>rfl
 | n+1=>by
   rw [ZjQ,Zna]
   rw [if_neg (fun h=>h rfl)]
   show (if (Zcp n []).1=true∨(Zcp n []).2≠0 then Zcp n [] else Ze9 (Zcp n) [])=_
   rw [Zl4 n]
   rfl
theorem Zqk.put {m:ByteArray→Option Bool} (h:Zqk m) {p:List Zc} {n:Int} {b:Bool} (hp:pieceN p n) (hn:1≤n) (hb:Zcp n.toNat p=(b,0)):Zqk (Zdw m (ZbR (Zck p)) b):=by
 intro q k c hq hk h1
 by_cases e:q=p
 ·subst e
  have:some b=some c:=by
   rw [← hq];unfold Zdw;rw [if_pos rfl]
  have hbc:b=c:=by injection this
  subst hbc
  cases q with
  | nil =>
    rw [Zl4] at hb ⊢
    exact hb
  | cons a l =>
    have h2:=(hp.2.1 a (by simp)).2
    have h3:=(hk.2.1 a (by simp)).2
    rw [← h3,h2]
    exact hb
 ·refine h q k c ?_ hk h1
  rw [← hq]
  unfold Zdw
  rw [if_neg]
  intro h;exact e (ZnY.1 h)
theorem Zqk.nil:Zqk (fun _=>none):=fun p n b h=>by cases h
theorem Za4.spec (N:Nat) (p:List Zc) (n:Int) (m:ByteArray→Option Bool) (hp:ZdU (N+1) (p,n) m):Za4.wp N p n m (fun r m'=>Zc6 (p,n) m r m'):=by
 obtain ⟨⟨hp,hm⟩,hN⟩:=hp
 simp only at hp hN
 unfold Za4.wp
 dsimp only
 rw [show Z7.fn (p,n,())=ZbI p n from rfl,show ZP.fn (p,n,ZbI p n,())=Z4 p n (ZbI p n) from rfl,show Zo.fn (p,())=ZbR (Zck p) from rfl]
 have ok0:∀ (r:Bool×Int) (m':ByteArray→Option Bool),Zqk m'→Zcp n.toNat p=r→r.2=0→Zc6 (p,n) m r m':=by
  intro r m' h h1 h2
  refine ⟨?_,h⟩
  simp only
  rw [h1,if_neg (fun h=>h h2)]
 by_cases h0:n=0
 ·subst h0
  rw [show ((0:Int) == 0)=true from rfl,cond_true]
  exact ok0 _ _ hm rfl rfl
 ·rw [beq_eq_false_iff_ne.2 h0,cond_false]
  obtain ⟨k,rfl⟩:∃ k:Nat,n=((k+1:Nat):Int):=⟨(n - 1).toNat,by have:=hp.2.2.1;omega⟩
  obtain ⟨c1,c2⟩:=Zqg hp (by omega)
  refine ⟨hp.nameOk,?_⟩
  rcases ZaB (m (ZbR (Zck p))) with hmn | ⟨b,hmb⟩
  ·rw [hmn,show (none:Option Bool).isSome=false from rfl,cond_false]
   refine ⟨hp,⟨hp,c1,c2⟩,?_⟩
   have hsN:=ZjQ k p
   have hsp:(Z4 p ((k+1:Nat):Int) (ZbI p ((k+1:Nat):Int))).2=0→∀ q∈(Z4 p ((k+1:Nat):Int) (ZbI p ((k+1:Nat):Int))).1,pieceN q (k:Int):=fun h q hq=>hp.shadow c1 c2 h hq
   have hlen:(Z4 p ((k+1:Nat):Int) (ZbI p ((k+1:Nat):Int))).2=0→(Z4 p ((k+1:Nat):Int) (ZbI p ((k+1:Nat):Int))).1.length≤400:=fun h=>(ZeI hp c1 c2 h).1.1.1
   obtain ⟨sh,hsh⟩:∃ sh,Z4 p ((k+1:Nat):Int) (ZbI p ((k+1:Nat):Int))=sh:=⟨_,rfl⟩
   rw [hsh] at hsp hlen hsN ⊢
   have hk1:((k+1:Nat):Int) - 1=(k:Int):=by omega
   rw [hk1]
   rw [Int.toNat_natCast] at ok0
   by_cases he:sh.2=0
   ·rw [show (sh.2 != 0)=false by rw [he];rfl,cond_false]
    rw [if_neg (fun h=>h he)] at hsN
    have hlen:=hlen he
    have hsp:=hsp he
    refine Lp.iter sh.1.length (fun i z=>z.1=(i:Int)∧Ze9 (Zcp k) sh.1=Ze9 (Zcp k) (sh.1.drop i)∧Zqk z.2) ⟨rfl,rfl,hm⟩ ?_
    rintro i ⟨z,mz⟩ hi ⟨hzi,hz,hmz⟩ R hR
    simp only at hzi hz hmz
    subst hzi
    dsimp only
    by_cases e:i < sh.1.length
    ·have e':(i:Int) < ((sh.1.length:Nat):Int):=by omega
     rw [decide_eq_true e',cond_true,Int.toNat_natCast]
     have hq:=hsp _ (Zj (d:=[]) e)
     rw [ZjD e] at hz
     obtain ⟨q,hqe⟩:∃ q,sh.1.getD i []=q:=⟨_,rfl⟩
     rw [hqe] at hq hz ⊢
     refine ⟨⟨by omega,e'⟩,⟨by have:=hp.2.2.2;omega,by have:=hp.2.2.2;omega⟩,⟨⟨hq,hmz⟩,by show (k:Int) < _;omega⟩,fun r mr hpost=>?_⟩
     obtain ⟨hr,hmr⟩:=hpost
     simp only [Int.toNat_natCast] at hr
     by_cases hre:(Zcp k q).2=0
     ·rw [if_neg (fun h=>h hre)] at hr
      rw [← hr] at hz hre
      rw [show (r.2 != 0)=false by rw [hre];rfl,cond_false]
      by_cases hr1:r.1=true
      ·rw [if_pos (.inl hr1)] at hz
       rw [hr1,cond_true]
       have hs:Zcp (k+1) p=(true,0):=by rw [hsN,hz,← hr1,← hre]
       exact ok0 _ _ (hmr.put hp (by omega) (by rw [Int.toNat_natCast];exact hs)) hs rfl
      ·rw [if_neg (fun h=>h.elim hr1 (fun h=>h hre))] at hz
       rw [show r.1=false by simpa using hr1,cond_false]
       exact ⟨⟨by omega,by omega⟩,hR e _ ⟨by simp,hz,hmr⟩⟩
     ·rw [if_pos hre] at hr
      rw [if_pos (.inr hre)] at hz
      rw [hr,bne_iff_ne.2 hre,cond_true]
      refine ⟨?_,hmr⟩
      simp only [Int.toNat_natCast]
      rw [hsN,hz,if_pos hre]
    ·have:i=sh.1.length:=by omega
     subst this
     rw [decide_eq_false (Int.lt_irrefl _),cond_false]
     have hs:Zcp (k+1) p=(false,0):=by rw [hsN,hz,List.drop_length];rfl
     exact ok0 _ _ (hmz.put hp (by omega) (by rw [Int.toNat_natCast];exact hs)) hs rfl
   ·rw [bne_iff_ne.2 he,cond_true]
    rw [if_pos he] at hsN
    refine ⟨?_,hm⟩
    simp only [Int.toNat_natCast]
    rw [hsN,if_pos he]
  ·rw [hmb,show (some b).isSome=true from rfl,cond_true]
   have:=hm p _ b hmb hp (by omega)
   exact ok0 _ _ hm this rfl
theorem ZaJ.spec (s:Zcw):ZaJ.wp s (fun r=>r=ZaJ.fn (s,())):=by
 unfold ZaJ.wp
 dsimp only
 rw [show ZaJ.fn (s,())=Zg1 s from rfl,show ZaO.fn (s,())=ZH s from rfl,show Z5.fn (s,())=Za1 s from rfl]
 cases hval:ZH s with
 | false =>
   simp only [Bool.not_false,cond_true]
   unfold Zg1;rw [if_pos hval]
 | true =>
   simp only [Bool.not_true,cond_false]
   by_cases hn:(Za1 s).2=0
   ·rw [show ((Za1 s).2 != 0)=false by rw [hn];rfl,cond_false]
    have hE:Zg1 s=if (Ze9 (Zcp s.1.toNat) (Za1 s).1.2).1=true∨(Ze9 (Zcp s.1.toNat) (Za1 s).1.2).2≠0 then (false,(Ze9 (Zcp s.1.toNat) (Za1 s).1.2).2) else (true,0):=by
     unfold Zg1
     rw [if_neg (by rw [hval];simp),if_neg (fun h=>h hn)]
    have hlen:(Za1 s).1.2.length≤400:=(Zkp hn).1.1
    have hall:∀ q∈(Za1 s).1.2,pieceN q s.1:=fun q hq=>Zg3 hn hq
    obtain ⟨l,hl⟩:∃ l,(Za1 s).1.2=l:=⟨_,rfl⟩
    rw [hl] at hE hlen hall ⊢
    refine Lp.iter l.length (fun i z=>z.1=(i:Int)∧Ze9 (Zcp s.1.toNat) l=Ze9 (Zcp s.1.toNat) (l.drop i)∧Zqk z.2) ⟨rfl,rfl,Zqk.nil⟩ ?_
    rintro i ⟨z,mz⟩ hi ⟨hzi,hz,hmz⟩ R hR
    simp only at hzi hz hmz
    subst hzi
    dsimp only
    by_cases e:i < l.length
    ·have e':(i:Int) < ((l.length:Nat):Int):=by omega
     rw [decide_eq_true e',cond_true,Int.toNat_natCast]
     have hq:=hall _ (Zj (d:=[]) e)
     rw [ZjD e] at hz
     obtain ⟨q,hqe⟩:∃ q,l.getD i []=q:=⟨_,rfl⟩
     rw [hqe] at hq hz ⊢
     refine ⟨⟨by omega,e'⟩,⟨hq,hmz⟩,fun r mr hpost=>?_⟩
     obtain ⟨hr,hmr⟩:=hpost
     simp only at hr
     refine ⟨fun h=>by rw [h];rfl,?_⟩
     by_cases hre:(Zcp s.1.toNat q).2=0
     ·rw [if_neg (fun h=>h hre)] at hr
      rw [← hr] at hz hre
      rw [show (r.2 != 0)=false by rw [hre];rfl,Bool.false_or]
      by_cases hr1:r.1=true
      ·rw [if_pos (.inl hr1)] at hz
       rw [hr1,cond_true,hE,if_pos (.inl (by rw [hz];exact hr1)),hz]
      ·rw [if_neg (fun h=>h.elim hr1 (fun h=>h hre))] at hz
       rw [show r.1=false by simpa using hr1,cond_false]
       exact ⟨⟨by omega,by omega⟩,hR e _ ⟨by simp,hz,hmr⟩⟩
     ·rw [if_pos hre] at hr
      rw [if_pos (.inr hre)] at hz
      rw [hr,bne_iff_ne.2 hre,Bool.true_or,cond_true,hE,if_pos (.inr (by rw [hz];exact hre)),hz]
    ·have:i=l.length:=by omega
     subst this
     rw [List.drop_length] at hz
     rw [decide_eq_false (Int.lt_irrefl _),cond_false,hE,hz,if_neg]
     rintro (h | h)
     ·cases h
     ·exact h rfl
   ·rw [bne_iff_ne.2 hn,cond_true]
    unfold Zg1;rw [if_neg (by rw [hval];simp),if_pos hn]
def ZA.wp  (Q:Bool→Prop):Prop:=let v2:=ZaV.fn (((2:Int),[([((1:Int),((0:Int),(([(-(1:Int)),(2:Int)]),(0:Int))))])]),((1:Int),()));let v4:=Zaq.fn (v2.1,(((1:Int),[(Z1.fn ((2:Int),((0:Int),())))]),()));let v9:=ZaV.fn (((2:Int),[[(Zbd.fn ((0:Int),(([(-(1:Int)),(3:Int)]),()))),(Zbd.fn ((1:Int),(([(1:Int),(-(3:Int))]),())))]]),((1:Int),()));let v12:=Zaq.fn (v9.1,(((1:Int),[(Z1.fn ((3:Int),((0:Int),()))),(Z1.fn ((3:Int),((1:Int),())))]),()));let v14:=ZaJ.fn (((1:Int),[[(Zbd.fn ((0:Int),([(1:Int)],())))]]),());let v17:=ZaJ.fn (((1:Int),[[(Zbd.fn ((-(1:Int)),([(2:Int)],()))),(Zbd.fn ((1:Int),([(-(2:Int))],())))]]),());(((v2.2 == (0:Int))=true→((v2.2 == (0:Int))=true∧True))∧(((v2.2 == (0:Int))=true→((v2.2 == (0:Int))=true∧True))∧(((v2.2 == (0:Int))=true→((v2.2 == (0:Int))=true∧True))∧(((v2.2 == (0:Int))=true→((v2.2 == (0:Int))=true∧((v2.2 == (0:Int))=true∧True)))∧(((v2.2 == (0:Int))=true→(v2.2 == (0:Int))=true)∧((((v2.2 == (0:Int))&&v4)=true→(((v2.2 == (0:Int))&&v4)=true∧True))∧((((v2.2 == (0:Int))&&v4)=true→((v2.2 == (0:Int))&&v4)=true)∧(((((v2.2 == (0:Int))&&v4)&&(v9.2 == (0:Int)))=true→((((v2.2 == (0:Int))&&v4)&&(v9.2 == (0:Int)))=true∧True))∧(((((v2.2 == (0:Int))&&v4)&&(v9.2 == (0:Int)))=true→((((v2.2 == (0:Int))&&v4)&&(v9.2 == (0:Int)))=true∧True))∧(((((v2.2 == (0:Int))&&v4)&&(v9.2 == (0:Int)))=true→((((v2.2 == (0:Int))&&v4)&&(v9.2 == (0:Int)))=true∧((((v2.2 == (0:Int))&&v4)&&(v9.2 == (0:Int)))=true∧True)))∧(((((v2.2 == (0:Int))&&v4)&&(v9.2 == (0:Int)))=true→((((v2.2 == (0:Int))&&v4)&&(v9.2 == (0:Int)))=true∧True))∧(((((v2.2 == (0:Int))&&v4)&&(v9.2 == (0:Int)))=true→((((v2.2 == (0:Int))&&v4)&&(v9.2 == (0:Int)))=true∧((((v2.2 == (0:Int))&&v4)&&(v9.2 == (0:Int)))=true∧True)))∧(((((v2.2 == (0:Int))&&v4)&&(v9.2 == (0:Int)))=true→(((v2.2 == (0:Int))&&v4)&&(v9.2 == (0:Int)))=true)∧((((((v2.2 == (0:Int))&&v4)&&(v9.2 == (0:Int)))&&v12)=true→(((((v2.2 == (0:Int))&&v4)&&(v9.2 == (0:Int)))&&v12)=true∧True))∧((((((v2.2 == (0:Int))&&v4)&&(v9.2 == (0:Int)))&&v12)=true→((((v2.2 == (0:Int))&&v4)&&(v9.2 == (0:Int)))&&v12)=true)∧(((((((v2.2 == (0:Int))&&v4)&&(v9.2 == (0:Int)))&&v12)&&(!v14.1))=true→((((((v2.2 == (0:Int))&&v4)&&(v9.2 == (0:Int)))&&v12)&&(!v14.1))=true∧True))∧(((((((v2.2 == (0:Int))&&v4)&&(v9.2 == (0:Int)))&&v12)&&(!v14.1))=true→(((((v2.2 == (0:Int))&&v4)&&(v9.2 == (0:Int)))&&v12)&&(!v14.1))=true)∧((((((((v2.2 == (0:Int))&&v4)&&(v9.2 == (0:Int)))&&v12)&&(!v14.1))&&(v14.2 == (0:Int)))=true→((((((v2.2 == (0:Int))&&v4)&&(v9.2 == (0:Int)))&&v12)&&(!v14.1))&&(v14.2 == (0:Int)))=true)∧(((((((((v2.2 == (0:Int))&&v4)&&(v9.2 == (0:Int)))&&v12)&&(!v14.1))&&(v14.2 == (0:Int)))&&v17.1)=true→((((((((v2.2 == (0:Int))&&v4)&&(v9.2 == (0:Int)))&&v12)&&(!v14.1))&&(v14.2 == (0:Int)))&&v17.1)=true∧True))∧(((((((((v2.2 == (0:Int))&&v4)&&(v9.2 == (0:Int)))&&v12)&&(!v14.1))&&(v14.2 == (0:Int)))&&v17.1)=true→(((((((v2.2 == (0:Int))&&v4)&&(v9.2 == (0:Int)))&&v12)&&(!v14.1))&&(v14.2 == (0:Int)))&&v17.1)=true)∧Q ((((((((v2.2 == (0:Int))&&v4)&&(v9.2 == (0:Int)))&&v12)&&(!v14.1))&&(v14.2 == (0:Int)))&&v17.1)&&(v17.2 == (0:Int)))))))))))))))))))))))
theorem Zt4:Ze6 (2,[[(1,0,[-1,2],0)]]) 1=((1,[[(2,2,[1],0)]]),0):=by kernel_rfl
theorem Zt1:Ze6 (2,[[(0,0,[-1,3],0),(0,0,[1,-3],1)]]) 1=((1,[[(2,3,[1],0)],[(2,3,[1],1)]]),0):=by kernel_rfl
theorem Zug:Zg1 (1,[[(0,0,[1],0)]])=(false,0):=by kernel_rfl
theorem ZuW:Zg1 (1,[[(0,0,[2],-1),(0,0,[-2],1)]])=(true,0):=by kernel_rfl
theorem ZA.spec:ZA.wp (fun r=>r=ZA.fn ()):=by
 simp only [ZA.wp,ZaV.fn,ZaJ.fn,Zbd.fn,Z1.fn,Zaq.fn,Zt4,Zt1,Zug,ZuW,ZA.fn]
 simp
theorem Zbd.spec (k:Int) (l:List Int):Zbd.wp k l (fun r=>r=Zbd.fn (k,l,())):=rfl
theorem Z1.spec (m k:Int):Z1.wp m k (fun r=>r=Z1.fn (m,k,())):=rfl
theorem Zbf.spec (a:Zcw) (b:Int) (c:Zcw) (d:Int):Zbf.wp a b c d (fun r=>r=Zbf.fn (a,b,c,d,())):=by
 simp only [Zbf.wp,Zbf.fn,Zaq.fn]
 refine ⟨fun h=>⟨h,h,trivial⟩,fun h=>h,?_⟩
 by_cases e:b=d
 ·simp [e]
 ·simp [e]
theorem Zs0 (a:Zcw×Int):Zbf.fn (a.1,a.2,a.1,a.2,())=true:=by simp [Zbf.fn]
theorem law05_ElimShadows.spec (s:Zcw) (v:Int):law05_ElimShadows.wp s v (fun r=>r=true):=by
 simp only [law05_ElimShadows.wp,ZaV.fn,ZaS.fn,Zs0,ZA.fn]
 cases ZY.fn _<;>simp
abbrev Zr4:Ty:=.pair (.int .i64) (.pair (.int .i64) (.pair (.sl (.int .i64)) (.int .i64)))
def asD (T:Ty):V→Option (List T.den)
 | .d (.sl t) l=>if h:t=T then some (h▸l) else none
 | _=>none
theorem ZvH {T:Ty} {v:V} {l:List T.den} (h:asD T v=some l):v=.d (.sl T) l:=by
 unfold asD at h
 split at h
 ·split at h
  ·rename_i e;subst e;cases h;rfl
  ·cases h
 ·cases h
theorem Zsp {k:IntKind} {v:V} {n:Int} (h:ZoY k [v]=some n):v=.d (.int k) n:=by
 unfold ZoY at h
 split at h
 ·rename_i k' m e
  cases e
  split at h
  ·rename_i e2;have:=ZkH e2;subst this;cases h;rfl
  ·cases h
 ·cases h
def Zp9 (g:Nat) (vs:List V) (os:Zay):Option (List Nat×(Ty.den (.sl Zr4)×Int)×(ByteArray→Option Bool)):=match vs with
 | [p,n,.ref a 0,.ref b 0]=>match asD Zr4 p with
   | some p=>match ZoY .i64 [n] with
     | some n=>match Zx a os with
       | some (.box [.map m])=>match Zx b os with
         | some (.box [.fn (.func h) [] [.ref c 0,.ref d 0]])=>match Nat.beq h g&&(Nat.beq c a&&Nat.beq d b) with
           | true=>match Zx m os with
             | some (.smap .bool f)=>some ([a,b,m],(p,n),f)
             | _=>none
           | false=>none
         | _=>none
       | _=>none
     | none=>none
   | none=>none
 | _=>none
def Zm5 (g:Nat) (os:Zay):Option (ByteArray→Option Bool):=match Zx 0 os with
 | some (.box [.map 2])=>match Zx 1 os with
   | some (.box [.fn (.func h) [] [.ref 0 0,.ref 1 0]])=>match Nat.beq h g with
     | true=>match Zx 2 os with
       | some (.smap .bool f)=>some f
       | _=>none
     | false=>none
   | _=>none
 | _=>none
def ZqT (g:Nat) (pre:Ty.den (.sl Zr4)×Int→(ByteArray→Option Bool)→Prop) (post:Ty.den (.sl Zr4)×Int→(ByteArray→Option Bool)→Bool×Int→(ByteArray→Option Bool)→Prop):Zpb :=
 ⟨Ty.den (.sl Zr4)×Int,ByteArray→Option Bool,[.bool,.int .i64],3,fun a=>[.d (.sl Zr4) a.1,.d (.int .i64) a.2,.ref 0 0,.ref 1 0],fun f=>[(0,.box [.map 2]),(1,.box [.fn (.func g) [] [.ref 0 0,.ref 1 0]]),(2,.smap .bool f)],
  Zp9 g,Zm5 g,pre,post,[2,0],[2]⟩
theorem ZkO (g:Nat) (pre:Ty.den (.sl Zr4)×Int→(ByteArray→Option Bool)→Prop) (post:Ty.den (.sl Zr4)×Int→(ByteArray→Option Bool)→Bool×Int→(ByteArray→Option Bool)→Prop):(ZqT g pre post).Law where
 get:=by
  intro vs os ks a b h
  change Zp9 g vs os=some (ks,a,b) at h
  unfold Zp9 at h
  split at h
  ·rename_i p n A B
   split at h
   ·rename_i p' hp
    split at h
    ·rename_i n' hn
     split at h
     ·rename_i m hA
      split at h
      ·rename_i h' c d hB
       split at h
       ·rename_i hE
        split at h
        ·rename_i f hM
         cases h
         have hp:=ZvH hp
         have hn:=Zsp hn
         subst hp hn
         rw [Bool.and_eq_true,Bool.and_eq_true] at hE
         obtain ⟨e1,e2,e3⟩:=hE
         have e1:=Nat.eq_of_beq_eq_true e1
         have e2:=Nat.eq_of_beq_eq_true e2
         have e3:=Nat.eq_of_beq_eq_true e3
         subst e1 e2 e3
         have n1:c≠d:=fun e=>by subst e;rw [hA] at hB;cases hB
         have n2:m≠c:=fun e=>by subst e;rw [hA] at hM;cases hM
         have n3:m≠d:=fun e=>by subst e;rw [hB] at hM;cases hM
         have nb:∀ {x y:Nat},x≠y→Nat.beq x y=false:=fun {x y} h=>by
          cases e:Nat.beq x y with
          | false=>rfl
          | true=>exact absurd (Nat.eq_of_beq_eq_true e) h
         have b1:=nb n1
         have b2:=nb n2.symm
         have b3:=nb n3.symm
         refine ⟨?_,rfl,by simp [n1,n2.symm,n3.symm],?_⟩
         ·simp [Zbz,V.subst,unF,V.key,Zpk,V.rekey,ZqT,b1]
         ·intro i l hl
          match i,hl with
          | 0,hl =>
            cases hl
            refine ⟨_,hA,?_,fun h=>absurd (show 0∈[2,0] by decide) h⟩
            simp [Obj.subst,Zbz,V.subst,unF,V.key,Zpk,V.rekey,ZqT,Zx,b2,b3]
          | 1,hl =>
            cases hl
            refine ⟨_,hB,?_,fun _=>?_⟩
            ·simp [Obj.subst,Zbz,V.subst,unF,V.key,Zpk,V.rekey,ZqT,Zx,b1]
            ·simp [Obj.subst,Zbz,V.subst,unF,rnF,V.key,Zpk,V.rekey,b1]
          | 2,hl =>
            cases hl
            refine ⟨_,hM,rfl,fun h=>absurd (show 2∈[2,0] by decide) h⟩
          | k+3,hl=>cases hl
        ·cases h
       ·cases h
      ·cases h
     ·cases h
    ·cases h
   ·cases h
  ·cases h
 dom:=by
  intro b i o h
  show i < 3
  match i with
  | 0 | 1 | 2=>decide
  | k+3=>cases h
 back:=by
  intro os b h
  change Zm5 g os=some b at h
  unfold Zm5 at h
  split at h
  ·rename_i h0
   split at h
   ·rename_i h' h1
    split at h
    ·rename_i hE
     split at h
     ·rename_i f h2
      cases h
      have:=Nat.eq_of_beq_eq_true hE
      subst this
      intro i hi
      match i,hi with
      | 0,_=>exact h0
      | 1,_=>exact h1
      | 2,_=>exact h2
     ·cases h
    ·cases h
   ·cases h
  ·cases h
 same:=by
  intro b b' i hi
  match i,hi with
  | 0,hi=>exact absurd (show 0∈[2,0] by decide) hi
  | 1,_=>rfl
  | 2,hi=>exact absurd (show 2∈[2,0] by decide) hi
  | k+3,_=>rfl
 ch:=show ∀ i∈[2,0],i < 3 by decide
 mv:=show ∀ i∈[2],i∈[2,0] by decide
theorem Zs9 (a:Ty.den (.sl Zr4)×Int) (b:ByteArray→Option Bool):¬ ZdU 0 a b:=fun h=>by
 have h1:(0:Int)≤a.2:=h.1.1.2.2.1
 have h2:a.2 < ((0:Nat):Int):=h.2
 omega
theorem ZsK (a:Ty.den (.sl Zr4)×Int) (b:ByteArray→Option Bool) (h:Zjp a b):∃ N,ZdU N a b:=⟨a.2.toNat+1,h,by omega⟩
end Go.Proofs.YtgpdnmfpgkkgcaaGreatDoor
namespace Go.Proofs.YtgpdnmfpgkkgcaaGreatDoor
open Go Go.ChangeAt Go.ChangeShapes Go.RowKit Go.WideShapes
set_option linter.unusedVariables false
def Wf:(T:Ty)→T.den→Prop
 | .int k,n=>(Lit.int k n).wf=true
 | .bool,_=>True
 | .str,s=>ByteArray.size s≤maxLen
 | .sl T,l=>List.length (α:=T.den) l≤maxLen∧∀ x∈(l:List T.den),Wf T x
 | .pair a b,x=>Wf a x.1∧Wf b x.2
 | .unit,_=>True
def Zpx (P:Program) (F:TypeId→Ty→Prop):Nat→List Field→Ty→Prop
 | o,[f],T=>f.offset=o∧P.cellsOf f.type=T.size∧F f.type T
 | o,f::fs,.pair A B=>f.offset=o∧P.cellsOf f.type=A.size∧F f.type A∧Zpx P F (o+A.size) fs B
 | _,_,_=>False
def FitT (P:Program):Nat→TypeId→Ty→Prop
 | 0,_,_=>False
 | n+1,t,T=>(match T with
   | .int k=>P.underlying t=some (.int k)
   | .bool=>P.underlying t=some .bool
   | .str=>P.underlying t=some .string
   | .sl T=>∃ e,P.underlying t=some (.slice e)∧P.cellsOf e=T.size∧0 < T.size∧FitT P n e T
   | _=>False)∨∃ fs,P.underlying t=some (.struct fs)∧P.cellsOf t=T.size∧Zpx P (FitT P n) 0 fs.toList T
section
variable {H:Type} {enc:TypeId×Value→H} {P:Program} {W:World} {held:Bool}
abbrev Ztr (W:World):Nat→Prop:=fun b=>b < W.heap.size
theorem ZqS {α:Type} {p:Nat→α→Prop}:∀ n:Nat,(∀ i,i < n→∃ y,p i y)→∃ l:List α,l.length=n∧∀ i y,l[i]?=some y→p i y
 | 0,_=>⟨[],rfl,fun i y h=>by simp at h⟩
 | n+1,h=>by
   obtain ⟨l,hl,hp⟩:=ZqS n fun i hi=>h i (by omega)
   obtain ⟨y,hy⟩:=h n (by omega)
   refine ⟨l++[y],by simp [hl],fun i z hz=>?_⟩
   by_cases e:i < l.length
   ·rw [List.getElem?_append_left e] at hz;exact hp i z hz
   ·rw [List.getElem?_append_right (by omega)] at hz
    have:i=l.length:=by
     have:=(List.getElem?_eq_some_iff.1 hz).1
     simp at this;omega
    subst this
    simp at hz
    subst hz
    rw [hl];exact hy
theorem Zvh {F : TypeId → Ty → Prop} {m : Nat} (hF : ∀ t T, F t T → ∀ cs x, DataW.trod enc P W 0 (fun _ => true) held m t cs = some x → ∃ y : T.den, Zbq W (Ztr W) T y cs ∧ Wf T y) :
 ∀ {fs:List Field} {o:Nat} {T:Ty} {cs:List Value},Zpx P F o fs T→(∀ f∈fs,∃ x,DataW.trod enc P W 0 (fun _=>true) held m f.type ((cs.drop f.offset).take (P.cellsOf f.type))=some x)→cs.length=o+T.size →
  ∃ y:T.den,Zbq W (Ztr W) T y (cs.drop o)∧Wf T y
 | [],o,T,cs,h,_,_=>by unfold Zpx at h;exact h.elim
 | [f],o,T,cs,h,hx,hl=>by
   have h':f.offset=o∧P.cellsOf f.type=T.size∧F f.type T:=by unfold Zpx at h;exact h
   obtain ⟨h1,h2,h3⟩:=h'
   obtain ⟨x,hx⟩:=hx f (by simp)
   rw [h1,h2,List.take_of_length_le (by rw [List.length_drop];omega)] at hx
   exact hF _ _ h3 _ _ hx
 | f::g::fs,o,T,cs,h,hx,hl=>by
   cases T<;>unfold Zpx at h<;>try exact h.elim
   rename_i A B
   obtain ⟨h1,h2,h3,h4⟩:=h
   have hl':cs.length=o+A.size+B.size:=by rw [hl];simp only [Ty.size];omega
   obtain ⟨b,hb,hwb⟩:=Zvh hF (cs:=cs) h4 (fun f hf=>hx f (by simp [List.mem_cons.1 hf])) hl'
   obtain ⟨x,hx⟩:=hx f (by simp)
   rw [h1,h2] at hx
   obtain ⟨a,ha,hwa⟩:=hF _ _ h3 _ _ hx
   refine ⟨(a,b),⟨_,_,?_,ha,hb⟩,hwa,hwb⟩
   rw [← List.drop_drop,List.take_append_drop]
theorem Zn1 {base:Nat} {a:Addr} {n:Nat} {cs:List Value} (h:W.cells? base a n=some cs) (hn:0 < n):a.spot=none∧a.block < W.heap.size∧cs.length=n∧∀ j u,cs[j]?=some u→W.cell? ⟨a.block,a.off+j,none⟩=some u:=by
 obtain ⟨_,hl,hc⟩:=World.cells?_some h
 have h0:=hc 0 hn
 rw [List.getElem?_eq_getElem (by omega:0 < cs.length)] at h0
 simp only [Addr.add,if_true,World.cell?] at h0
 have hs:a.spot=none∧a.block < W.heap.size:=by
  split at h0
  ·rename_i hb
   refine ⟨?_,(Array.getElem?_eq_some_iff.1 hb).1⟩
   split at h0
   ·cases h0
   ·rename_i hs;simpa using hs
  ·cases h0
 refine ⟨hs.1,hs.2,hl,fun j u hj=>?_⟩
 have hjl:j < n:=by rw [← hl];exact (List.getElem?_eq_some_iff.1 hj).1
 rw [← hj,← hc j hjl]
 obtain ⟨b,off,sp⟩:=a
 simp only at hs
 rw [hs.1]
 unfold Addr.add
 split
 ·rename_i e;subst e;rfl
 ·rfl
theorem Zog:∀ (n:Nat) {t:TypeId} {T:Ty},FitT P n t T→∀ (fuel:Nat) (cs:List Value) (x:DataW H×List MemPlace),DataW.trod enc P W 0 (fun _=>true) held fuel t cs=some x→∃ y:T.den,Zbq W (Ztr W) T y cs∧Wf T y
 | 0,_,_,h,_,_,_,_=>h.elim
 | n+1,t,T,h,fuel,cs,x,hx=>by
   unfold FitT at h
   rcases h with h | ⟨fs,h1,h2,h3⟩
   ·cases T with
    | int k =>
      obtain ⟨z,rfl,_,hw⟩:=DataW.trod_int h hx
      exact ⟨z,rfl,hw⟩
    | bool =>
      obtain ⟨z,rfl,_⟩:=DataW.trod_bool h hx
      exact ⟨z,rfl,trivial⟩
    | str =>
      obtain ⟨z,rfl,_,hw⟩:=DataW.trod_string h hx
      exact ⟨z,rfl,hw⟩
    | sl T =>
      obtain ⟨e,h1,h2,h3,h4⟩:=h
      rcases DataW.trod_slice h1 hx with ⟨rfl,_⟩ | ⟨a,len,cap,elems,rest,m,_,rfl,_,_,hl,hm,hlen,hel,_,_⟩
      ·exact ⟨[],⟨none,0,rfl,⟨Nat.le_refl _,Nat.zero_le _⟩,fun h=>absurd rfl h⟩,Nat.zero_le _,fun x hx=>by cases hx⟩
      ·have each:∀ i,i < len→∃ y:T.den,(a.block < W.heap.size∧(len≠0→a.spot=none)∧∃ cs',Zbq W (Ztr W) T y cs'∧∀ j u,cs'[j]?=some u→W.cell? ⟨a.block,a.off+i*T.size+j,none⟩=some u)∧Wf T y:=by
        intro i hi
        have h5:=hel i hi
        rw [List.getElem?_eq_getElem (by omega:i < elems.length),Option.bind_eq_some_iff] at h5
        obtain ⟨cs',h6,h7⟩:=h5
        rw [h2] at h6
        obtain ⟨y,hy,hw⟩:=Zog n h4 _ _ _ h7
        obtain ⟨k1,k2,k3,k4⟩:=Zn1 h6 h3
        have hb:(a.add (i*T.size)).block=a.block:=by unfold Addr.add;split<;>rfl
        have ho:(a.add (i*T.size)).off=a.off+i*T.size:=by
         unfold Addr.add
         split
         ·rename_i e;rw [e];rfl
         ·rfl
        rw [hb,ho] at k4
        rw [hb] at k2
        refine ⟨y,⟨k2,fun _=>?_,cs',hy,k4⟩,hw⟩
        have h50:=hel 0 (by omega)
        rw [List.getElem?_eq_getElem (by omega:0 < elems.length),Option.bind_eq_some_iff] at h50
        obtain ⟨cs0,h60,_⟩:=h50
        rw [h2] at h60
        have:=(Zn1 h60 h3).1
        simpa [Addr.add] using this
       obtain ⟨l,hll,hlp⟩:=ZqS len each
       refine ⟨l,⟨some a,cap,by rw [hll],⟨by rw [hll];exact hl,hm⟩,fun hne=>?_⟩,by show l.length≤maxLen;omega,fun y hy=>?_⟩
       ·have hpos:0 < len:=by rw [← hll];exact List.length_pos_iff.2 hne
        obtain ⟨y0,⟨hb,hs,_⟩,_⟩:=each 0 hpos
        refine ⟨a.block,a.off,?_,hb,fun i x hi=>?_⟩
        ·have:=hs (by omega)
         obtain ⟨b,off,sp⟩:=a
         simp only at this
         rw [this]
        ·obtain ⟨⟨_,_,cs',h8,h9⟩,_⟩:=hlp i x hi
         exact ⟨cs',h8,h9⟩
       ·obtain ⟨i,hi⟩:=List.getElem?_of_mem hy
        exact (hlp i y hi).2
    | pair a b=>exact h.elim
    | unit=>exact h.elim
   ·obtain ⟨xs,m,rfl,_,h4,h5,h6⟩:=DataW.trod_struct h1 hx
    have:=Zvh (m:=m) (fun t T hF cs x hx=>Zog n hF m cs x hx) (cs:=cs) h3 (fun f hf=>by
     obtain ⟨i,hi⟩:=List.getElem?_of_mem hf
     have hi':fs[i]?=some f:=by simpa using hi
     have:=h6 i f hi'
     have hlt:i < xs.length:=by rw [h5];exact (Array.getElem?_eq_some_iff.1 hi').1
     exact ⟨xs[i],by rw [this,List.getElem?_eq_getElem hlt]⟩) (by rw [Nat.zero_add,h4,h2])
    simpa using this
def ZuQ:Ty→Bool
 | .pair _ _=>false
 | _=>true
def Zqx (W:World):Env:=⟨W,Ztr W,fun _=>none⟩
theorem one_int {r:Reach} {base:Nat} {t:TypeId} {k:IntKind} {v:Value} (ht:P.underlying t=some (.int k)) (h:Value.okWide P W r base t v):v.cells=#[v]:=by obtain ⟨a,rfl⟩:=okWide_int ht h;rfl
theorem arg_plain {n:Nat} {t:TypeId} {T:Ty} {v:Value} {d:DataW H} {p:List MemPlace} (hf:FitT P n t T) (hp:ZuQ T=true) (h:DataW.Trod enc P W 0 (fun _=>true) held t v d p) (hv:v.cells=#[v]):∃ y:T.den,Rep P (Zqx W) (Zps T y) v∧Wf T y:=by
 obtain ⟨fuel,h⟩:=h
 rw [hv] at h
 obtain ⟨y,hy,hw⟩:=Zog n hf _ _ _ h
 refine ⟨y,?_,hw⟩
 cases T<;>first | exact .d hy | (cases hp;done)
theorem arg_agg {n : Nat} {t : TypeId} {a b : Ty} {v : Value} {d : DataW H} {p : List MemPlace} (hf : FitT P n t (.pair a b)) (h : DataW.Trod enc P W 0 (fun _ => true) held t v d p) {fs : Array Field} {r : Reach} {base : Nat} (ht : P.underlying t = some (.struct fs)) (hk : Value.okWide P W r base t v) :
 ∃ y:(Ty.pair a b).den,Rep P (Zqx W) (Zps (.pair a b) y) v∧Wf (.pair a b) y:=by
 obtain ⟨cs,rfl,_⟩:=okWide_struct ht hk
 obtain ⟨fuel,h⟩:=h
 obtain ⟨y,hy,hw⟩:=Zog n hf _ _ _ h
 have hr:=Zdn (P:=P) (E:=Zqx W) hy
 refine ⟨y,.agg ?_ fun j hj=>?_,hw⟩
 ·have:=hr.1;simpa [Value.cells] using this
 ·have:=hr.2 j hj
  simpa [Value.cells,Array.getD_eq_getD_getElem?,List.getD_eq_getElem?_getD] using this
theorem sok_of {g : Nat} (hg : P.globalNamed "internal/strconv.uint64pow10" = some g) (h : Lib.TabIs P W "internal/strconv.uint64pow10" .u64 Lib.pow10Tab) : Sok P W (Ztr W) := by
 refine ⟨fun b hb=>hb,g,?_,fun w' hw'=>?_⟩
 ·unfold Lib.TabIs World.var? at h
  rw [hg] at h
  simp only [Option.bind_some] at h
  split at h
  ·rename_i hb;exact (Array.getElem?_eq_some_iff.1 hb).1
  ·cases h
 ·unfold Lib.TabIs World.var? at h ⊢
  rw [hg] at h ⊢
  simp only [Option.bind_some] at h ⊢
  rw [hw'];exact h
theorem ZqA {τ : Zav} (hτ : Zbi P τ) {run : Zik} (hrun : Zf8 P run) {A : An} {f : FuncId} {fi : FI} (hok : fi.Ok P f) {ps : List PS} {xs : Zb4 ps} {C : Prop} (hw : C = fnW τ run A fi ps [.bool] xs fun r => r = true) (h : C) (hS : Sok P W (Ztr W)) {args : Array Value} (hr : Zbl P (Zqx W) (Zjn ps xs) args.toList) :
 Calls P f args W fun e w'=>e=.returned (.bool true)∧Below W.heap.size W w':=by
 subst hw
 refine (ZlY hτ hrun hok h hS hr).mono ?_
 rintro e w' ⟨v,S2,r,rfl,hg,hv,rfl⟩
 have hv':Rep P ⟨w',S2,fun _=>none⟩ (.d .bool true) v:=hv
 refine ⟨?_,hg.os,hg.tape,hg.output,hg.size,fun k hk=>hg.frame k hk⟩
 cases hv' with | d h=>rw [(List.cons.inj (show [v]=[Value.bool true] from h)).1]
end
end Go.Proofs.YtgpdnmfpgkkgcaaGreatDoor
