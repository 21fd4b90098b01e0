/- Part of a proof that a law of the program holds for every input: what the functions answer, in plain Lean. No conditions. -/
import Derived.Below
import Derived.Carry
import Derived.ChangeOld
import Derived.LaidMore
import Derived.Lib.LaidTab
import Derived.OpenShut
import Derived.ProofKit
import Derived.ShutString
import Derived.SizedLaws
import Derived.Stop.Joined
import Derived.WalkKit
import Derived.Test.YtgpdnmfpgkkgcaaGreatDoorP13
namespace Go.Proofs.YtgpdnmfpgkkgcaaGreatDoor
open Go
set_option linter.unusedVariables false
set_option maxRecDepth 4000
def ZQ.wp(x0:List Zc)(x1:Int)(x2:Int)(Q:(List (List Zc))×Int→Prop):Prop:=let v3:=Int.toNat (x2+(1:Int));(Zo IntKind.i64 (x1 - (1:Int))∧Lp (σ:=Int×Int×Int×(List (Zc))×(List ((Zc)×Int×(List Int)×Int))×(List ((Zc)×Int×(List Int)×Int))×(List ((Zc)×Int×(List Int)×Int))×List ((Zc)×Int×(List Int)×Int)) (fun y4 R4=>let v0:=List.getD x0 (Int.toNat y4.1) Za;let v1:=List.getD v0.2.2.1 (Int.toNat x2) (0:Int);let v2:=List.take (Int.toNat x2) v0.2.2.1;let v4:=[(v0.1,(v0.2.1,((v2++List.drop v3 v0.2.2.1),v0.2.2.2)))];let v5:=List.length y4.2.2.2.2.1;let v6:=List.getD y4.2.2.2.2.1 (Int.toNat y4.2.2.1) (Za,((0:Int),(([]:List Int),(0:Int))));let v8:=[(v0,(v1,((v2++List.drop v3 v0.2.2.1),v0.2.2.2)))];let v9:=List.length y4.2.2.2.2.2.1;let v10:=List.length y4.2.2.2.2.2.2.1;let v11:=List.length y4.2.2.2.2.2.2.2;let v12:=Zz.fn ((y4.2.1,(y4.2.2.2.1,(y4.2.2.2.2.1,(y4.2.2.1,(y4.2.2.2.2.2.2.1,(y4.2.2.2.2.2.2.2,y4.2.2.2.2.2.1)))))),());let v27:=List.replicate (Int.toNat y4.2.1) (0:Int);let v78:=Zw.fn ((y4.2.1,(y4.2.2.2.1,(y4.2.2.2.2.1,(y4.2.2.1,(y4.2.2.2.2.2.2.1,(y4.2.2.2.2.2.2.2,y4.2.2.2.2.2.1)))))),());cond (decide (y4.1 < ((List.length x0:Nat):Int))) (((0:Int)≤y4.1∧y4.1 < ((List.length x0:Nat):Int))∧((List.length v0.2.2.1*8)≤140737488355328∧(Zo IntKind.i64 (x2+(1:Int))∧((v0.2.2.1≠([]:List Int)∧((0:Int)≤x2∧(x2≤(x2+(1:Int))∧(x2+(1:Int))≤((List.length v0.2.2.1:Nat):Int))))∧(((0:Int)≤x2∧x2 < ((List.length v0.2.2.1:Nat):Int))∧cond (v1 == (0:Int)) ((((List.length y4.2.2.2.1+List.length v4)*48)≤140737488355328∧(List.length y4.2.2.2.1+List.length v4)≤9223372036854775807)∧(Zo IntKind.i64 (y4.1+(1:Int))∧R4 ((y4.1+(1:Int)),(y4.2.1,(y4.2.2.1,((y4.2.2.2.1++v4),y4.2.2.2.2)))))) (cond (v0.1 == (1:Int)) (((!(decide (y4.2.2.1 < (0:Int))))=true→((!(decide (y4.2.2.1 < (0:Int))))=true∧Zo IntKind.i64 (-v1)))∧(((!(decide (y4.2.2.1 < (0:Int))))=true→((!(decide (y4.2.2.1 < (0:Int))))=true∧((!(decide (y4.2.2.1 < (0:Int))))=true∧True)))∧(((!(decide (y4.2.2.1 < (0:Int))))=true→((!(decide (y4.2.2.1 < (0:Int))))=true∧True))∧(((!(decide (y4.2.2.1 < (0:Int))))=true→((!(decide (y4.2.2.1 < (0:Int))))=true∧True))∧(((!(decide (y4.2.2.1 < (0:Int))))=true→((!(decide (y4.2.2.1 < (0:Int))))=true∧((!(decide (y4.2.2.1 < (0:Int))))=true∧((0:Int)≤y4.2.2.1∧y4.2.2.1 < ((v5:Nat):Int)))))∧(((!(decide (y4.2.2.1 < (0:Int))))=true→((!(decide (y4.2.2.1 < (0:Int))))=true∧True))∧(((!(decide (y4.2.2.1 < (0:Int))))=true→((!(decide (y4.2.2.1 < (0:Int))))=true∧Int.toNat y4.2.2.1 < v5))∧(((!(decide (y4.2.2.1 < (0:Int))))=true→((!(decide (y4.2.2.1 < (0:Int))))=true∧True))∧(((!(decide (y4.2.2.1 < (0:Int))))=true→((!(decide (y4.2.2.1 < (0:Int))))=true∧True))∧(((!(decide (y4.2.2.1 < (0:Int))))=true→((!(decide (y4.2.2.1 < (0:Int))))=true∧((!(decide (y4.2.2.1 < (0:Int))))=true∧((0:Int)≤y4.2.2.1∧y4.2.2.1 < ((v5:Nat):Int)))))∧(((!(decide (y4.2.2.1 < (0:Int))))=true→((!(decide (y4.2.2.1 < (0:Int))))=true∧True))∧(((!(decide (y4.2.2.1 < (0:Int))))=true→((!(decide (y4.2.2.1 < (0:Int))))=true∧Int.toNat y4.2.2.1 < v5))∧(((!(decide (y4.2.2.1 < (0:Int))))=true→((!(decide (y4.2.2.1 < (0:Int))))=true∧Zo IntKind.i64 (-v6.2.1)))∧(((!(decide (y4.2.2.1 < (0:Int))))=true→((!(decide (y4.2.2.1 < (0:Int))))=true∧((!(decide (y4.2.2.1 < (0:Int))))=true∧True)))∧(((!(decide (y4.2.2.1 < (0:Int))))=true→((!(decide (y4.2.2.1 < (0:Int))))=true∧((!(decide (y4.2.2.1 < (0:Int))))=true∧True)))∧((decide (y4.2.2.1 < (0:Int))=false→(!(decide (y4.2.2.1 < (0:Int))))=true)∧cond (decide (y4.2.2.1 < (0:Int))||decide (Max.max v1 (-v1) < (Max.max v6.2.1 (-v6.2.1)))) ((((v5+List.length v8)*88)≤140737488355328∧(v5+List.length v8)≤9223372036854775807)∧(Zo IntKind.i64 (y4.1+(1:Int))∧R4 ((y4.1+(1:Int)),(y4.2.1,(((v5:Nat):Int),(y4.2.2.2.1,((y4.2.2.2.2.1++v8),y4.2.2.2.2.2))))))) ((((v5+List.length v8)*88)≤140737488355328∧(v5+List.length v8)≤9223372036854775807)∧(Zo IntKind.i64 (y4.1+(1:Int))∧R4 ((y4.1+(1:Int)),(y4.2.1,(y4.2.2.1,(y4.2.2.2.1,((y4.2.2.2.2.1++v8),y4.2.2.2.2.2))))))))))))))))))))))) (cond (v0.1 == (2:Int)) ((((v9+List.length v8)*88)≤140737488355328∧(v9+List.length v8)≤9223372036854775807)∧((((v5+List.length v8)*88)≤140737488355328∧(v5+List.length v8)≤9223372036854775807)∧(Zo IntKind.i64 (y4.1+(1:Int))∧R4 ((y4.1+(1:Int)),(y4.2.1,(y4.2.2.1,(y4.2.2.2.1,((y4.2.2.2.2.1++v8),((y4.2.2.2.2.2.1++v8),y4.2.2.2.2.2.2))))))))) (cond (decide ((0:Int) < v1)) ((((v10+List.length v8)*88)≤140737488355328∧(v10+List.length v8)≤9223372036854775807)∧((((v5+List.length v8)*88)≤140737488355328∧(v5+List.length v8)≤9223372036854775807)∧(Zo IntKind.i64 (y4.1+(1:Int))∧R4 ((y4.1+(1:Int)),(y4.2.1,(y4.2.2.1,(y4.2.2.2.1,((y4.2.2.2.2.1++v8),(y4.2.2.2.2.2.1,((y4.2.2.2.2.2.2.1++v8),y4.2.2.2.2.2.2.2)))))))))) ((((v11+List.length v8)*88)≤140737488355328∧(v11+List.length v8)≤9223372036854775807)∧((((v5+List.length v8)*88)≤140737488355328∧(v5+List.length v8)≤9223372036854775807)∧(Zo IntKind.i64 (y4.1+(1:Int))∧R4 ((y4.1+(1:Int)),(y4.2.1,(y4.2.2.1,(y4.2.2.2.1,((y4.2.2.2.2.1++v8),(y4.2.2.2.2.2.1,(y4.2.2.2.2.2.2.1,(y4.2.2.2.2.2.2.2++v8))))))))))))))))))) (cond (decide ((0:Int)≤y4.2.2.1)) (Zz.pre ((y4.2.1,(y4.2.2.2.1,(y4.2.2.2.2.1,(y4.2.2.1,(y4.2.2.2.2.2.2.1,(y4.2.2.2.2.2.2.2,y4.2.2.2.2.2.1)))))),())∧Lp (σ:=Int×(List (List (Zc)))×(ByteArray→Option Bool)) (fun y6 R6=>let v13:=List.getD v12 (Int.toNat y6.1) ([]:List (Zc));let v14:=Zp.fn ((Zb.fn (v13,())).1,());let v16:=[(Zb.fn (v13,())).1];cond (decide (y6.1 < ((List.length v12:Nat):Int))) (((0:Int)≤y6.1∧y6.1 < ((List.length v12:Nat):Int))∧(Zb.pre (v13,())∧cond (((Zb.fn (v13,())).2).2 != (0:Int)) (((!((0:Int) != (0:Int)))=true→((!((0:Int) != (0:Int)))=true∧True))∧((((0:Int) != (0:Int))=false→(!((0:Int) != (0:Int)))=true)∧cond (((0:Int) != (0:Int))||(((Zb.fn (v13,())).2).2 != (0:Int))) (Q (([]:List (List (Zc))),(3:Int))) (Q (([]:List (List (Zc))),(0:Int))))) (((!(((Zb.fn (v13,())).2).1))=true→((!(((Zb.fn (v13,())).2).1))=true∧Zp.pre ((Zb.fn (v13,())).1,())))∧(((!(((Zb.fn (v13,())).2).1))=true→((!(((Zb.fn (v13,())).2).1))=true∧((!(((Zb.fn (v13,())).2).1))=true∧True)))∧((((Zb.fn (v13,())).2).1=false→(!(((Zb.fn (v13,())).2).1))=true)∧cond (((Zb.fn (v13,())).2).1||(Option.getD (y6.2.2 v14) false)) (Zo IntKind.i64 (y6.1+(1:Int))∧R6 ((y6.1+(1:Int)),y6.2)) (Zp.pre ((Zb.fn (v13,())).1,())∧((((List.length y6.2.1+List.length v16)*24)≤140737488355328∧(List.length y6.2.1+List.length v16)≤9223372036854775807)∧cond (decide ((400:Int) < (((List.length (y6.2.1++v16)):Nat):Int))) (((!((0:Int) != (0:Int)))=true→((!((0:Int) != (0:Int)))=true∧True))∧((((0:Int) != (0:Int))=false→(!((0:Int) != (0:Int)))=true)∧Q (([]:List (List (Zc))),(3:Int)))) (Zo IntKind.i64 (y6.1+(1:Int))∧R6 ((y6.1+(1:Int)),((y6.2.1++v16),ZdA y6.2.2 v14 true)))))))))) (((!((0:Int) != (0:Int)))=true→((!((0:Int) != (0:Int)))=true∧True))∧((((0:Int) != (0:Int))=false→(!((0:Int) != (0:Int)))=true)∧Q (y6.2.1,(0:Int))))) ((0:Int),(([]:List (List (Zc))),fun (a6:ByteArray)=>(none:Option Bool)))) (cond (decide ((0:Int) < ((v9:Nat):Int))) (Lp (σ:=Int×List Int) (fun y6 R6=>let v18:=List.getD y4.2.2.2.2.1 (Int.toNat y6.1) (Za,((0:Int),(([]:List Int),(0:Int))));let v19:=Max.max v18.2.1 (-v18.2.1);cond (decide (y6.1 < ((v5:Nat):Int))) (((0:Int)≤y6.1∧y6.1 < ((v5:Nat):Int))∧(Int.toNat y6.1 < v5∧(Zo IntKind.i64 (-v18.2.1)∧((((List.length y6.2+List.length [v19])*8)≤140737488355328∧(List.length y6.2+List.length [v19])≤9223372036854775807)∧(Zo IntKind.i64 (y6.1+(1:Int))∧R6 ((y6.1+(1:Int)),(y6.2++[v19]))))))) (ZI.pre (y6.2,())∧cond ((ZI.fn (y6.2,())).2 != (0:Int)) (((!((3:Int) != (0:Int)))=true→((!((3:Int) != (0:Int)))=true∧True))∧((((3:Int) != (0:Int))=false→(!((3:Int) != (0:Int)))=true)∧Q (([]:List (List (Zc))),(3:Int)))) (Lp (σ:=Int×(List Int)×List ((Zc)×Int×(List Int)×Int)) (fun y8 R8=>let v21:=List.getD y8.2.2 (Int.toNat y8.1) (Za,((0:Int),(([]:List Int),(0:Int))));let v22:=Max.max v21.2.1 (-v21.2.1);let v23:=Int.tdiv ((ZI.fn (y6.2,())).1) v22;let v24:=List.length ([(v21.1.2.1*v23)]);let v26:=List.set y8.2.2 (Int.toNat y8.1) ((v21.1.1,((v21.1.2.1*v23),(([]:List Int),(0:Int)))),((v21.2.1*v23),(ZJ.fn (v23,(v21.2.2,((0:Int),(v21.2.2,())))))));cond (decide (y8.1 < ((v5:Nat):Int))) (((0:Int)≤y8.1∧y8.1 < ((List.length y8.2.2:Nat):Int))∧(Int.toNat y8.1 < List.length y8.2.2∧(Zo IntKind.i64 (-v21.2.1)∧((v22≠(0:Int)∧Zo IntKind.i64 v23)∧(Zo IntKind.i64 (v21.1.2.1*v23)∧(Zo IntKind.i64 (v21.2.1*v23)∧(ZJ.pre (v23,(v21.2.2,((0:Int),(v21.2.2,()))))∧(((0:Int)≤y8.1∧y8.1 < ((List.length y8.2.2:Nat):Int))∧(Int.toNat y8.1 < List.length y8.2.2∧cond (v21.1.1 == (2:Int)) (Zo IntKind.i64 (v21.1.2.1*v23)∧((((List.length y8.2.1+v24)*8)≤140737488355328∧(List.length y8.2.1+v24)≤9223372036854775807)∧(Zo IntKind.i64 (y8.1+(1:Int))∧R8 ((y8.1+(1:Int)),((y8.2.1++[(v21.1.2.1*v23)]),v26))))) (Zo IntKind.i64 (y8.1+(1:Int))∧R8 ((y8.1+(1:Int)),(y8.2.1,v26)))))))))))) (ZI.pre (y8.2.1,())∧cond ((ZI.fn (y8.2.1,())).2 != (0:Int)) (((!((3:Int) != (0:Int)))=true→((!((3:Int) != (0:Int)))=true∧True))∧((((3:Int) != (0:Int))=false→(!((3:Int) != (0:Int)))=true)∧Q (([]:List (List (Zc))),(3:Int)))) (((!(((v10:Nat):Int) == (0:Int)))=true→((!(((v10:Nat):Int) == (0:Int)))=true∧True))∧(((!(((v10:Nat):Int) == (0:Int)))=true→((!(((v10:Nat):Int) == (0:Int)))=true∧True))∧(((!(((v10:Nat):Int) == (0:Int)))=true→((!(((v10:Nat):Int) == (0:Int)))=true∧True))∧(((((v10:Nat):Int) == (0:Int))=false→(!(((v10:Nat):Int) == (0:Int)))=true)∧cond ((((v10:Nat):Int) == (0:Int))||(((v11:Nat):Int) == (0:Int))) (Lp (σ:=Int×(List (List (Zc)))×(ByteArray→Option Bool)) (fun y10 R10=>let v28:=Zn.fn ((y4.2.1,(y4.2.2.2.1,(y8.2.2,(y4.2.2.1,(y4.2.2.2.2.2.2.1,(y4.2.2.2.2.2.2.2,y4.2.2.2.2.2.1)))))),((ZI.fn (y6.2,())).1,((v27,y10.1),(false,()))));let v29:=Zp.fn ((Zb.fn (v28,())).1,());let v31:=[(Zb.fn (v28,())).1];cond (decide (y10.1 < (ZI.fn (y8.2.1,())).1)) (((0:Int)≤y4.2.1∧(y4.2.1≤y4.2.1∧((y4.2.1*((8:Nat):Int))≤(140737488355328:Int)∧y4.2.1≤(9223372036854775807:Int))))∧(Zn.pre ((y4.2.1,(y4.2.2.2.1,(y8.2.2,(y4.2.2.1,(y4.2.2.2.2.2.2.1,(y4.2.2.2.2.2.2.2,y4.2.2.2.2.2.1)))))),((ZI.fn (y6.2,())).1,((v27,y10.1),(false,()))))∧(Zb.pre (v28,())∧cond (((Zb.fn (v28,())).2).2 != (0:Int)) (((!((0:Int) != (0:Int)))=true→((!((0:Int) != (0:Int)))=true∧True))∧((((0:Int) != (0:Int))=false→(!((0:Int) != (0:Int)))=true)∧cond (((0:Int) != (0:Int))||(((Zb.fn (v28,())).2).2 != (0:Int))) (Q (([]:List (List (Zc))),(3:Int))) (Q (([]:List (List (Zc))),(0:Int))))) (((!(((Zb.fn (v28,())).2).1))=true→((!(((Zb.fn (v28,())).2).1))=true∧Zp.pre ((Zb.fn (v28,())).1,())))∧(((!(((Zb.fn (v28,())).2).1))=true→((!(((Zb.fn (v28,())).2).1))=true∧((!(((Zb.fn (v28,())).2).1))=true∧True)))∧((((Zb.fn (v28,())).2).1=false→(!(((Zb.fn (v28,())).2).1))=true)∧cond (((Zb.fn (v28,())).2).1||(Option.getD (y10.2.2 v29) false)) (Zo IntKind.i64 (y10.1+(1:Int))∧R10 ((y10.1+(1:Int)),y10.2)) (Zp.pre ((Zb.fn (v28,())).1,())∧((((List.length y10.2.1+List.length v31)*24)≤140737488355328∧(List.length y10.2.1+List.length v31)≤9223372036854775807)∧cond (decide ((400:Int) < (((List.length (y10.2.1++v31)):Nat):Int))) (((!((0:Int) != (0:Int)))=true→((!((0:Int) != (0:Int)))=true∧True))∧((((0:Int) != (0:Int))=false→(!((0:Int) != (0:Int)))=true)∧Q (([]:List (List (Zc))),(3:Int)))) (Zo IntKind.i64 (y10.1+(1:Int))∧R10 ((y10.1+(1:Int)),((y10.2.1++v31),ZdA y10.2.2 v29 true))))))))))) (((!((0:Int) != (0:Int)))=true→((!((0:Int) != (0:Int)))=true∧True))∧((((0:Int) != (0:Int))=false→(!((0:Int) != (0:Int)))=true)∧Q (y10.2.1,(0:Int))))) ((0:Int),(([]:List (List (Zc))),fun (a10:ByteArray)=>(none:Option Bool)))) (Lp (σ:=Int×(List (List (Zc)))×(ByteArray→Option Bool)) (fun y10 R10=>let v33:=List.getD y8.2.2 (Int.toNat y10.1) (Za,((0:Int),(([]:List Int),(0:Int))));let v34:=ZJ.fn ((-(1:Int)),(v33.2.2,((0:Int),(v33.2.2,()))));cond (decide (y10.1 < ((List.length y8.2.2:Nat):Int))) (((0:Int)≤y10.1∧y10.1 < ((List.length y8.2.2:Nat):Int))∧(((!(v33.1.1 == (2:Int)))=true→((!(v33.1.1 == (2:Int)))=true∧True))∧(((!(v33.1.1 == (2:Int)))=true→((!(v33.1.1 == (2:Int)))=true∧True))∧(((!(v33.1.1 == (2:Int)))=true→((!(v33.1.1 == (2:Int)))=true∧((!(v33.1.1 == (2:Int)))=true∧True)))∧(((v33.1.1 == (2:Int))=false→(!(v33.1.1 == (2:Int)))=true)∧cond ((v33.1.1 == (2:Int))||(decide ((0:Int) < v33.2.1) != decide (((v10:Nat):Int)≤((v11:Nat):Int)))) (Zo IntKind.i64 (y10.1+(1:Int))∧R10 ((y10.1+(1:Int)),y10.2)) (Lp (σ:=Int×(List (List (Zc)))×(ByteArray→Option Bool)) (fun y12 R12=>let v35:=Zah.fn (v33.2.2,((-y12.1),()));let v36:=Zn.fn ((y4.2.1,(y4.2.2.2.1,(y8.2.2,(y4.2.2.1,(y4.2.2.2.2.2.2.1,(y4.2.2.2.2.2.2.2,y4.2.2.2.2.2.1)))))),((ZI.fn (y6.2,())).1,(v35,(true,()))));let v37:=Zp.fn ((Zb.fn (v36,())).1,());let v39:=[(Zb.fn (v36,())).1];let v41:=Zah.fn (v34,(y12.1,()));let v42:=Zn.fn ((y4.2.1,(y4.2.2.2.1,(y8.2.2,(y4.2.2.1,(y4.2.2.2.2.2.2.1,(y4.2.2.2.2.2.2.2,y4.2.2.2.2.2.1)))))),((ZI.fn (y6.2,())).1,(v41,(true,()))));let v43:=Zp.fn ((Zb.fn (v42,())).1,());let v45:=[(Zb.fn (v42,())).1];cond (decide (y12.1 < (ZI.fn (y8.2.1,())).1)) (ZJ.pre ((-(1:Int)),(v33.2.2,((0:Int),(v33.2.2,()))))∧(Zah.pre (v34,(y12.1,()))∧cond (!(decide (((v10:Nat):Int)≤((v11:Nat):Int)))) (Zo IntKind.i64 (-y12.1)∧(Zah.pre (v33.2.2,((-y12.1),()))∧(Zn.pre ((y4.2.1,(y4.2.2.2.1,(y8.2.2,(y4.2.2.1,(y4.2.2.2.2.2.2.1,(y4.2.2.2.2.2.2.2,y4.2.2.2.2.2.1)))))),((ZI.fn (y6.2,())).1,(v35,(true,()))))∧(Zb.pre (v36,())∧cond (((Zb.fn (v36,())).2).2 != (0:Int)) (((!((0:Int) != (0:Int)))=true→((!((0:Int) != (0:Int)))=true∧True))∧((((0:Int) != (0:Int))=false→(!((0:Int) != (0:Int)))=true)∧cond (((0:Int) != (0:Int))||(((Zb.fn (v36,())).2).2 != (0:Int))) (Q (([]:List (List (Zc))),(3:Int))) (Q (([]:List (List (Zc))),(0:Int))))) (((!(((Zb.fn (v36,())).2).1))=true→((!(((Zb.fn (v36,())).2).1))=true∧Zp.pre ((Zb.fn (v36,())).1,())))∧(((!(((Zb.fn (v36,())).2).1))=true→((!(((Zb.fn (v36,())).2).1))=true∧((!(((Zb.fn (v36,())).2).1))=true∧True)))∧((((Zb.fn (v36,())).2).1=false→(!(((Zb.fn (v36,())).2).1))=true)∧cond (((Zb.fn (v36,())).2).1||(Option.getD (y12.2.2 v37) false)) (Zo IntKind.i64 (y12.1+(1:Int))∧R12 ((y12.1+(1:Int)),y12.2)) (Zp.pre ((Zb.fn (v36,())).1,())∧((((List.length y12.2.1+List.length v39)*24)≤140737488355328∧(List.length y12.2.1+List.length v39)≤9223372036854775807)∧cond (decide ((400:Int) < (((List.length (y12.2.1++v39)):Nat):Int))) (((!((0:Int) != (0:Int)))=true→((!((0:Int) != (0:Int)))=true∧True))∧((((0:Int) != (0:Int))=false→(!((0:Int) != (0:Int)))=true)∧Q (([]:List (List (Zc))),(3:Int)))) (Zo IntKind.i64 (y12.1+(1:Int))∧R12 ((y12.1+(1:Int)),((y12.2.1++v39),ZdA y12.2.2 v37 true)))))))))))) (Zn.pre ((y4.2.1,(y4.2.2.2.1,(y8.2.2,(y4.2.2.1,(y4.2.2.2.2.2.2.1,(y4.2.2.2.2.2.2.2,y4.2.2.2.2.2.1)))))),((ZI.fn (y6.2,())).1,(v41,(true,()))))∧(Zb.pre (v42,())∧cond (((Zb.fn (v42,())).2).2 != (0:Int)) (((!((0:Int) != (0:Int)))=true→((!((0:Int) != (0:Int)))=true∧True))∧((((0:Int) != (0:Int))=false→(!((0:Int) != (0:Int)))=true)∧cond (((0:Int) != (0:Int))||(((Zb.fn (v42,())).2).2 != (0:Int))) (Q (([]:List (List (Zc))),(3:Int))) (Q (([]:List (List (Zc))),(0:Int))))) (((!(((Zb.fn (v42,())).2).1))=true→((!(((Zb.fn (v42,())).2).1))=true∧Zp.pre ((Zb.fn (v42,())).1,())))∧(((!(((Zb.fn (v42,())).2).1))=true→((!(((Zb.fn (v42,())).2).1))=true∧((!(((Zb.fn (v42,())).2).1))=true∧True)))∧((((Zb.fn (v42,())).2).1=false→(!(((Zb.fn (v42,())).2).1))=true)∧cond (((Zb.fn (v42,())).2).1||(Option.getD (y12.2.2 v43) false)) (Zo IntKind.i64 (y12.1+(1:Int))∧R12 ((y12.1+(1:Int)),y12.2)) (Zp.pre ((Zb.fn (v42,())).1,())∧((((List.length y12.2.1+List.length v45)*24)≤140737488355328∧(List.length y12.2.1+List.length v45)≤9223372036854775807)∧cond (decide ((400:Int) < (((List.length (y12.2.1++v45)):Nat):Int))) (((!((0:Int) != (0:Int)))=true→((!((0:Int) != (0:Int)))=true∧True))∧((((0:Int) != (0:Int))=false→(!((0:Int) != (0:Int)))=true)∧Q (([]:List (List (Zc))),(3:Int)))) (Zo IntKind.i64 (y12.1+(1:Int))∧R12 ((y12.1+(1:Int)),((y12.2.1++v45),ZdA y12.2.2 v43 true)))))))))))) (Zo IntKind.i64 (y10.1+(1:Int))∧R10 ((y10.1+(1:Int)),y12.2))) ((0:Int),y10.2))))))) (((!((0:Int) != (0:Int)))=true→((!((0:Int) != (0:Int)))=true∧True))∧((((0:Int) != (0:Int))=false→(!((0:Int) != (0:Int)))=true)∧Q (y10.2.1,(0:Int))))) ((0:Int),(([]:List (List (Zc))),fun (a10:ByteArray)=>(none:Option Bool)))))))))) ((0:Int),(([(ZI.fn (y6.2,())).1]),y4.2.2.2.2.1))))) ((0:Int),([]:List Int))) (Lp (σ:=Int) (fun y6 R6=>let v47:=List.getD y4.2.2.2.2.2.2.1 (Int.toNat y6) (Za,((0:Int),(([]:List Int),(0:Int))));cond (decide (y6 < ((v10:Nat):Int))) (((0:Int)≤y6∧y6 < ((v10:Nat):Int))∧Lp (σ:=Int) (fun y8 R8=>cond (decide (y8 < ((v11:Nat):Int))) (((0:Int)≤y8∧y8 < ((v11:Nat):Int))∧(((v47.2.1 != (1:Int))=true→((v47.2.1 != (1:Int))=true∧True))∧(((v47.2.1 != (1:Int))=true→((v47.2.1 != (1:Int))=true∧True))∧(((v47.2.1 != (1:Int))=true→(v47.2.1 != (1:Int))=true)∧cond ((v47.2.1 != (1:Int))&&((List.getD y4.2.2.2.2.2.2.2 (Int.toNat y8) (Za,((0:Int),(([]:List Int),(0:Int))))).2.1 != (-(1:Int)))) (Lp (σ:=Int×List Int) (fun y10 R10=>let v49:=List.getD y4.2.2.2.2.1 (Int.toNat y10.1) (Za,((0:Int),(([]:List Int),(0:Int))));let v50:=Max.max v49.2.1 (-v49.2.1);cond (decide (y10.1 < ((v5:Nat):Int))) (((0:Int)≤y10.1∧y10.1 < ((v5:Nat):Int))∧(Int.toNat y10.1 < v5∧(Zo IntKind.i64 (-v49.2.1)∧((((List.length y10.2+List.length [v50])*8)≤140737488355328∧(List.length y10.2+List.length [v50])≤9223372036854775807)∧(Zo IntKind.i64 (y10.1+(1:Int))∧R10 ((y10.1+(1:Int)),(y10.2++[v50]))))))) (ZI.pre (y10.2,())∧cond ((ZI.fn (y10.2,())).2 != (0:Int)) (((!((3:Int) != (0:Int)))=true→((!((3:Int) != (0:Int)))=true∧True))∧((((3:Int) != (0:Int))=false→(!((3:Int) != (0:Int)))=true)∧Q (([]:List (List (Zc))),(3:Int)))) (Lp (σ:=Int×(List Int)×List ((Zc)×Int×(List Int)×Int)) (fun y12 R12=>let v52:=List.getD y12.2.2 (Int.toNat y12.1) (Za,((0:Int),(([]:List Int),(0:Int))));let v53:=Max.max v52.2.1 (-v52.2.1);let v54:=Int.tdiv ((ZI.fn (y10.2,())).1) v53;let v55:=List.length ([(v52.1.2.1*v54)]);let v57:=List.set y12.2.2 (Int.toNat y12.1) ((v52.1.1,((v52.1.2.1*v54),(([]:List Int),(0:Int)))),((v52.2.1*v54),(ZJ.fn (v54,(v52.2.2,((0:Int),(v52.2.2,())))))));let v58:=ZI.fn (y12.2.1,());cond (decide (y12.1 < ((v5:Nat):Int))) (((0:Int)≤y12.1∧y12.1 < ((List.length y12.2.2:Nat):Int))∧(Int.toNat y12.1 < List.length y12.2.2∧(Zo IntKind.i64 (-v52.2.1)∧((v53≠(0:Int)∧Zo IntKind.i64 v54)∧(Zo IntKind.i64 (v52.1.2.1*v54)∧(Zo IntKind.i64 (v52.2.1*v54)∧(ZJ.pre (v54,(v52.2.2,((0:Int),(v52.2.2,()))))∧(((0:Int)≤y12.1∧y12.1 < ((List.length y12.2.2:Nat):Int))∧(Int.toNat y12.1 < List.length y12.2.2∧cond (v52.1.1 == (2:Int)) (Zo IntKind.i64 (v52.1.2.1*v54)∧((((List.length y12.2.1+v55)*8)≤140737488355328∧(List.length y12.2.1+v55)≤9223372036854775807)∧(Zo IntKind.i64 (y12.1+(1:Int))∧R12 ((y12.1+(1:Int)),((y12.2.1++[(v52.1.2.1*v54)]),v57))))) (Zo IntKind.i64 (y12.1+(1:Int))∧R12 ((y12.1+(1:Int)),(y12.2.1,v57)))))))))))) (ZI.pre (y12.2.1,())∧cond (v58.2 != (0:Int)) (((!((3:Int) != (0:Int)))=true→((!((3:Int) != (0:Int)))=true∧True))∧((((3:Int) != (0:Int))=false→(!((3:Int) != (0:Int)))=true)∧Q (([]:List (List (Zc))),(3:Int)))) (((!(((v10:Nat):Int) == (0:Int)))=true→((!(((v10:Nat):Int) == (0:Int)))=true∧True))∧(((!(((v10:Nat):Int) == (0:Int)))=true→((!(((v10:Nat):Int) == (0:Int)))=true∧True))∧(((!(((v10:Nat):Int) == (0:Int)))=true→((!(((v10:Nat):Int) == (0:Int)))=true∧True))∧(((((v10:Nat):Int) == (0:Int))=false→(!(((v10:Nat):Int) == (0:Int)))=true)∧cond ((((v10:Nat):Int) == (0:Int))||(((v11:Nat):Int) == (0:Int))) (Lp (σ:=Int×(List (List (Zc)))×(ByteArray→Option Bool)) (fun y14 R14=>let v59:=Zn.fn ((y4.2.1,(y4.2.2.2.1,(y12.2.2,(y4.2.2.1,(y4.2.2.2.2.2.2.1,(y4.2.2.2.2.2.2.2,y4.2.2.2.2.2.1)))))),((ZI.fn (y10.2,())).1,((v27,y14.1),(false,()))));let v60:=Zp.fn ((Zb.fn (v59,())).1,());let v62:=[(Zb.fn (v59,())).1];cond (decide (y14.1 < v58.1)) (((0:Int)≤y4.2.1∧(y4.2.1≤y4.2.1∧((y4.2.1*((8:Nat):Int))≤(140737488355328:Int)∧y4.2.1≤(9223372036854775807:Int))))∧(Zn.pre ((y4.2.1,(y4.2.2.2.1,(y12.2.2,(y4.2.2.1,(y4.2.2.2.2.2.2.1,(y4.2.2.2.2.2.2.2,y4.2.2.2.2.2.1)))))),((ZI.fn (y10.2,())).1,((v27,y14.1),(false,()))))∧(Zb.pre (v59,())∧cond (((Zb.fn (v59,())).2).2 != (0:Int)) (((!((0:Int) != (0:Int)))=true→((!((0:Int) != (0:Int)))=true∧True))∧((((0:Int) != (0:Int))=false→(!((0:Int) != (0:Int)))=true)∧cond (((0:Int) != (0:Int))||(((Zb.fn (v59,())).2).2 != (0:Int))) (Q (([]:List (List (Zc))),(3:Int))) (Q (([]:List (List (Zc))),(0:Int))))) (((!(((Zb.fn (v59,())).2).1))=true→((!(((Zb.fn (v59,())).2).1))=true∧Zp.pre ((Zb.fn (v59,())).1,())))∧(((!(((Zb.fn (v59,())).2).1))=true→((!(((Zb.fn (v59,())).2).1))=true∧((!(((Zb.fn (v59,())).2).1))=true∧True)))∧((((Zb.fn (v59,())).2).1=false→(!(((Zb.fn (v59,())).2).1))=true)∧cond (((Zb.fn (v59,())).2).1||(Option.getD (y14.2.2 v60) false)) (Zo IntKind.i64 (y14.1+(1:Int))∧R14 ((y14.1+(1:Int)),y14.2)) (Zp.pre ((Zb.fn (v59,())).1,())∧((((List.length y14.2.1+List.length v62)*24)≤140737488355328∧(List.length y14.2.1+List.length v62)≤9223372036854775807)∧cond (decide ((400:Int) < (((List.length (y14.2.1++v62)):Nat):Int))) (((!((0:Int) != (0:Int)))=true→((!((0:Int) != (0:Int)))=true∧True))∧((((0:Int) != (0:Int))=false→(!((0:Int) != (0:Int)))=true)∧Q (([]:List (List (Zc))),(3:Int)))) (Zo IntKind.i64 (y14.1+(1:Int))∧R14 ((y14.1+(1:Int)),((y14.2.1++v62),ZdA y14.2.2 v60 true))))))))))) (((!((0:Int) != (0:Int)))=true→((!((0:Int) != (0:Int)))=true∧True))∧((((0:Int) != (0:Int))=false→(!((0:Int) != (0:Int)))=true)∧Q (y14.2.1,(0:Int))))) ((0:Int),(([]:List (List (Zc))),fun (a14:ByteArray)=>(none:Option Bool)))) (Lp (σ:=Int×(List (List (Zc)))×(ByteArray→Option Bool)) (fun y14 R14=>let v64:=List.getD y12.2.2 (Int.toNat y14.1) (Za,((0:Int),(([]:List Int),(0:Int))));let v65:=ZJ.fn ((-(1:Int)),(v64.2.2,((0:Int),(v64.2.2,()))));cond (decide (y14.1 < ((List.length y12.2.2:Nat):Int))) (((0:Int)≤y14.1∧y14.1 < ((List.length y12.2.2:Nat):Int))∧(((!(v64.1.1 == (2:Int)))=true→((!(v64.1.1 == (2:Int)))=true∧True))∧(((!(v64.1.1 == (2:Int)))=true→((!(v64.1.1 == (2:Int)))=true∧True))∧(((!(v64.1.1 == (2:Int)))=true→((!(v64.1.1 == (2:Int)))=true∧((!(v64.1.1 == (2:Int)))=true∧True)))∧(((v64.1.1 == (2:Int))=false→(!(v64.1.1 == (2:Int)))=true)∧cond ((v64.1.1 == (2:Int))||(decide ((0:Int) < v64.2.1) != decide (((v10:Nat):Int)≤((v11:Nat):Int)))) (Zo IntKind.i64 (y14.1+(1:Int))∧R14 ((y14.1+(1:Int)),y14.2)) (Lp (σ:=Int×(List (List (Zc)))×(ByteArray→Option Bool)) (fun y16 R16=>let v66:=Zah.fn (v64.2.2,((-y16.1),()));let v67:=Zn.fn ((y4.2.1,(y4.2.2.2.1,(y12.2.2,(y4.2.2.1,(y4.2.2.2.2.2.2.1,(y4.2.2.2.2.2.2.2,y4.2.2.2.2.2.1)))))),((ZI.fn (y10.2,())).1,(v66,(true,()))));let v68:=Zp.fn ((Zb.fn (v67,())).1,());let v70:=[(Zb.fn (v67,())).1];let v72:=Zah.fn (v65,(y16.1,()));let v73:=Zn.fn ((y4.2.1,(y4.2.2.2.1,(y12.2.2,(y4.2.2.1,(y4.2.2.2.2.2.2.1,(y4.2.2.2.2.2.2.2,y4.2.2.2.2.2.1)))))),((ZI.fn (y10.2,())).1,(v72,(true,()))));let v74:=Zp.fn ((Zb.fn (v73,())).1,());let v76:=[(Zb.fn (v73,())).1];cond (decide (y16.1 < v58.1)) (ZJ.pre ((-(1:Int)),(v64.2.2,((0:Int),(v64.2.2,()))))∧(Zah.pre (v65,(y16.1,()))∧cond (!(decide (((v10:Nat):Int)≤((v11:Nat):Int)))) (Zo IntKind.i64 (-y16.1)∧(Zah.pre (v64.2.2,((-y16.1),()))∧(Zn.pre ((y4.2.1,(y4.2.2.2.1,(y12.2.2,(y4.2.2.1,(y4.2.2.2.2.2.2.1,(y4.2.2.2.2.2.2.2,y4.2.2.2.2.2.1)))))),((ZI.fn (y10.2,())).1,(v66,(true,()))))∧(Zb.pre (v67,())∧cond (((Zb.fn (v67,())).2).2 != (0:Int)) (((!((0:Int) != (0:Int)))=true→((!((0:Int) != (0:Int)))=true∧True))∧((((0:Int) != (0:Int))=false→(!((0:Int) != (0:Int)))=true)∧cond (((0:Int) != (0:Int))||(((Zb.fn (v67,())).2).2 != (0:Int))) (Q (([]:List (List (Zc))),(3:Int))) (Q (([]:List (List (Zc))),(0:Int))))) (((!(((Zb.fn (v67,())).2).1))=true→((!(((Zb.fn (v67,())).2).1))=true∧Zp.pre ((Zb.fn (v67,())).1,())))∧(((!(((Zb.fn (v67,())).2).1))=true→((!(((Zb.fn (v67,())).2).1))=true∧((!(((Zb.fn (v67,())).2).1))=true∧True)))∧((((Zb.fn (v67,())).2).1=false→(!(((Zb.fn (v67,())).2).1))=true)∧cond (((Zb.fn (v67,())).2).1||(Option.getD (y16.2.2 v68) false)) (Zo IntKind.i64 (y16.1+(1:Int))∧R16 ((y16.1+(1:Int)),y16.2)) (Zp.pre ((Zb.fn (v67,())).1,())∧((((List.length y16.2.1+List.length v70)*24)≤140737488355328∧(List.length y16.2.1+List.length v70)≤9223372036854775807)∧cond (decide ((400:Int) < (((List.length (y16.2.1++v70)):Nat):Int))) (((!((0:Int) != (0:Int)))=true→((!((0:Int) != (0:Int)))=true∧True))∧((((0:Int) != (0:Int))=false→(!((0:Int) != (0:Int)))=true)∧Q (([]:List (List (Zc))),(3:Int)))) (Zo IntKind.i64 (y16.1+(1:Int))∧R16 ((y16.1+(1:Int)),((y16.2.1++v70),ZdA y16.2.2 v68 true)))))))))))) (Zn.pre ((y4.2.1,(y4.2.2.2.1,(y12.2.2,(y4.2.2.1,(y4.2.2.2.2.2.2.1,(y4.2.2.2.2.2.2.2,y4.2.2.2.2.2.1)))))),((ZI.fn (y10.2,())).1,(v72,(true,()))))∧(Zb.pre (v73,())∧cond (((Zb.fn (v73,())).2).2 != (0:Int)) (((!((0:Int) != (0:Int)))=true→((!((0:Int) != (0:Int)))=true∧True))∧((((0:Int) != (0:Int))=false→(!((0:Int) != (0:Int)))=true)∧cond (((0:Int) != (0:Int))||(((Zb.fn (v73,())).2).2 != (0:Int))) (Q (([]:List (List (Zc))),(3:Int))) (Q (([]:List (List (Zc))),(0:Int))))) (((!(((Zb.fn (v73,())).2).1))=true→((!(((Zb.fn (v73,())).2).1))=true∧Zp.pre ((Zb.fn (v73,())).1,())))∧(((!(((Zb.fn (v73,())).2).1))=true→((!(((Zb.fn (v73,())).2).1))=true∧((!(((Zb.fn (v73,())).2).1))=true∧True)))∧((((Zb.fn (v73,())).2).1=false→(!(((Zb.fn (v73,())).2).1))=true)∧cond (((Zb.fn (v73,())).2).1||(Option.getD (y16.2.2 v74) false)) (Zo IntKind.i64 (y16.1+(1:Int))∧R16 ((y16.1+(1:Int)),y16.2)) (Zp.pre ((Zb.fn (v73,())).1,())∧((((List.length y16.2.1+List.length v76)*24)≤140737488355328∧(List.length y16.2.1+List.length v76)≤9223372036854775807)∧cond (decide ((400:Int) < (((List.length (y16.2.1++v76)):Nat):Int))) (((!((0:Int) != (0:Int)))=true→((!((0:Int) != (0:Int)))=true∧True))∧((((0:Int) != (0:Int))=false→(!((0:Int) != (0:Int)))=true)∧Q (([]:List (List (Zc))),(3:Int)))) (Zo IntKind.i64 (y16.1+(1:Int))∧R16 ((y16.1+(1:Int)),((y16.2.1++v76),ZdA y16.2.2 v74 true)))))))))))) (Zo IntKind.i64 (y14.1+(1:Int))∧R14 ((y14.1+(1:Int)),y16.2))) ((0:Int),y14.2))))))) (((!((0:Int) != (0:Int)))=true→((!((0:Int) != (0:Int)))=true∧True))∧((((0:Int) != (0:Int))=false→(!((0:Int) != (0:Int)))=true)∧Q (y14.2.1,(0:Int))))) ((0:Int),(([]:List (List (Zc))),fun (a14:ByteArray)=>(none:Option Bool)))))))))) ((0:Int),(([(ZI.fn (y10.2,())).1]),y4.2.2.2.2.1))))) ((0:Int),([]:List Int))) (Zo IntKind.i64 (y8+(1:Int))∧R8 (y8+(1:Int))))))) (Zo IntKind.i64 (y6+(1:Int))∧R6 (y6+(1:Int)))) (0:Int)) (Zw.pre ((y4.2.1,(y4.2.2.2.1,(y4.2.2.2.2.1,(y4.2.2.1,(y4.2.2.2.2.2.2.1,(y4.2.2.2.2.2.2.2,y4.2.2.2.2.2.1)))))),())∧Lp (σ:=Int×(List (List (Zc)))×(ByteArray→Option Bool)) (fun y8 R8=>let v79:=List.getD v78 (Int.toNat y8.1) ([]:List (Zc));let v80:=Zp.fn ((Zb.fn (v79,())).1,());let v82:=[(Zb.fn (v79,())).1];cond (decide (y8.1 < ((List.length v78:Nat):Int))) (((0:Int)≤y8.1∧y8.1 < ((List.length v78:Nat):Int))∧(Zb.pre (v79,())∧cond (((Zb.fn (v79,())).2).2 != (0:Int)) (((!((0:Int) != (0:Int)))=true→((!((0:Int) != (0:Int)))=true∧True))∧((((0:Int) != (0:Int))=false→(!((0:Int) != (0:Int)))=true)∧cond (((0:Int) != (0:Int))||(((Zb.fn (v79,())).2).2 != (0:Int))) (Q (([]:List (List (Zc))),(3:Int))) (Q (([]:List (List (Zc))),(0:Int))))) (((!(((Zb.fn (v79,())).2).1))=true→((!(((Zb.fn (v79,())).2).1))=true∧Zp.pre ((Zb.fn (v79,())).1,())))∧(((!(((Zb.fn (v79,())).2).1))=true→((!(((Zb.fn (v79,())).2).1))=true∧((!(((Zb.fn (v79,())).2).1))=true∧True)))∧((((Zb.fn (v79,())).2).1=false→(!(((Zb.fn (v79,())).2).1))=true)∧cond (((Zb.fn (v79,())).2).1||(Option.getD (y8.2.2 v80) false)) (Zo IntKind.i64 (y8.1+(1:Int))∧R8 ((y8.1+(1:Int)),y8.2)) (Zp.pre ((Zb.fn (v79,())).1,())∧((((List.length y8.2.1+List.length v82)*24)≤140737488355328∧(List.length y8.2.1+List.length v82)≤9223372036854775807)∧cond (decide ((400:Int) < (((List.length (y8.2.1++v82)):Nat):Int))) (((!((0:Int) != (0:Int)))=true→((!((0:Int) != (0:Int)))=true∧True))∧((((0:Int) != (0:Int))=false→(!((0:Int) != (0:Int)))=true)∧Q (([]:List (List (Zc))),(3:Int)))) (Zo IntKind.i64 (y8.1+(1:Int))∧R8 ((y8.1+(1:Int)),((y8.2.1++v82),ZdA y8.2.2 v80 true)))))))))) (((!((0:Int) != (0:Int)))=true→((!((0:Int) != (0:Int)))=true∧True))∧((((0:Int) != (0:Int))=false→(!((0:Int) != (0:Int)))=true)∧Q (y8.2.1,(0:Int))))) ((0:Int),(([]:List (List (Zc))),fun (a8:ByteArray)=>(none:Option Bool))))) (0:Int))))) ((0:Int),((x1 - (1:Int)),((-(1:Int)),(([]:List (Zc)),(([]:List ((Zc)×Int×(List Int)×Int)),(([]:List ((Zc)×Int×(List Int)×Int)),(([]:List ((Zc)×Int×(List Int)×Int)),([]:List ((Zc)×Int×(List Int)×Int))))))))))
def ZeE(n:Int)(oth:List Zc)(parts:List Part)(e:Int)(lows ups divs:List Part)(Q:(List (List Zc))×Int→Prop):Prop:=let v5:=List.length parts;let v10:=List.length lows;let v11:=List.length ups;let v27:=List.replicate (Int.toNat n) (0:Int);Lp (σ:=Int×List Int) (fun y6 R6=>let v18:=List.getD parts (Int.toNat y6.1) (Za,((0:Int),(([]:List Int),(0:Int))));let v19:=Max.max v18.2.1 (-v18.2.1);cond (decide (y6.1 < ((v5:Nat):Int))) (((0:Int)≤y6.1∧y6.1 < ((v5:Nat):Int))∧(Int.toNat y6.1 < v5∧(Zo IntKind.i64 (-v18.2.1)∧((((List.length y6.2+List.length [v19])*8)≤140737488355328∧(List.length y6.2+List.length [v19])≤9223372036854775807)∧(Zo IntKind.i64 (y6.1+(1:Int))∧R6 ((y6.1+(1:Int)),(y6.2++[v19]))))))) (ZI.pre (y6.2,())∧cond ((ZI.fn (y6.2,())).2 != (0:Int)) (((!((3:Int) != (0:Int)))=true→((!((3:Int) != (0:Int)))=true∧True))∧((((3:Int) != (0:Int))=false→(!((3:Int) != (0:Int)))=true)∧Q (([]:List (List (Zc))),(3:Int)))) (Lp (σ:=Int×(List Int)×List ((Zc)×Int×(List Int)×Int)) (fun y8 R8=>let v21:=List.getD y8.2.2 (Int.toNat y8.1) (Za,((0:Int),(([]:List Int),(0:Int))));let v22:=Max.max v21.2.1 (-v21.2.1);let v23:=Int.tdiv ((ZI.fn (y6.2,())).1) v22;let v24:=List.length ([(v21.1.2.1*v23)]);let v26:=List.set y8.2.2 (Int.toNat y8.1) ((v21.1.1,((v21.1.2.1*v23),(([]:List Int),(0:Int)))),((v21.2.1*v23),(ZJ.fn (v23,(v21.2.2,((0:Int),(v21.2.2,())))))));cond (decide (y8.1 < ((v5:Nat):Int))) (((0:Int)≤y8.1∧y8.1 < ((List.length y8.2.2:Nat):Int))∧(Int.toNat y8.1 < List.length y8.2.2∧(Zo IntKind.i64 (-v21.2.1)∧((v22≠(0:Int)∧Zo IntKind.i64 v23)∧(Zo IntKind.i64 (v21.1.2.1*v23)∧(Zo IntKind.i64 (v21.2.1*v23)∧(ZJ.pre (v23,(v21.2.2,((0:Int),(v21.2.2,()))))∧(((0:Int)≤y8.1∧y8.1 < ((List.length y8.2.2:Nat):Int))∧(Int.toNat y8.1 < List.length y8.2.2∧cond (v21.1.1 == (2:Int)) (Zo IntKind.i64 (v21.1.2.1*v23)∧((((List.length y8.2.1+v24)*8)≤140737488355328∧(List.length y8.2.1+v24)≤9223372036854775807)∧(Zo IntKind.i64 (y8.1+(1:Int))∧R8 ((y8.1+(1:Int)),((y8.2.1++[(v21.1.2.1*v23)]),v26))))) (Zo IntKind.i64 (y8.1+(1:Int))∧R8 ((y8.1+(1:Int)),(y8.2.1,v26)))))))))))) (ZI.pre (y8.2.1,())∧cond ((ZI.fn (y8.2.1,())).2 != (0:Int)) (((!((3:Int) != (0:Int)))=true→((!((3:Int) != (0:Int)))=true∧True))∧((((3:Int) != (0:Int))=false→(!((3:Int) != (0:Int)))=true)∧Q (([]:List (List (Zc))),(3:Int)))) (((!(((v10:Nat):Int) == (0:Int)))=true→((!(((v10:Nat):Int) == (0:Int)))=true∧True))∧(((!(((v10:Nat):Int) == (0:Int)))=true→((!(((v10:Nat):Int) == (0:Int)))=true∧True))∧(((!(((v10:Nat):Int) == (0:Int)))=true→((!(((v10:Nat):Int) == (0:Int)))=true∧True))∧(((((v10:Nat):Int) == (0:Int))=false→(!(((v10:Nat):Int) == (0:Int)))=true)∧cond ((((v10:Nat):Int) == (0:Int))||(((v11:Nat):Int) == (0:Int))) (Lp (σ:=Int×(List (List (Zc)))×(ByteArray→Option Bool)) (fun y10 R10=>let v28:=Zn.fn ((n,(oth,(y8.2.2,(e,(lows,(ups,divs)))))),((ZI.fn (y6.2,())).1,((v27,y10.1),(false,()))));let v29:=Zp.fn ((Zb.fn (v28,())).1,());let v31:=[(Zb.fn (v28,())).1];cond (decide (y10.1 < (ZI.fn (y8.2.1,())).1)) (((0:Int)≤n∧(n≤n∧((n*((8:Nat):Int))≤(140737488355328:Int)∧n≤(9223372036854775807:Int))))∧(Zn.pre ((n,(oth,(y8.2.2,(e,(lows,(ups,divs)))))),((ZI.fn (y6.2,())).1,((v27,y10.1),(false,()))))∧(Zb.pre (v28,())∧cond (((Zb.fn (v28,())).2).2 != (0:Int)) (((!((0:Int) != (0:Int)))=true→((!((0:Int) != (0:Int)))=true∧True))∧((((0:Int) != (0:Int))=false→(!((0:Int) != (0:Int)))=true)∧cond (((0:Int) != (0:Int))||(((Zb.fn (v28,())).2).2 != (0:Int))) (Q (([]:List (List (Zc))),(3:Int))) (Q (([]:List (List (Zc))),(0:Int))))) (((!(((Zb.fn (v28,())).2).1))=true→((!(((Zb.fn (v28,())).2).1))=true∧Zp.pre ((Zb.fn (v28,())).1,())))∧(((!(((Zb.fn (v28,())).2).1))=true→((!(((Zb.fn (v28,())).2).1))=true∧((!(((Zb.fn (v28,())).2).1))=true∧True)))∧((((Zb.fn (v28,())).2).1=false→(!(((Zb.fn (v28,())).2).1))=true)∧cond (((Zb.fn (v28,())).2).1||(Option.getD (y10.2.2 v29) false)) (Zo IntKind.i64 (y10.1+(1:Int))∧R10 ((y10.1+(1:Int)),y10.2)) (Zp.pre ((Zb.fn (v28,())).1,())∧((((List.length y10.2.1+List.length v31)*24)≤140737488355328∧(List.length y10.2.1+List.length v31)≤9223372036854775807)∧cond (decide ((400:Int) < (((List.length (y10.2.1++v31)):Nat):Int))) (((!((0:Int) != (0:Int)))=true→((!((0:Int) != (0:Int)))=true∧True))∧((((0:Int) != (0:Int))=false→(!((0:Int) != (0:Int)))=true)∧Q (([]:List (List (Zc))),(3:Int)))) (Zo IntKind.i64 (y10.1+(1:Int))∧R10 ((y10.1+(1:Int)),((y10.2.1++v31),ZdA y10.2.2 v29 true))))))))))) (((!((0:Int) != (0:Int)))=true→((!((0:Int) != (0:Int)))=true∧True))∧((((0:Int) != (0:Int))=false→(!((0:Int) != (0:Int)))=true)∧Q (y10.2.1,(0:Int))))) ((0:Int),(([]:List (List (Zc))),fun (a10:ByteArray)=>(none:Option Bool)))) (Lp (σ:=Int×(List (List (Zc)))×(ByteArray→Option Bool)) (fun y10 R10=>let v33:=List.getD y8.2.2 (Int.toNat y10.1) (Za,((0:Int),(([]:List Int),(0:Int))));let v34:=ZJ.fn ((-(1:Int)),(v33.2.2,((0:Int),(v33.2.2,()))));cond (decide (y10.1 < ((List.length y8.2.2:Nat):Int))) (((0:Int)≤y10.1∧y10.1 < ((List.length y8.2.2:Nat):Int))∧(((!(v33.1.1 == (2:Int)))=true→((!(v33.1.1 == (2:Int)))=true∧True))∧(((!(v33.1.1 == (2:Int)))=true→((!(v33.1.1 == (2:Int)))=true∧True))∧(((!(v33.1.1 == (2:Int)))=true→((!(v33.1.1 == (2:Int)))=true∧((!(v33.1.1 == (2:Int)))=true∧True)))∧(((v33.1.1 == (2:Int))=false→(!(v33.1.1 == (2:Int)))=true)∧cond ((v33.1.1 == (2:Int))||(decide ((0:Int) < v33.2.1) != decide (((v10:Nat):Int)≤((v11:Nat):Int)))) (Zo IntKind.i64 (y10.1+(1:Int))∧R10 ((y10.1+(1:Int)),y10.2)) (Lp (σ:=Int×(List (List (Zc)))×(ByteArray→Option Bool)) (fun y12 R12=>let v35:=Zah.fn (v33.2.2,((-y12.1),()));let v36:=Zn.fn ((n,(oth,(y8.2.2,(e,(lows,(ups,divs)))))),((ZI.fn (y6.2,())).1,(v35,(true,()))));let v37:=Zp.fn ((Zb.fn (v36,())).1,());let v39:=[(Zb.fn (v36,())).1];let v41:=Zah.fn (v34,(y12.1,()));let v42:=Zn.fn ((n,(oth,(y8.2.2,(e,(lows,(ups,divs)))))),((ZI.fn (y6.2,())).1,(v41,(true,()))));let v43:=Zp.fn ((Zb.fn (v42,())).1,());let v45:=[(Zb.fn (v42,())).1];cond (decide (y12.1 < (ZI.fn (y8.2.1,())).1)) (ZJ.pre ((-(1:Int)),(v33.2.2,((0:Int),(v33.2.2,()))))∧(Zah.pre (v34,(y12.1,()))∧cond (!(decide (((v10:Nat):Int)≤((v11:Nat):Int)))) (Zo IntKind.i64 (-y12.1)∧(Zah.pre (v33.2.2,((-y12.1),()))∧(Zn.pre ((n,(oth,(y8.2.2,(e,(lows,(ups,divs)))))),((ZI.fn (y6.2,())).1,(v35,(true,()))))∧(Zb.pre (v36,())∧cond (((Zb.fn (v36,())).2).2 != (0:Int)) (((!((0:Int) != (0:Int)))=true→((!((0:Int) != (0:Int)))=true∧True))∧((((0:Int) != (0:Int))=false→(!((0:Int) != (0:Int)))=true)∧cond (((0:Int) != (0:Int))||(((Zb.fn (v36,())).2).2 != (0:Int))) (Q (([]:List (List (Zc))),(3:Int))) (Q (([]:List (List (Zc))),(0:Int))))) (((!(((Zb.fn (v36,())).2).1))=true→((!(((Zb.fn (v36,())).2).1))=true∧Zp.pre ((Zb.fn (v36,())).1,())))∧(((!(((Zb.fn (v36,())).2).1))=true→((!(((Zb.fn (v36,())).2).1))=true∧((!(((Zb.fn (v36,())).2).1))=true∧True)))∧((((Zb.fn (v36,())).2).1=false→(!(((Zb.fn (v36,())).2).1))=true)∧cond (((Zb.fn (v36,())).2).1||(Option.getD (y12.2.2 v37) false)) (Zo IntKind.i64 (y12.1+(1:Int))∧R12 ((y12.1+(1:Int)),y12.2)) (Zp.pre ((Zb.fn (v36,())).1,())∧((((List.length y12.2.1+List.length v39)*24)≤140737488355328∧(List.length y12.2.1+List.length v39)≤9223372036854775807)∧cond (decide ((400:Int) < (((List.length (y12.2.1++v39)):Nat):Int))) (((!((0:Int) != (0:Int)))=true→((!((0:Int) != (0:Int)))=true∧True))∧((((0:Int) != (0:Int))=false→(!((0:Int) != (0:Int)))=true)∧Q (([]:List (List (Zc))),(3:Int)))) (Zo IntKind.i64 (y12.1+(1:Int))∧R12 ((y12.1+(1:Int)),((y12.2.1++v39),ZdA y12.2.2 v37 true)))))))))))) (Zn.pre ((n,(oth,(y8.2.2,(e,(lows,(ups,divs)))))),((ZI.fn (y6.2,())).1,(v41,(true,()))))∧(Zb.pre (v42,())∧cond (((Zb.fn (v42,())).2).2 != (0:Int)) (((!((0:Int) != (0:Int)))=true→((!((0:Int) != (0:Int)))=true∧True))∧((((0:Int) != (0:Int))=false→(!((0:Int) != (0:Int)))=true)∧cond (((0:Int) != (0:Int))||(((Zb.fn (v42,())).2).2 != (0:Int))) (Q (([]:List (List (Zc))),(3:Int))) (Q (([]:List (List (Zc))),(0:Int))))) (((!(((Zb.fn (v42,())).2).1))=true→((!(((Zb.fn (v42,())).2).1))=true∧Zp.pre ((Zb.fn (v42,())).1,())))∧(((!(((Zb.fn (v42,())).2).1))=true→((!(((Zb.fn (v42,())).2).1))=true∧((!(((Zb.fn (v42,())).2).1))=true∧True)))∧((((Zb.fn (v42,())).2).1=false→(!(((Zb.fn (v42,())).2).1))=true)∧cond (((Zb.fn (v42,())).2).1||(Option.getD (y12.2.2 v43) false)) (Zo IntKind.i64 (y12.1+(1:Int))∧R12 ((y12.1+(1:Int)),y12.2)) (Zp.pre ((Zb.fn (v42,())).1,())∧((((List.length y12.2.1+List.length v45)*24)≤140737488355328∧(List.length y12.2.1+List.length v45)≤9223372036854775807)∧cond (decide ((400:Int) < (((List.length (y12.2.1++v45)):Nat):Int))) (((!((0:Int) != (0:Int)))=true→((!((0:Int) != (0:Int)))=true∧True))∧((((0:Int) != (0:Int))=false→(!((0:Int) != (0:Int)))=true)∧Q (([]:List (List (Zc))),(3:Int)))) (Zo IntKind.i64 (y12.1+(1:Int))∧R12 ((y12.1+(1:Int)),((y12.2.1++v45),ZdA y12.2.2 v43 true)))))))))))) (Zo IntKind.i64 (y10.1+(1:Int))∧R10 ((y10.1+(1:Int)),y12.2))) ((0:Int),y10.2))))))) (((!((0:Int) != (0:Int)))=true→((!((0:Int) != (0:Int)))=true∧True))∧((((0:Int) != (0:Int))=false→(!((0:Int) != (0:Int)))=true)∧Q (y10.2.1,(0:Int))))) ((0:Int),(([]:List (List (Zc))),fun (a10:ByteArray)=>(none:Option Bool)))))))))) ((0:Int),(([(ZI.fn (y6.2,())).1]),parts))))) ((0:Int),([]:List Int))
section
theorem Zh3{β:Type}{d:β}{n j:Nat}{f:Nat→β}(h:j < n):((List.range n).map f).getD j d=f j:=by
 rw[List.getD_eq_getElem?_getD,List.getElem?_map,List.getElem?_range h];rfl
theorem ZsS{β:Type}{n j:Nat}{f g:Nat→β}(h:∀ i,i≠j→f i=g i):((List.range n).map f).set j (g j)=(List.range n).map g:=by
 apply List.ext_getElem (by simp)
 intro i h1 h2
 simp only[List.getElem_set,List.getElem_map,List.getElem_range]
 split
 ·rename_i e;rw[e]
 ·rename_i e;exact h i (fun e'=>e e'.symm)
theorem Zmg{α β:Type}(d:α)(l:List α)(f:α→β):(List.range l.length).map (fun i=>f (l.getD i d))=l.map f:=by
 apply List.ext_getElem (by simp)
 intro i h1 h2
 simp only[List.getElem_map,List.getElem_range]
 rw[ZD (by simpa using h2)]
theorem ZgS{α τ:Type}(f:α→Bool)(g:τ→α→Option τ):∀ (l:List α) (a:τ),l.foldlM (fun t x=>if f x=true then g t x else some t) a=(l.filter f).foldlM g a
 | [],a=>rfl
 | x::l,a=>by
   rw[List.foldlM_cons]
   by_cases h:f x=true
   ·rw[if_pos h,List.filter_cons_of_pos h,List.foldlM_cons]
    cases g a x with
    | none=>rfl
    | some t=>exact ZgS f g l t
   ·rw[if_neg h,List.filter_cons_of_neg h]
    exact ZgS f g l a
theorem Zfj{α β τ:Type}(f:α→List β)(g:τ→β→Option τ):∀ (l:List α) (a:τ),(l.flatMap f).foldlM g a=l.foldlM (fun t x=>(f x).foldlM g t) a
 | [],a=>rfl
 | x::l,a=>by
   rw[List.flatMap_cons,List.foldlM_append,List.foldlM_cons]
   cases (f x).foldlM g a with
   | none=>rfl
   | some t=>exact Zfj f g l t
def Zhu(v:Nat)(l:Int)(c:Zc):Part:=((c.1,c.2.1*ZbS v l c,[],0),Zd v c*ZbS v l c,Zck (ZbS v l c) (ZaC v c) 0 (ZaC v c))
theorem Zge(v:Nat)(l:Int)(c:Zc):(Zhu v l c).2.2=Zjj v l c:=by unfold Zhu;simp only[Zc4];rfl
theorem Zvf{a l:Int}(h0:a≠0)(hl:l.tdiv (Za6 a)*Za6 a=l)(h1:1≤l):(a*l.tdiv (Za6 a)).tdiv l=ZmR a:=by
 have e:a*l.tdiv (Za6 a)=ZmR a*l:=by
  by_cases h:a < 0
  ·have ha:Za6 a=-a:=by unfold Za6;omega
   rw[ha] at hl ⊢
   unfold ZmR
   rw[if_pos h,← Int.neg_inj,show -(-1*l)=l by omega,← Int.neg_mul,Int.mul_comm];exact hl
  ·have ha:Za6 a=a:=by unfold Za6;omega
   rw[ha] at hl ⊢
   unfold ZmR
   rw[if_neg h,Int.one_mul,Int.mul_comm];exact hl
 rw[e,Int.mul_tdiv_cancel _ (by omega)]
theorem Zje{a f:Int}(hf:1≤f):0 < a*f↔0 < a:=by
 constructor
 ·intro h
  apply Classical.byContradiction
  intro hn
  have:=Int.mul_nonpos_of_nonpos_of_nonneg (show a≤0 by omega) (show 0≤f by omega)
  omega
 ·exact fun h=>Int.mul_pos h (by omega)
section
variable {p:List Zc} {N V:Nat}
theorem ZgH(hN:pieceN p (N:Int))(hV:V < N){c:Zc}(hc:c∈p):Zpr (N - 1) (Zaw V c):=by
 have hcn:=hN.c hc
 have hr:=Zcn hcn (v:=V) (by omega)
 have hn12:=hN.2.2.2
 exact⟨Zjc hcn.1,Zcv hcn.1 V,hr.small (by omega) (by omega),hr.1⟩
theorem Zt7(hN:pieceN p (N:Int))(hV:V < N)(hl0:(Zbs V p).2=0){c:Zc}(hc:c∈Zr V p):Zpr (N - 1) (Zhu V (Zbs V p).1 c):=by
 have hcp:=ZaI.1 hc
 have hcn:=hN.c hcp.1
 obtain⟨f0,f1,f2,f3⟩:=ZeB hl0 hc
 obtain⟨_,l1,l2⟩:=Zfs hl0
 have hs:=Zh1 hcn (v:=V) (by omega) ⟨f1,f2⟩
 have hmed:=Zk8 hcn (v:=V) (by omega) hN.2.2.2 ⟨f1,f2⟩ hcp.2
 have hn12:=hN.2.2.2
 have habs:Za6 (Zd V c*ZbS V (Zbs V p).1 c)=(Zbs V p).1:=by
  refine Eq.trans ?_ f0
  by_cases h:Zd V c < 0
  ·have h1:=Int.mul_neg_of_neg_of_pos h (show 0 < ZbS V (Zbs V p).1 c by omega)
   have e1:Za6 (Zd V c*ZbS V (Zbs V p).1 c)=-(Zd V c*ZbS V (Zbs V p).1 c):=by unfold Za6;omega
   have e2:Za6 (Zd V c)=-Zd V c:=by unfold Za6;omega
   rw[e1,e2,Int.mul_neg,Int.mul_comm]
  ·have h1:=Int.mul_nonneg (show 0≤Zd V c by omega) (show 0≤ZbS V (Zbs V p).1 c by omega)
   have e1:Za6 (Zd V c*ZbS V (Zbs V p).1 c)=(Zd V c*ZbS V (Zbs V p).1 c):=by unfold Za6;omega
   have e2:Za6 (Zd V c)=Zd V c:=by unfold Za6;omega
   rw[e1,e2,Int.mul_comm]
 refine⟨hmed.1,?_,?_,?_⟩
 ·show -1048576≤Zd V c*ZbS V (Zbs V p).1 c∧Zd V c*ZbS V (Zbs V p).1 c≤1048576
  unfold Za6 at habs;omega
 ·rw[Zge];exact hs.small (by omega) (by omega)
 ·rw[Zge,hs.1];rfl
theorem ZvL (hN : pieceN p (N : Int)) (hl0 : (Zbs V p).2 = 0) (n e : Int) (lows ups divs : List Part) (w : Lin) (all : Bool) :
 Zn.fn ((n,ZbJ V p,(Zr V p).map (Zhu V (Zbs V p).1),e,lows,ups,divs),(Zbs V p).1,w,all,())=Ze5 V p (Zbs V p).1 w all:=by
 show ZbJ V p++(((Zr V p).map (Zhu V (Zbs V p).1)).filter fun q=>all||decide (q.1.1=2)).map (fun q=>(q.1.1,q.1.2.1,Zck 1 q.2.2 (q.2.1.tdiv (Zbs V p).1) w))++[(2,(Zbs V p).1,w)]=_
 unfold Ze5
 congr 2
 rw[List.filter_map,List.map_map]
 apply List.map_congr_left
 intro c hc
 have hcp:=(List.mem_filter.1 hc).1
 obtain⟨f0,_,_,_⟩:=ZeB hl0 hcp
 obtain⟨_,l1,_⟩:=Zfs hl0
 show ((Zhu V (Zbs V p).1 c).1.1,(Zhu V (Zbs V p).1 c).1.2.1,Zck 1 (Zhu V (Zbs V p).1 c).2.2 ((Zhu V (Zbs V p).1 c).2.1.tdiv (Zbs V p).1) w)=Zvm V (Zbs V p).1 w c
 rw[Zge]
 have:(Zhu V (Zbs V p).1 c).2.1.tdiv (Zbs V p).1=ZmR (Zd V c):=Zvf (ZaI.1 hcp).2 f0 l1
 rw[this]
 rfl
theorem ZvR (hN : pieceN p (N : Int)) (hV : V < N) (hl0 : (Zbs V p).2 = 0) (n e : Int) (divs : List Part) {w : Lin} (hw : ZcR w ∧ w.1.length = N - 1) (all : Bool) :
 Zn.pre ((n,ZbJ V p,(Zr V p).map (Zhu V (Zbs V p).1),e,(ZbQ V p).map (Zaw V),(upP V p).map (Zaw V),divs),(Zbs V p).1,w,all,()):=by
 have h400:=hN.1
 have hle:∀ f:Zc→Bool,(p.filter f).length≤400:=fun f=>Nat.le_trans (List.length_filter_le _ _) h400
 obtain⟨_,l1,_⟩:=Zfs hl0
 refine⟨⟨N - 1,⟨Nat.le_trans Zcl h400,⟨by show ((Zr V p).map _).length≤400;rw[List.length_map];exact hle _,fun q hq=>?_⟩,⟨by show ((ZbQ V p).map _).length≤400;rw[List.length_map];exact hle _,fun q hq=>?_⟩,⟨by show ((upP V p).map _).length≤400;rw[List.length_map];exact hle _,fun q hq=>?_⟩⟩,hw.2⟩,by show (Zbs V p).1≠0;omega,hw.1⟩
 ·obtain⟨c,hc,rfl⟩:=List.mem_map.1 hq
  exact Zt7 hN hV hl0 hc
 ·obtain⟨c,hc,rfl⟩:=List.mem_map.1 hq
  exact ZgH hN hV (List.mem_filter.1 hc).1
 ·obtain⟨c,hc,rfl⟩:=List.mem_map.1 hq
  exact ZgH hN hV (List.mem_filter.1 hc).1
end
theorem Zq6{p:List Zc}{V n:Nat}{l:Int}{d:Nat}(h:¬ (ZbQ V p=[]∨upP V p=[])):ZfG (Zb1 V p n l d)=(Zr V p).foldlM (fun out c=>if (decide (c.1≠2∧decide (0 < Zd V c)=Zgw V p))=true then ((List.range d).map fun (j:Nat)=>Ze5 V p l (ZdB V l c (Zgw V p) j) true).foldlM Zaa out else some out) []:=by
 have e:Zb1 V p n l d=(ZlP V p).flatMap fun c=>(List.range d).map fun (j:Nat)=>Ze5 V p l (ZdB V l c (Zgw V p) j) true:=by unfold Zb1;rw[if_neg h]
 rw[e]
 show ((ZlP V p).flatMap fun c=>(List.range d).map fun (j:Nat)=>Ze5 V p l (ZdB V l c (Zgw V p) j) true).foldlM Zaa []=_
 rw[Zfj,ZgS]
 rfl
theorem ZeE.spec {p : List Zc} {N V : Nat} (hN : pieceN p (N : Int)) (hV : V < N) (e : Int) (divs : List Part) {Q : List (List Zc) × Int → Prop}
 (hQ:∀ r,r=(if (Zbs V p).2≠0 then ([],3) else if (ZeS V p (Zbs V p).1).2≠0 then ([],3) else Zed (Zb1 V p (N - 1) (Zbs V p).1 (ZeS V p (Zbs V p).1).1.toNat))→Q r) :
 ZeE ((N:Int) - 1) (ZbJ V p) ((Zr V p).map (Zaw V)) e ((ZbQ V p).map (Zaw V)) ((upP V p).map (Zaw V)) divs Q:=by
 have h400:=hN.1
 have hn12:=hN.2.2.2
 have hlc:∀ l,ZI.fn (l,())=ZiH l:=fun _=>rfl
 have hsu:∀ a l b m,ZJ.fn (a,l,b,m,())=Zck a l b m:=fun _ _ _ _=>rfl
 have hpl:∀ l k,Zah.fn (l,k,())=(l.1,l.2+k):=fun _ _=>rfl
 unfold ZeE
 have hpartlen:(Zr V p).length≤400:=Nat.le_trans (List.length_filter_le _ _) h400
 simp only[List.length_map,hlc,hsu,hpl]
 have hNt:((N:Int) - 1).toNat=N - 1:=by omega
 simp only[hNt]
 refine Lp.flt ((Zr V p).map (Zaw V)) ZbX [] (fun _=>true) (fun jq=>Za6 jq.2.2.1) (by rw[List.length_map];omega) (fun i t R hi hi' hf htl h1 h2=>?_) (fun R _=>?_)
 ·rw[List.length_map] at hi hi'
  have hm:=Zj (d:=Za) hi
  have hg:((Zr V p).map (Zaw V)).getD i ZbX=Zaw V ((Zr V p).getD i Za):=Ze9 hi
  rw[hg] at h1
  simp only[decide_eq_true hi',Int.toNat_natCast,cond_true,hg]
  have hb:=ZgH hN hV (ZaI.1 hm).1
  obtain⟨q,hq⟩:∃ q,Zaw V ((Zr V p).getD i Za)=q:=⟨_,rfl⟩
  simp only[hq,List.length_nil,Nat.zero_add] at hb h1 htl ⊢
  obtain⟨_,hqa,_,_⟩:=hb
  exact⟨⟨by omega,hi'⟩,hi,⟨by omega,by omega⟩,⟨by simp only[List.length_singleton];omega,by simp only[List.length_singleton];omega⟩,hf,h1 trivial⟩
 have hall:((Zbv ZbX ((Zr V p).map (Zaw V))).filter fun _=>true).map (fun jq=>Za6 jq.2.2.1)=(Zr V p).map fun c=>Za6 (Zd V c):=by
  rw[ZdM ZbX ((Zr V p).map (Zaw V)) (fun _=>true) (fun q=>Za6 q.2.1),List.filter_eq_self.2 (fun _ _=>rfl),List.map_map]
  rfl
 simp only[Int.lt_irrefl,decide_false,cond_false,List.nil_append,List.length_map,hall]
 have hL:ZiH ((Zr V p).map fun c=>Za6 (Zd V c))=Zbs V p:=rfl
 simp only[hL]
 refine⟨fun x hx=>?_,?_⟩
 ·obtain⟨c,hc,rfl⟩:=List.mem_map.1 hx
  have:=Ziw (Zcv (hN.c (ZaI.1 hc).1).1 V)
  omega
 have h30:((3:Int) != (0:Int))=true:=rfl
 have h00:((0:Int) != (0:Int))=false:=rfl
 by_cases hl0:(Zbs V p).2=0
 rotate_left
 ·rw[show ((Zbs V p).2 != 0)=true by simpa using hl0,cond_true]
  refine⟨fun h=>⟨h,trivial⟩,fun h=>by rw[h];rfl,hQ _ ?_⟩
  rw[if_pos hl0]
 rw[show ((Zbs V p).2 != 0)=false by simpa using hl0,cond_false]
 rw[if_neg (by simpa using hl0)] at hQ
 obtain⟨_,hl1,hl512⟩:=Zfs hl0
 have hfac:∀ c∈Zr V p,1≤ZbS V (Zbs V p).1 c∧ZbS V (Zbs V p).1 c≤512:=fun c hc=>⟨(ZeB hl0 hc).2.1,(ZeB hl0 hc).2.2.1⟩
 have hsclB:∀ c∈Zr V p,Zpr (N - 1) (Zhu V (Zbs V p).1 c):=fun c hc=>Zt7 hN hV hl0 hc
 have hats:=fun (w:Lin) (all:Bool)=>ZvL hN hl0 ((N:Int) - 1) e ((ZbQ V p).map (Zaw V)) ((upP V p).map (Zaw V)) divs w all
 have hatp:=fun (w:Lin) (hw:ZcR w∧w.1.length=N - 1) (all:Bool)=>ZvR hN hV hl0 ((N:Int) - 1) e divs hw all
 have hgood:=ZfF hN (v:=V) (by omega) hl0 (d:=(ZeS V p (Zbs V p).1).1.toNat)
 have hsubg:∀ w,ZdZ 536871424 (N - 1) w→∀ all,Zjl (N - 1) (Ze5 V p (Zbs V p).1 w all):=fun w hw all=>ZhV hN (v:=V) (by omega) hl0 (by simpa using hw) all
 have hnear:∀ c∈Zr V p,∀ (low:Bool) (j:Nat),j≤512→ZdZ 536871424 (N - 1) (ZdB V (Zbs V p).1 c low j):=fun c hc low j hj=>by
  have:=ZkL (low:=low) (hN.c (ZaI.1 hc).1) (v:=V) (by omega) (hfac c hc) hj
  simpa using this
 have hsclbd:∀ c∈Zr V p,ZdZ 536870912 (N - 1) (Zjj V (Zbs V p).1 c):=fun c hc=>by
  have:=Zh1 (hN.c (ZaI.1 hc).1) (v:=V) (by omega) (hfac c hc)
  simpa using this
 obtain⟨l,hl⟩:∃ l,(Zbs V p).1=l:=⟨_,rfl⟩
 simp only[hl] at hl1 hl512 hfac hQ hsclB hats hatp hgood hsubg hnear hsclbd ⊢
 have hstart:((Zr V p).map (Zaw V))=(List.range (Zr V p).length).map fun j=>if j < 0 then Zhu V l ((Zr V p).getD j Za) else Zaw V ((Zr V p).getD j Za):=by
  rw[← Zmg Za (Zr V p) (Zaw V)]
  apply List.map_congr_left
  intro j _
  rw[if_neg (by omega)]
 rw[hstart]
 refine Lp.iter (Zr V p).length (fun i z=>z=((i:Int),l::(((Zr V p).take i).filter fun c=>decide (c.1=2)).map (fun c=>c.2.1*ZbS V l c),(List.range (Zr V p).length).map fun j=>if j < i then Zhu V l ((Zr V p).getD j Za) else Zaw V ((Zr V p).getD j Za))) (by simp) ?_
 rintro i z hle rfl R hR
 by_cases hi:i < (Zr V p).length
 ·have hi':(i:Int) < ((Zr V p).length:Int):=by omega
  have hm:=Zj (d:=Za) hi
  have hR':=hR hi _ rfl
  rw[ZbU (d:=Za) hi,List.filter_append,List.map_append] at hR'
  simp only[decide_eq_true hi',Int.toNat_natCast,cond_true,List.length_map,List.length_range,Zh3 hi,if_neg (Nat.lt_irrefl i)]
  have hset:=ZsS (n:=(Zr V p).length) (j:=i) (f:=fun j=>if j < i then Zhu V l ((Zr V p).getD j Za) else Zaw V ((Zr V p).getD j Za)) (g:=fun j=>if j < i+1 then Zhu V l ((Zr V p).getD j Za) else Zaw V ((Zr V p).getD j Za)) (fun j hj=>by
   by_cases h:j < i
   ·rw[if_pos h,if_pos (by omega)]
   ·rw[if_neg h,if_neg (by omega)])
  simp only[if_pos (Nat.lt_succ_self i)] at hset
  obtain⟨c,hq⟩:∃ c,(Zr V p).getD i Za=c:=⟨_,rfl⟩
  simp only[hq] at hm hR' hset ⊢
  have hcp:=ZaI.1 hm
  have hcn:=hN.c hcp.1
  obtain⟨f1,f2⟩:=hfac c hm
  obtain⟨hsM,hsa,hsL,hsk⟩:=hsclB c hm
  have hsM':-1048576≤c.2.1*ZbS V l c∧c.2.1*ZbS V l c≤1048576:=hsM
  have hsa':-1048576≤Zd V c*ZbS V l c∧Zd V c*ZbS V l c≤1048576:=hsa
  have hcb:=Zcv hcn.1 V
  have hrb:=Zcn hcn (v:=V) (by omega)
  have ha1:Max.max (Zd V c) (-Zd V c)≠(0:Int):=by have:=hcp.2;omega
  have hfe:l.tdiv (Max.max (Zd V c) (-Zd V c))=ZbS V l c:=rfl
  have hpc:(Zaw V c).2.1=Zd V c:=rfl
  have hpr:(Zaw V c).2.2=ZaC V c:=rfl
  have hp1:(Zaw V c).1=c:=rfl
  have hsc:((c.1,((c.2.1*ZbS V l c),(([]:List Int),(0:Int)))),((Zd V c*ZbS V l c),Zck (ZbS V l c) (ZaC V c) 0 (ZaC V c)))=Zhu V l c:=rfl
  simp only[hpc,hpr,hp1,hfe,hsc,hset]
  have hdl:(((Zr V p).take i).filter fun c=>decide (c.1=2)).length≤i:=Nat.le_trans (List.length_filter_le _ _) (by rw[List.length_take];omega)
  refine⟨⟨by omega,hi'⟩,hi,⟨by omega,by omega⟩,⟨ha1,⟨by omega,by omega⟩⟩,⟨by omega,by omega⟩,⟨by omega,by omega⟩,⟨by show -1048576≤ZbS V l c∧ZbS V l c≤1048576;omega,hrb.small (by omega) (by omega),by show (-1048576:Int)≤0∧(0:Int)≤1048576;omega,hrb.small (by omega) (by omega),rfl⟩,⟨by omega,hi'⟩,hi,?_⟩
  by_cases h2:c.1=2
  ·rw[show (c.1 == 2)=true by simpa using h2,cond_true]
   rw[List.filter_cons_of_pos (by simpa using h2)] at hR'
   exact⟨⟨by omega,by omega⟩,⟨by simp only[List.length_cons,List.length_nil,List.length_map];omega,by simp only[List.length_cons,List.length_nil,List.length_map];omega⟩,⟨by omega,by omega⟩,hR'⟩
  ·rw[show (c.1 == 2)=false by simpa using h2,cond_false]
   rw[List.filter_cons_of_neg (by simpa using h2),List.filter_nil,List.map_nil,List.append_nil] at hR'
   exact⟨⟨by omega,by omega⟩,hR'⟩
 have:i=(Zr V p).length:=by omega
 subst this
 have hend:((List.range (Zr V p).length).map fun j=>if j < (Zr V p).length then Zhu V l ((Zr V p).getD j Za) else Zaw V ((Zr V p).getD j Za))=(Zr V p).map (Zhu V l):=by
  rw[← Zmg Za (Zr V p) (Zhu V l)]
  apply List.map_congr_left
  intro j hj
  rw[if_pos (List.mem_range.1 hj)]
 simp only[Int.lt_irrefl,decide_false,cond_false,List.take_length,hend,List.length_map]
 have hdd:ZiH (l::((Zr V p).filter fun c=>decide (c.1=2)).map (fun c=>c.2.1*ZbS V l c))=ZeS V p l:=rfl
 simp only[hdd]
 refine⟨fun x hx=>?_,?_⟩
 ·rcases List.mem_cons.1 hx with rfl | hx
  ·omega
  ·obtain⟨c,hc,rfl⟩:=List.mem_map.1 hx
   obtain⟨hc,_⟩:=List.mem_filter.1 hc
   have hsM:-1048576≤c.2.1*ZbS V l c∧c.2.1*ZbS V l c≤1048576:=(hsclB c hc).1
   omega
 by_cases hd0:(ZeS V p l).2=0
 rotate_left
 ·rw[show ((ZeS V p l).2 != 0)=true by simpa using hd0,cond_true]
  refine⟨fun h=>⟨h,trivial⟩,fun h=>by rw[h];rfl,hQ _ ?_⟩
  rw[if_pos hd0]
 rw[show ((ZeS V p l).2 != 0)=false by simpa using hd0,cond_false]
 rw[if_neg (by simpa using hd0)] at hQ
 obtain⟨hd1,hd512,_,_⟩:=Znj hd0
 obtain⟨d,hd⟩:∃ d:Nat,(ZeS V p l).1=(d:Int):=⟨(ZeS V p l).1.toNat,by omega⟩
 simp only[hd,Int.toNat_natCast] at hd1 hd512 hQ hgood ⊢
 refine⟨fun h=>⟨h,trivial⟩,fun h=>⟨h,trivial⟩,fun h=>⟨h,trivial⟩,fun h=>by rw[h];rfl,?_⟩
 have hmade:∀ L,Zed L=match ZfG L with
  | none=>([],3)
  | some out=>(out,0):=fun _=>rfl
 have hfail:ZfG (Zb1 V p (N - 1) l d)=none→Q ([],3):=fun h=>hQ _ (by rw[hmade,h])
 have hdone:∀ out,ZfG (Zb1 V p (N - 1) l d)=some out→Q (out,0):=fun out h=>hQ _ (by rw[hmade,h])
 by_cases hAB:ZbQ V p=[]∨upP V p=[]
 ·have hc:(((ZbQ V p).length:Int) == 0||((upP V p).length:Int) == 0)=true:=by
   rcases hAB with h | h<;>simp[h]
  rw[hc,cond_true]
  have hT:Zb1 V p (N - 1) l d=(List.range d).map fun (j:Nat)=>Ze5 V p l (List.replicate (N - 1) 0,(j:Int)) false:=by
   unfold Zb1;rw[if_pos hAB]
  rw[hT] at hfail hdone
  have hlen:((List.range d).map fun (j:Nat)=>Ze5 V p l (List.replicate (N - 1) 0,(j:Int)) false).length=d:=by simp
  refine Lp.tid ((List.range d).map fun (j:Nat)=>Ze5 V p l (List.replicate (N - 1) 0,(j:Int)) false) [] _ Zfe.nil (by simp) (by omega) (fun i out m R hi hi' hf hk hol h1 h2 h3=>?_) (fun out m R ht hk hol=>?_)
  ·rw[hlen] at hi hi'
   have hnb:=ZkS (n:=N - 1) (j:=i) (by omega)
   rw[Zh3 hi] at h1 h2 h3
   simp only[decide_eq_true hi',cond_true,hats]
   refine⟨⟨by omega,by omega,by omega,by omega⟩,hatp (List.replicate (N - 1) 0,(i:Int)) ⟨hnb.small (by omega) (by omega),hnb.1⟩ false,Ze0 (hsubg (List.replicate (N - 1) 0,(i:Int)) hnb false).D.1 hk hol (fun h4 hn=>?_) (fun hs=>⟨hf,h1 hs⟩) (fun hn=>?_) (fun hs=>⟨hf,h2 hs⟩)⟩
   ·simp only[h00,Zb.fn,h4,h30,Bool.or_true,cond_true]
    exact⟨fun h=>⟨h,trivial⟩,fun h=>rfl,hfail (h3 hn)⟩
   ·exact⟨fun h=>⟨h,trivial⟩,fun h=>by rw[h];rfl,hfail (h3 hn)⟩
  ·rw[hlen]
   simp only[Int.lt_irrefl,decide_false,cond_false]
   exact⟨fun h=>⟨h,trivial⟩,fun h=>by rw[h];rfl,hdone out ht⟩
 ·have hc:(((ZbQ V p).length:Int) == 0||((upP V p).length:Int) == 0)=false:=by
   simp only[not_or] at hAB
   have h1:(ZbQ V p).length≠0:=fun h=>hAB.1 (List.eq_nil_of_length_eq_zero h)
   have h2:(upP V p).length≠0:=fun h=>hAB.2 (List.eq_nil_of_length_eq_zero h)
   simp;omega
  rw[hc,cond_false]
  rw[Zq6 hAB] at hfail hdone
  have hlowS:decide (((ZbQ V p).length:Int)≤((upP V p).length:Int))=Zgw V p:=by
   unfold Zgw
   by_cases h:(ZbQ V p).length≤(upP V p).length
   ·rw[decide_eq_true h,decide_eq_true (by omega)]
   ·rw[decide_eq_false h,decide_eq_false (by omega)]
  simp only[hlowS]
  obtain⟨F,hF⟩:∃ F:List (List Zc)→Zc→Option (List (List Zc)),F=fun out c=>if (decide (c.1≠2∧decide (0 < Zd V c)=Zgw V p))=true then ((List.range d).map fun (j:Nat)=>Ze5 V p l (ZdB V l c (Zgw V p) j) true).foldlM Zaa out else some out:=⟨_,rfl⟩
  rw[← hF] at hfail hdone
  refine Lp.iter (Zr V p).length (fun i (z:Int×List (List Zc)×(ByteArray→Option Bool))=>z.1=(i:Int)∧((Zr V p).take i).foldlM F []=some z.2.1∧Zfe z.2.1 z.2.2∧z.2.1.length≤400) ⟨rfl,rfl,Zfe.nil,by simp⟩ ?_
  rintro i ⟨y,out,m⟩ hle ⟨hy,ht,hk,hol⟩ R hR
  simp only at hy ht hk hol
  subst hy
  by_cases hi:i < (Zr V p).length
  ·have hi':(i:Int) < ((Zr V p).length:Int):=by omega
   have hm:=Zj (d:=Za) hi
   have hR':=hR hi
   have hsn:((Zr V p).take (i+1)).foldlM F []=F out ((Zr V p).getD i Za):=Zc7 ht hi
   have hnn:F out ((Zr V p).getD i Za)=none→(Zr V p).foldlM F []=none:=fun h=>ZiK ht hi h
   have hg:((Zr V p).map (Zhu V l)).getD i ZbX=Zhu V l ((Zr V p).getD i Za):=Ze9 hi
   simp only[decide_eq_true hi',Int.toNat_natCast,cond_true,hg]
   obtain⟨c,hq⟩:∃ c,(Zr V p).getD i Za=c:=⟨_,rfl⟩
   simp only[hq] at hm hsn hnn ⊢
   obtain⟨f1,f2⟩:=hfac c hm
   have hcp:=ZaI.1 hm
   have hFc:F out c=if (decide (c.1≠2∧decide (0 < Zd V c)=Zgw V p))=true then ((List.range d).map fun (j:Nat)=>Ze5 V p l (ZdB V l c (Zgw V p) j) true).foldlM Zaa out else some out:=by rw[hF]
   have hk1:(Zhu V l c).1.1=c.1:=rfl
   have ha1:decide ((0:Int) < (Zhu V l c).2.1)=decide (0 < Zd V c):=by
    have:(Zhu V l c).2.1=Zd V c*ZbS V l c:=rfl
    rw[this]
    by_cases h:0 < Zd V c
    ·rw[decide_eq_true h,decide_eq_true ((Zje f1).2 h)]
    ·rw[decide_eq_false h,decide_eq_false (fun h'=>h ((Zje f1).1 h'))]
   simp only[hk1,ha1,Zge]
   refine⟨⟨by omega,hi'⟩,fun h=>⟨h,trivial⟩,fun h=>⟨h,trivial⟩,fun h=>⟨h,h,trivial⟩,fun h=>by rw[h];rfl,?_⟩
   have hcnd:((c.1 == 2)||(decide (0 < Zd V c) != Zgw V p))=!decide (c.1≠2∧decide (0 < Zd V c)=Zgw V p):=by
    by_cases h2:c.1=2
    ·simp[h2]
    ·cases decide (0 < Zd V c)<;>cases Zgw V p<;>simp[h2]
   rw[hcnd]
   cases hsd:decide (c.1≠2∧decide (0 < Zd V c)=Zgw V p) with
   | false =>
     rw[hsd,if_neg (by simp)] at hFc
     simp only[Bool.not_false,cond_true]
     exact⟨⟨by omega,by omega⟩,hR' _ ⟨rfl,by rw[hsn,hFc],hk,hol⟩⟩
   | true =>
     rw[hsd,if_pos rfl] at hFc
     simp only[Bool.not_true,cond_false]
     have hlen:((List.range d).map fun (j:Nat)=>Ze5 V p l (ZdB V l c (Zgw V p) j) true).length=d:=by simp
     have hscl:=hsclbd c hm
     have hsum:Zck (-1) (Zjj V l c) 0 (Zjj V l c)=((Zjj V l c).1.map fun n=>-1*n,-1*(Zjj V l c).2):=Zc4 _ _
     simp only[hsum]
     refine Lp.tid ((List.range d).map fun (j:Nat)=>Ze5 V p l (ZdB V l c (Zgw V p) j) true) out m hk hol (by omega) (fun j out2 m2 R2 hj hj' hf hk2 hol2 h1 h2 h3=>?_) (fun out2 m2 R2 ht2 hk2 hol2=>?_)
     ·rw[hlen] at hj hj'
      have hnb:=hnear c hm (Zgw V p) j (by omega)
      rw[Zh3 hj] at h1 h2 h3
      simp only[decide_eq_true hj',cond_true]
      have hsm:ZcR ((Zjj V l c).1.map fun n=>-1*n,-1*(Zjj V l c).2):=by
       have h:=ZkL (low:=true) (j:=0) (hN.c hcp.1) (v:=V) (l:=l) (by omega) (hfac c hm) (by omega)
       have h':=h.small (by omega) (by omega)
       unfold ZdB at h'
       simpa using h'
      refine⟨⟨by show (-1048576:Int)≤-1∧(-1:Int)≤1048576;omega,hscl.small (by omega) (by omega),by show (-1048576:Int)≤0∧(0:Int)≤1048576;omega,hscl.small (by omega) (by omega),rfl⟩,⟨hsm,by show -1048576≤(j:Int);omega,by show (j:Int)≤1048576;omega⟩,?_⟩
      cases hlow:Zgw V p with
      | false =>
        rw[hlow] at hnb h1 h2 h3
        have hw:((Zjj V l c).1,(Zjj V l c).2+-(j:Int))=ZdB V l c false j:=rfl
        simp only[Bool.not_false,cond_true,hw,hats]
        refine⟨⟨by omega,by omega⟩,⟨hscl.small (by omega) (by omega),by show -1048576≤-(j:Int);omega,by show -(j:Int)≤1048576;omega⟩,hatp _ ⟨hnb.small (by omega) (by omega),hnb.1⟩ true,Ze0 (hsubg _ hnb true).D.1 hk2 hol2 (fun h4 hn=>?_) (fun hs=>⟨hf,h1 hs⟩) (fun hn=>?_) (fun hs=>⟨hf,h2 hs⟩)⟩
        ·simp only[h00,Zb.fn,h4,h30,Bool.or_true,cond_true]
         exact⟨fun h=>⟨h,trivial⟩,fun h=>rfl,hfail (hnn (by rw[hFc,hlow];exact h3 hn))⟩
        ·exact⟨fun h=>⟨h,trivial⟩,fun h=>by rw[h];rfl,hfail (hnn (by rw[hFc,hlow];exact h3 hn))⟩
      | true =>
        rw[hlow] at hnb h1 h2 h3
        have hw:((Zjj V l c).1.map (fun n=>-1*n),-1*(Zjj V l c).2+(j:Int))=ZdB V l c true j:=rfl
        simp only[Bool.not_true,cond_false,hw,hats]
        refine⟨hatp _ ⟨hnb.small (by omega) (by omega),hnb.1⟩ true,Ze0 (hsubg _ hnb true).D.1 hk2 hol2 (fun h4 hn=>?_) (fun hs=>⟨hf,h1 hs⟩) (fun hn=>?_) (fun hs=>⟨hf,h2 hs⟩)⟩
        ·simp only[h00,Zb.fn,h4,h30,Bool.or_true,cond_true]
         exact⟨fun h=>⟨h,trivial⟩,fun h=>rfl,hfail (hnn (by rw[hFc,hlow];exact h3 hn))⟩
        ·exact⟨fun h=>⟨h,trivial⟩,fun h=>by rw[h];rfl,hfail (hnn (by rw[hFc,hlow];exact h3 hn))⟩
     ·rw[hlen]
      simp only[Int.lt_irrefl,decide_false,cond_false]
      exact⟨⟨by omega,by omega⟩,hR' _ ⟨rfl,by rw[hsn,hFc];exact ht2,hk2,hol2⟩⟩
  ·have:i=(Zr V p).length:=by omega
   subst this
   rw[List.take_length] at ht
   simp only[Int.lt_irrefl,decide_false,cond_false]
   exact⟨fun h=>⟨h,trivial⟩,fun h=>by rw[h];rfl,hdone out ht⟩
end
theorem ZhO{p q:List Zc}(h:∀ x,x∈p↔x∈q):ZaF p=ZaF q:=by
 unfold ZaF
 rw[Bool.eq_iff_iff]
 simp only[List.any_eq_true,List.mem_map]
 constructor
 ·rintro⟨r,⟨c,hc,rfl⟩,hr⟩;exact⟨_,⟨c,(h c).1 hc,rfl⟩,hr⟩
 ·rintro⟨r,⟨c,hc,rfl⟩,hr⟩;exact⟨_,⟨c,(h c).2 hc,rfl⟩,hr⟩
theorem Zlw{p q:List Zc}(h:∀ x,x∈p↔x∈q)(x:Zc):x∈ZbN p↔x∈ZbN q:=by
 unfold ZbN
 simp only[List.mem_map,List.mem_filter]
 constructor
 ·rintro⟨r,⟨⟨c,hc,rfl⟩,hr⟩,rfl⟩;exact⟨_,⟨⟨c,(h c).1 hc,rfl⟩,hr⟩,rfl⟩
 ·rintro⟨r,⟨⟨c,hc,rfl⟩,hr⟩,rfl⟩;exact⟨_,⟨⟨c,(h c).2 hc,rfl⟩,hr⟩,rfl⟩
theorem ZvD{p q:List Zc}(h:∀ x,x∈p↔x∈q):Lm p=Lm q:=by
 funext x
 apply propext
 unfold Lm
 constructor
 ·rintro⟨h1,h2⟩;exact⟨(h x).1 h1,fun h0 d hd=>h2 h0 d ((h d).2 hd)⟩
 ·rintro⟨h1,h2⟩;exact⟨(h x).2 h1,fun h0 d hd=>h2 h0 d ((h d).1 hd)⟩
theorem ZqF{p q:List Zc}{n:Nat}(hp:ZaD p∧Zek p n)(hq:ZaD q∧Zek q n)(h:∀ x,x∈p↔x∈q):Zac p=Zac q:=by
 by_cases hv:ZaF p=true
 ·rw[Zca,Zca,← ZhO h,hv];rfl
 ·have hv:ZaF p=false:=by simpa using hv
  have hv2:ZaF q=false:=by rw[← ZhO h];exact hv
  obtain⟨a1,a2⟩:=ZdK hp.1 hp.2 hv
  obtain⟨b1,b2⟩:=ZdK hq.1 hq.2 hv2
  have hL:Lm (ZbN q)=Lm (ZbN p):=(ZvD (Zlw h)).symm
  rw[hL] at b1 b2
  by_cases hV:Zg1 (Lm (ZbN p))∨ZfO (MM (Lm (ZbN p)))
  ·rw[a1 hV,b1 hV]
  ·obtain⟨m,hm⟩:=ZiB hp.1 hp.2 hv (fun h=>hV (.inl h)) (fun h=>hV (.inr h))
   rw[a2 (fun h=>hV (.inl h)) (fun h=>hV (.inr h)) m hm,b2 (fun h=>hV (.inl h)) (fun h=>hV (.inr h)) m hm]
   have hany:(ZbN p).any (fun c=>!Zi c)=(ZbN q).any (fun c=>!Zi c):=by
    rw[Bool.eq_iff_iff]
    simp only[List.any_eq_true]
    constructor
    ·rintro⟨c,hc,h2⟩;exact⟨c,(Zlw h c).1 hc,h2⟩
    ·rintro⟨c,hc,h2⟩;exact⟨c,(Zlw h c).2 hc,h2⟩
   rw[hany]
theorem ZfI{α:Type}{d:α}:∀ {l:List α} {k:Nat},k < l.length→l=l.take k++l.getD k d::l.drop (k+1)
 | [],k,h=>by simp at h
 | x::l,0,_=>by simp
 | x::l,k+1,h=>by
   simp only[List.take_succ_cons,List.getD_cons_succ,List.drop_succ_cons,List.cons_append]
   congr 1
   exact ZfI (by simpa using h)
theorem Zid{α:Type}(d:α)(l:List α)(k:Nat)(hk:k < l.length):((Zbv d l).filter fun ix=>decide (ix.1≠k)).map (·.2)=l.take k++l.drop (k+1):=by
 have hr:List.range l.length=List.range k++k::(List.range (l.length - (k+1))).map (fun j=>j+(k+1)):=by
  obtain⟨r,hr⟩:∃ r,l.length - (k+1)=r:=⟨_,rfl⟩
  rw[hr,show l.length=k+(1+r) by omega,List.range_add,List.range_add,List.map_append,List.map_map]
  congr 1
  show [k+0]++_=_
  rw[List.singleton_append]
  congr 1
  apply List.map_congr_left
  intro j _
  show k+(1+j)=j+(k+1)
  omega
 unfold Zbv
 rw[hr,List.map_append,List.map_cons,List.filter_append,List.map_append,List.filter_cons_of_neg (by simp)]
 congr 1
 ·rw[List.filter_eq_self.2 ?_,List.map_map]
  ·apply List.ext_getElem (by simp;omega)
   intro i h1 h2
   simp only[List.length_map,List.length_range] at h1
   simp only[List.getElem_map,List.getElem_range,Function.comp,List.getElem_take]
   exact ZD (by omega)
  ·intro x hx
   simp only[List.mem_map,List.mem_range] at hx
   obtain⟨i,hi,rfl⟩:=hx
   simp;omega
 ·rw[List.filter_eq_self.2 ?_,List.map_map,List.map_map]
  ·apply List.ext_getElem (by simp)
   intro i h1 h2
   simp only[List.length_map,List.length_range] at h1
   simp only[List.getElem_map,List.getElem_range,Function.comp,List.getElem_drop]
   rw[ZD (by omega)]
   congr 1;omega
  ·intro x hx
   simp only[List.mem_map,List.mem_range] at hx
   obtain⟨j,⟨i,hi,rfl⟩,rfl⟩:=hx
   simp;omega
theorem Zho(v:Nat)(a b:List Zc):Zr v (a++b)=Zr v a++Zr v b:=List.filter_append _ _
theorem Zm0 {v : Nat} {p : List Zc} {j : Nat} (hj : j < p.length) (h0 : Zd v (p.getD j Za) ≠ 0) : (Zr v (p.take j)).length < (Zr v p).length ∧ (Zr v p).getD (Zr v (p.take j)).length Za = p.getD j Za ∧
 (Zr v p).take (Zr v (p.take j)).length++(Zr v p).drop ((Zr v (p.take j)).length+1)=Zr v (p.take j++p.drop (j+1)):=by
 have e:Zr v p=Zr v (p.take j)++p.getD j Za::Zr v (p.drop (j+1)):=by
  have:=congrArg (Zr v) (ZfI (d:=Za) hj)
  rw[this,Zho]
  congr 1
  show List.filter _ (p.getD j Za::p.drop (j+1))=_
  rw[List.filter_cons_of_pos (by simpa using h0)]
  rfl
 rw[e]
 refine⟨by simp,?_,?_⟩
 ·rw[List.getD_eq_getElem?_getD,List.getElem?_append_right (Nat.le_refl _)];simp
 ·rw[Zho]
  congr 1
  ·simp
  ·rw[List.drop_append];simp
def eqQ(v:Nat)(p:List Zc)(i:Nat):Int:=if eqJ v p i < 0 then -1 else ((Zr v (p.take (eqJ v p i).toNat)).length:Int)
theorem ZuM(v:Nat)(e c:Zc):Zug (Zaw v e) (Zaw v c)=ZlV v e c:=by
 unfold Zug ZlV Zaw
 simp only
 rw[Int.mul_comm (Za6 (Zd v e)) c.2.1,Int.mul_comm _ (Zd v c)]
theorem Zm1 {p : List Zc} {N V : Nat} (hN : pieceN p (N : Int)) (hV : V < N) {j : Nat} (hj : j < p.length) (h0 : Zd V (p.getD j Za) ≠ 0) (n : Int) (lows ups divs : List Part) :
 ZaD (Zez (n,ZbJ V p,(Zr V p).map (Zaw V),((Zr V (p.take j)).length:Int),lows,ups,divs)) ∧
 Zac (Zez (n,ZbJ V p,(Zr V p).map (Zaw V),((Zr V (p.take j)).length:Int),lows,ups,divs))=Zac (Zcz V p j):=by
 obtain⟨k1,k2,k3⟩:=Zm0 hj h0
 obtain⟨e,he⟩:∃ e,p.getD j Za=e:=⟨_,rfl⟩
 obtain⟨tail,htail⟩:∃ tail:List Zc,tail=if 1 < Za6 (Zd V e) then [(2,Za6 (Zd V e),ZaC V e)] else []:=⟨_,rfl⟩
 have hq:Zez (n,ZbJ V p,(Zr V p).map (Zaw V),((Zr V (p.take j)).length:Int),lows,ups,divs)=ZbJ V p++(Zr V (p.take j++p.drop (j+1))).map (ZlV V e)++tail:=by
  unfold Zez
  simp only[Int.toNat_natCast]
  have hg:((Zr V p).map (Zaw V)).getD (Zr V (p.take j)).length ZbX=Zaw V e:=by rw[Ze9 (d:=Za) k1,k2,he]
  rw[hg,htail]
  congr 2
  have hx:((Zbv ZbX ((Zr V p).map (Zaw V))).filter fun jq=>decide ((jq.1:Int)≠((Zr V (p.take j)).length:Int)))=((Zbv ZbX ((Zr V p).map (Zaw V))).filter fun jq=>decide (jq.1≠(Zr V (p.take j)).length)):=by
   apply List.filter_congr
   intro x _
   exact decide_eq_decide.2 (by omega)
  have hm:((Zbv ZbX ((Zr V p).map (Zaw V))).filter fun jq=>decide ((jq.1:Int)≠((Zr V (p.take j)).length:Int))).map (fun jq=>Zug (Zaw V e) jq.2)=(((Zbv ZbX ((Zr V p).map (Zaw V))).filter fun jq=>decide (jq.1≠(Zr V (p.take j)).length)).map (·.2)).map (Zug (Zaw V e)):=by
   rw[hx,List.map_map];rfl
  rw[hm,Zid ZbX _ _ (by rw[List.length_map];exact k1),← List.map_take,← List.map_drop,← List.map_append,k3,List.map_map]
  apply List.map_congr_left
  intro c _
  exact ZuM V e c
 have hp:Zcz V p j=(p.take j++p.drop (j+1)).map (fun c=>if Zd V c=0 then Zc1 V c else ZlV V e c)++tail:=by
  unfold Zcz
  rw[he,htail]
  congr 1
  rw[← Zid Za p j hj,List.map_map]
  rfl
 have hmem:∀ x,x∈ZbJ V p++(Zr V (p.take j++p.drop (j+1))).map (ZlV V e)++tail↔x∈(p.take j++p.drop (j+1)).map (fun c=>if Zd V c=0 then Zc1 V c else ZlV V e c)++tail:=by
  intro x
  rw[List.mem_append,List.mem_append,List.mem_append]
  have hfree:x∈ZbJ V p↔∃ c∈p.take j++p.drop (j+1),Zd V c=0∧Zc1 V c=x:=by
   unfold ZbJ
   simp only[List.mem_map,List.mem_filter,decide_eq_true_eq]
   constructor
   ·rintro⟨c,⟨hc,hc0⟩,rfl⟩
    refine⟨c,?_,hc0,rfl⟩
    rw[ZfI (d:=Za) hj] at hc
    rcases List.mem_append.1 hc with hc | hc
    ·exact List.mem_append_left _ hc
    ·rcases List.mem_cons.1 hc with rfl | hc
     ·exact absurd hc0 h0
     ·exact List.mem_append_right _ hc
   ·rintro⟨c,hc,hc0,rfl⟩
    refine⟨c,⟨?_,hc0⟩,rfl⟩
    rcases List.mem_append.1 hc with hc | hc
    ·exact List.mem_of_mem_take hc
    ·exact List.mem_of_mem_drop hc
  have hmap:x∈(p.take j++p.drop (j+1)).map (fun c=>if Zd V c=0 then Zc1 V c else ZlV V e c)↔(∃ c∈p.take j++p.drop (j+1),Zd V c=0∧Zc1 V c=x)∨x∈(Zr V (p.take j++p.drop (j+1))).map (ZlV V e):=by
   simp only[List.mem_map,ZaI]
   constructor
   ·rintro⟨c,hc,rfl⟩
    by_cases hc0:Zd V c=0
    ·rw[if_pos hc0];exact .inl ⟨c,hc,hc0,rfl⟩
    ·rw[if_neg hc0];exact .inr ⟨c,⟨hc,hc0⟩,rfl⟩
   ·rintro (⟨c,hc,hc0,rfl⟩ | ⟨c,⟨hc,hc0⟩,rfl⟩)
    ·exact⟨c,hc,if_pos hc0⟩
    ·exact⟨c,hc,if_neg hc0⟩
  rw[hfree,hmap]
 have hgood:=ZeD hN (v:=V) (by omega) hj h0
 have hgq:Zjl (N - 1) (Zez (n,ZbJ V p,(Zr V p).map (Zaw V),((Zr V (p.take j)).length:Int),lows,ups,divs)):=by
  rw[hq]
  refine⟨?_,fun c hc=>?_⟩
  ·have h1:=Zcl (v:=V) (p:=p)
   have h2:(Zr V (p.take j++p.drop (j+1))).length≤(p.take j++p.drop (j+1)).length:=List.length_filter_le _ _
   have h3:tail.length≤1:=by rw[htail];split<;>simp
   have h4:=hN.1
   simp only[List.length_append,List.length_map,List.length_take,List.length_drop] at h2 ⊢
   omega
  ·have:=(hmem c).1 hc
   rw[← hp] at this
   exact hgood.2 c this
 refine⟨hgq.D.1,ZqF hgq.D hgood.D fun x=>?_⟩
 rw[hq,hp]
 exact hmem x
theorem ZrX(C:List Int)(V:Nat):C.take V++C.drop ((V:Int)+1).toNat=ZcU C V:=by
 rw[show ((V:Int)+1).toNat=V+1 by omega];rfl
theorem ZuO{q q':List Zc}(h:Zac q=Zac q'):ZfG [q]=ZfG [q']:=by
 show [q].foldlM Zaa []=[q'].foldlM Zaa []
 rw[List.foldlM_cons,List.foldlM_cons]
 have:Zaa [] q=Zaa [] q':=by unfold Zaa;rw[h]
 rw[this]
theorem ZQ.spec(p:List Zc)(n v:Int)(hp:ZQ.pre (p,n,v,())):ZQ.wp p n v (fun r=>r=ZQ.fn (p,n,v,())):=by
 obtain⟨hN,hv0,hv1⟩:=hp
 simp only at hN hv0 hv1
 obtain⟨V,rfl⟩:∃ V:Nat,v=(V:Int):=⟨v.toNat,by omega⟩
 obtain⟨N,rfl⟩:∃ N:Nat,n=(N:Int):=⟨n.toNat,by omega⟩
 have h400:=hN.1
 have hn12:=hN.2.2.2
 have hV:V < N:=by omega
 have hfn:ZQ.fn (p,(N:Int),(V:Int),())=ZS p N V:=rfl
 have hsh:ZS p N V=match ZcQ p N V with
  | none=>([],3)
  | some l=>Zed l:=rfl
 have hmade:∀ L,Zed L=match ZfG L with
  | none=>([],3)
  | some out=>(out,0):=fun _=>rfl
 unfold ZQ.wp
 rw[hfn]
 dsimp only
 refine⟨⟨by omega,by omega⟩,?_⟩
 refine Lp.iter p.length (fun i z=>z=((i:Int),(N:Int) - 1,eqQ V p i,ZbJ V (p.take i),(Zr V (p.take i)).map (Zaw V),(Zf5 V (p.take i)).map (Zaw V),(ZbQ V (p.take i)).map (Zaw V),(upP V (p.take i)).map (Zaw V))) (by simp[eqQ,eqJ,ZbJ,Zf5,ZbQ,upP,Zr]) ?_
 rintro i z hle rfl R hR
 by_cases e:i < p.length
 ·have e':(i:Int) < (p.length:Int):=by omega
  have hm:=Zj (d:=Za) e
  have hR':=hR e _ rfl
  have hQ1:eqQ V p (i+1)=if Zd V (p.getD i Za)≠0∧(p.getD i Za).1=1∧(eqJ V p i < 0∨Za6 (Zd V (p.getD i Za)) < Za6 (Zd V (p.getD (eqJ V p i).toNat Za))) then ((Zr V (p.take i)).length:Int) else eqQ V p i:=by
   unfold eqQ
   rw[Zlc]
   unfold Zeb
   split
   ·rw[if_neg (by omega),Int.toNat_natCast]
   ·rfl
  rw[hQ1,ZbU (d:=Za) e,Zkn,Zjv,Zmk,Zjx,ZlO] at hR'
  simp only[decide_eq_true e',Int.toNat_natCast,cond_true,ZrX,List.length_map]
  have hJ:=Zmw V p i (by omega)
  have hpart:0≤eqJ V p i→eqQ V p i=((Zr V (p.take (eqJ V p i).toNat)).length:Int)∧(Zr V (p.take (eqJ V p i).toNat)).length < (Zr V (p.take i)).length∧((Zr V (p.take i)).map (Zaw V)).getD (eqQ V p i).toNat ZbX=Zaw V (p.getD (eqJ V p i).toNat Za):=fun h0=>by
   rcases hJ with h | ⟨_,h2,h3,h4⟩
   ·omega
   ·have hjl:(eqJ V p i).toNat < (p.take i).length:=by rw[List.length_take];omega
    have hg:(p.take i).getD (eqJ V p i).toNat Za=p.getD (eqJ V p i).toNat Za:=by
     rw[List.getD_eq_getElem?_getD,List.getD_eq_getElem?_getD,List.getElem?_take,if_pos (by omega)]
    have hk:=Zm0 (v:=V) (p:=p.take i) hjl (by rw[hg];exact h3)
    rw[List.take_take,Nat.min_eq_left (by omega),hg] at hk
    have hq:eqQ V p i=((Zr V (p.take (eqJ V p i).toNat)).length:Int):=by unfold eqQ;rw[if_neg (by omega)]
    refine⟨hq,hk.1,?_⟩
    rw[hq,Int.toNat_natCast,Ze9 (d:=Za) hk.1,hk.2.1]
  have hneg:eqQ V p i < 0↔eqJ V p i < 0:=by
   unfold eqQ
   split
   ·omega
   ·omega
  obtain⟨c,hq⟩:∃ c,p.getD i Za=c:=⟨_,rfl⟩
  simp only[hq] at hm hR' ⊢
  have hcn:=hN.c hm
  have hlen:(V:Int) < (c.2.2.1.length:Int):=by have:=hcn.2;omega
  have hcoef:c.2.2.1.getD V 0=Zd V c:=rfl
  have hoth:((c.1,(c.2.1,(ZcU c.2.2.1 V,c.2.2.2))):Zc)=Zc1 V c:=rfl
  have hpc:((c,(Zd V c,(ZcU c.2.2.1 V,c.2.2.2))):Part)=Zaw V c:=rfl
  simp only[hcoef,hoth,hpc]
  have hcb:=Zcv hcn.1 V
  have hfi:Zo IntKind.i64 ((i:Int)+1):=⟨by omega,by omega⟩
  have l0:(Zr V (p.take i)).length≤i:=ZcV i
  have l2:(Zf5 V (p.take i)).length≤i:=ZcV i
  have l3:(ZbQ V (p.take i)).length≤i:=ZcV i
  have l4:(upP V (p.take i)).length≤i:=ZcV i
  have l1':(ZbJ V (p.take i)).length≤i:=by unfold ZbJ;rw[List.length_map];exact ZcV i
  have hne:c.2.2.1≠([]:List Int):=fun h=>by rw[h] at hlen;simp at hlen;omega
  refine⟨⟨by omega,e'⟩,by omega,⟨by omega,by omega⟩,⟨hne,by omega,by omega,by omega⟩,⟨by omega,hlen⟩,?_⟩
  have obp:((((Zr V (p.take i)).length+List.length [Zaw V c])*88)≤140737488355328∧((Zr V (p.take i)).length+List.length [Zaw V c])≤9223372036854775807):=⟨by simp only[List.length_singleton];omega,by simp only[List.length_singleton];omega⟩
  by_cases h0:Zd V c=0
  ·rw[show (Zd V c == 0)=true by simpa using h0,cond_true]
   rw[if_neg (fun h=>h.1 h0),if_pos h0,if_neg (show ¬ (Zd V c≠0) from fun h=>h h0),if_neg (fun h=>h.1 h0),if_neg (fun h=>h.1 h0),if_neg (fun h=>h.1 h0),List.append_nil,List.append_nil,List.append_nil,List.append_nil] at hR'
   exact⟨⟨by simp only[List.length_singleton];omega,by simp only[List.length_singleton];omega⟩,hfi,hR'⟩
  ·rw[show (Zd V c == 0)=false by simpa using h0,cond_false]
   rw[if_neg (show ¬ Zd V c=0 from h0),List.append_nil,if_pos (show Zd V c≠0 from h0),List.map_append,List.map_cons,List.map_nil] at hR'
   by_cases h1:c.1=1
   ·rw[show (c.1 == 1)=true by simpa using h1,cond_true]
    rw[if_neg (show ¬ (Zd V c≠0∧c.1=2) from fun h=>by omega),if_neg (show ¬ (Zd V c≠0∧c.1≠1∧c.1≠2∧0 < Zd V c) from fun h=>h.2.1 h1),if_neg (show ¬ (Zd V c≠0∧c.1≠1∧c.1≠2∧¬ 0 < Zd V c) from fun h=>h.2.1 h1),List.append_nil,List.append_nil,List.append_nil] at hR'
    by_cases hE0:eqJ V p i < 0
    ·have hEq:eqQ V p i < 0:=hneg.2 hE0
     simp only[decide_eq_true hEq,Bool.not_true,Bool.true_or,cond_true]
     rw[if_pos ⟨h0,h1,.inl hE0⟩] at hR'
     simp only[Bool.false_eq_true,false_implies,true_and,Bool.true_eq_false]
     exact⟨obp,hfi,hR'⟩
    ·have hEq:¬ eqQ V p i < 0:=fun h=>hE0 (hneg.1 h)
     obtain⟨k1,k2,k3⟩:=hpart (by omega)
     have hjp:(eqJ V p i).toNat < p.length:=by rcases hJ with h | h<;>omega
     have hmE:=Zj (d:=Za) hjp
     obtain⟨ce,hce⟩:∃ ce,p.getD (eqJ V p i).toNat Za=ce:=⟨_,rfl⟩
     simp only[hce] at hmE hR' k3
     have hceb:=Zcv (hN.c hmE).1 V
     have hpce:(Zaw V ce).2.1=Zd V ce:=rfl
     simp only[k3,hpce,decide_eq_false hEq,Bool.not_false,Bool.false_or]
     have hcf:Zo IntKind.i64 (-Zd V c):=⟨by omega,by omega⟩
     have hcef:Zo IntKind.i64 (-Zd V ce):=⟨by omega,by omega⟩
     have hEr:(0:Int)≤eqQ V p i∧eqQ V p i < ((Zr V (p.take i)).length:Int):=⟨by omega,by omega⟩
     have hEn:(eqQ V p i).toNat < (Zr V (p.take i)).length:=by omega
     refine⟨fun h=>⟨h,hcf⟩,fun h=>⟨h,h,trivial⟩,fun h=>⟨h,trivial⟩,fun h=>⟨h,trivial⟩,fun h=>⟨h,h,hEr⟩,fun h=>⟨h,trivial⟩,fun h=>⟨h,hEn⟩,fun h=>⟨h,trivial⟩,fun h=>⟨h,trivial⟩,fun h=>⟨h,h,hEr⟩,fun h=>⟨h,trivial⟩,fun h=>⟨h,hEn⟩,fun h=>⟨h,hcef⟩,fun h=>⟨h,h,trivial⟩,fun h=>⟨h,h,trivial⟩,fun _=>trivial,?_⟩
     by_cases hlt:Za6 (Zd V c) < Za6 (Zd V ce)
     ·have hlt':Max.max (Zd V c) (-Zd V c) < Max.max (Zd V ce) (-Zd V ce):=hlt
      rw[decide_eq_true hlt',cond_true]
      rw[if_pos ⟨h0,h1,.inr hlt⟩] at hR'
      exact⟨obp,hfi,hR'⟩
     ·have hlt':¬ Max.max (Zd V c) (-Zd V c) < Max.max (Zd V ce) (-Zd V ce):=hlt
      rw[decide_eq_false hlt',cond_false]
      rw[if_neg (fun h=>h.2.2.elim hE0 hlt)] at hR'
      exact⟨obp,hfi,hR'⟩
   ·rw[show (c.1 == 1)=false by simpa using h1,cond_false]
    rw[if_neg (fun h=>h1 h.2.1)] at hR'
    by_cases h2:c.1=2
    ·rw[show (c.1 == 2)=true by simpa using h2,cond_true]
     rw[if_pos ⟨h0,h2⟩,if_neg (fun h=>h.2.2.1 h2),if_neg (fun h=>h.2.2.1 h2),List.append_nil,List.append_nil,List.map_append,List.map_cons,List.map_nil] at hR'
     exact⟨⟨by simp only[List.length_singleton];omega,by simp only[List.length_singleton];omega⟩,obp,hfi,hR'⟩
    ·rw[show (c.1 == 2)=false by simpa using h2,cond_false]
     rw[if_neg (show ¬ (Zd V c≠0∧c.1=2) from fun h=>h2 h.2),List.append_nil] at hR'
     by_cases hpos:0 < Zd V c
     ·rw[decide_eq_true hpos,cond_true]
      rw[if_pos ⟨h0,h1,h2,hpos⟩,if_neg (fun h=>h.2.2.2 hpos),List.append_nil,List.map_append,List.map_cons,List.map_nil] at hR'
      exact⟨⟨by simp only[List.length_singleton];omega,by simp only[List.length_singleton];omega⟩,obp,hfi,hR'⟩
     ·rw[decide_eq_false hpos,cond_false]
      rw[if_neg (fun h=>hpos h.2.2.2),if_pos ⟨h0,h1,h2,hpos⟩,List.append_nil,List.map_append,List.map_cons,List.map_nil] at hR'
      exact⟨⟨by simp only[List.length_singleton];omega,by simp only[List.length_singleton];omega⟩,obp,hfi,hR'⟩
 have hip:i=p.length:=by omega
 subst hip
 rw[decide_eq_false (Int.lt_irrefl _),cond_false,List.take_length]
 have hJ:=Zmw V p p.length (Nat.le_refl _)
 have hJe:eqJ V p p.length=eqI V p:=rfl
 rw[hJe] at hJ
 have hQe:eqQ V p p.length=if eqI V p < 0 then -1 else ((Zr V (p.take (eqI V p).toNat)).length:Int):=rfl
 have hle:∀ f:Zc→Bool,(p.filter f).length≤400:=fun f=>Nat.le_trans (List.length_filter_le _ _) h400
 have hPcB:∀ (n e:Int) (divs:List Part),PcB (N - 1) (n,ZbJ V p,(Zr V p).map (Zaw V),e,(ZbQ V p).map (Zaw V),(upP V p).map (Zaw V),divs):=fun n e divs=>by
  refine⟨Nat.le_trans Zcl h400,⟨by show ((Zr V p).map _).length≤400;rw[List.length_map];exact hle _,fun q hq=>?_⟩,⟨by show ((ZbQ V p).map _).length≤400;rw[List.length_map];exact hle _,fun q hq=>?_⟩,⟨by show ((upP V p).map _).length≤400;rw[List.length_map];exact hle _,fun q hq=>?_⟩⟩
  ·obtain⟨c,hc,rfl⟩:=List.mem_map.1 hq
   exact ZgH hN hV (ZaI.1 hc).1
  ·obtain⟨c,hc,rfl⟩:=List.mem_map.1 hq
   exact ZgH hN hV (List.mem_filter.1 hc).1
  ·obtain⟨c,hc,rfl⟩:=List.mem_map.1 hq
   exact ZgH hN hV (List.mem_filter.1 hc).1
 have h30:((3:Int) != (0:Int))=true:=rfl
 have h00:((0:Int) != (0:Int))=false:=rfl
 have one:∀ (q q':List Zc),ZaD q→Zac q=Zac q'→ZcQ p N V=some [q']→Lp (σ:=Int×(List (List (Zc)))×(ByteArray→Option Bool)) (fun y6 R6=>let v13:=List.getD [q] (Int.toNat y6.1) ([]:List (Zc));let v14:=Zp.fn ((Zb.fn (v13,())).1,());let v16:=[(Zb.fn (v13,())).1];cond (decide (y6.1 < ((List.length [q]:Nat):Int))) (((0:Int)≤y6.1∧y6.1 < ((List.length [q]:Nat):Int))∧(Zb.pre (v13,())∧cond (((Zb.fn (v13,())).2).2 != (0:Int)) (((!((0:Int) != (0:Int)))=true→((!((0:Int) != (0:Int)))=true∧True))∧((((0:Int) != (0:Int))=false→(!((0:Int) != (0:Int)))=true)∧cond (((0:Int) != (0:Int))||(((Zb.fn (v13,())).2).2 != (0:Int))) ((([]:List (List (Zc))),(3:Int))=ZS p N V) ((([]:List (List (Zc))),(0:Int))=ZS p N V))) (((!(((Zb.fn (v13,())).2).1))=true→((!(((Zb.fn (v13,())).2).1))=true∧Zp.pre ((Zb.fn (v13,())).1,())))∧(((!(((Zb.fn (v13,())).2).1))=true→((!(((Zb.fn (v13,())).2).1))=true∧((!(((Zb.fn (v13,())).2).1))=true∧True)))∧((((Zb.fn (v13,())).2).1=false→(!(((Zb.fn (v13,())).2).1))=true)∧cond (((Zb.fn (v13,())).2).1||(Option.getD (y6.2.2 v14) false)) (Zo IntKind.i64 (y6.1+(1:Int))∧R6 ((y6.1+(1:Int)),y6.2)) (Zp.pre ((Zb.fn (v13,())).1,())∧((((List.length y6.2.1+List.length v16)*24)≤140737488355328∧(List.length y6.2.1+List.length v16)≤9223372036854775807)∧cond (decide ((400:Int) < (((List.length (y6.2.1++v16)):Nat):Int))) (((!((0:Int) != (0:Int)))=true→((!((0:Int) != (0:Int)))=true∧True))∧((((0:Int) != (0:Int))=false→(!((0:Int) != (0:Int)))=true)∧(([]:List (List (Zc))),(3:Int))=ZS p N V)) (Zo IntKind.i64 (y6.1+(1:Int))∧R6 ((y6.1+(1:Int)),((y6.2.1++v16),ZdA y6.2.2 v14 true)))))))))) (((!((0:Int) != (0:Int)))=true→((!((0:Int) != (0:Int)))=true∧True))∧((((0:Int) != (0:Int))=false→(!((0:Int) != (0:Int)))=true)∧(y6.2.1,(0:Int))=ZS p N V))) ((0:Int),(([]:List (List (Zc))),fun (a6:ByteArray)=>(none:Option Bool))):=by
  intro q q' hB ht hS
  have hres:ZS p N V=match ZfG [q] with
   | none=>([],3)
   | some out=>(out,0):=by rw[hsh,hS,ZuO ht];exact hmade _
  refine Lp.tid [q] [] _ Zfe.nil (by simp) (by simp) (fun i out m R hi hi' hf hk hol h1 h2 h3=>?_) (fun out m R ht hk hol=>?_)
  ·have hi0:i=0:=by simpa using hi
   subst hi0
   have hg:List.getD [q] 0 []=q:=rfl
   rw[hg] at h1 h2 h3
   dsimp only
   rw[decide_eq_true hi',cond_true,Int.toNat_natCast,hg]
   refine⟨⟨by omega,hi'⟩,Ze0 hB hk hol (fun h4 hn=>?_) (fun hs=>⟨hf,h1 hs⟩) (fun hn=>?_) (fun hs=>⟨hf,h2 hs⟩)⟩
   ·have hn':ZfG [q]=none:=h3 hn
    simp only[h00,Zb.fn,h4,h30,Bool.or_true,cond_true]
    exact⟨fun h=>⟨h,trivial⟩,fun h=>rfl,by rw[hres,hn']⟩
   ·have hn':ZfG [q]=none:=h3 hn
    exact⟨fun h=>⟨h,trivial⟩,fun h=>by rw[h];rfl,by rw[hres,hn']⟩
  ·have ht':ZfG [q]=some out:=ht
   dsimp only
   rw[decide_eq_false (Int.lt_irrefl _),cond_false]
   exact⟨fun h=>⟨h,trivial⟩,fun h=>by rw[h];rfl,by rw[hres,ht']⟩
 by_cases hE:0≤eqI V p
 ·rcases hJ with h | ⟨h1,h2,h3,h4⟩
  ·omega
  ·have hQv:eqQ V p p.length=((Zr V (p.take (eqI V p).toNat)).length:Int):=by rw[hQe,if_neg (by omega)]
   have hjp:(eqI V p).toNat < p.length:=by omega
   obtain⟨k1,_,_⟩:=Zm0 hjp h3
   have hS:ZcQ p N V=some [Zcz V p (eqI V p).toNat]:=by unfold ZcQ;rw[if_pos hE]
   rw[hQv,decide_eq_true (show (0:Int)≤((Zr V (p.take (eqI V p).toNat)).length:Int) by omega),cond_true]
   obtain⟨b1,b2⟩:=Zm1 hN hV hjp h3 ((N:Int) - 1) ((ZbQ V p).map (Zaw V)) ((upP V p).map (Zaw V)) ((Zf5 V p).map (Zaw V))
   refine⟨⟨⟨N - 1,hPcB _ _ _⟩,by show (0:Int)≤((Zr V (p.take (eqI V p).toNat)).length:Int);omega,by show ((Zr V (p.take (eqI V p).toNat)).length:Int) < (((Zr V p).map (Zaw V)).length:Int);rw[List.length_map];omega⟩,?_⟩
   exact one _ _ b1 b2 hS
 ·have hQv:eqQ V p p.length=-1:=by rw[hQe,if_pos (by omega)]
  rw[hQv,decide_eq_false (show ¬ (0:Int)≤-1 by omega),cond_false]
  have tried:¬ (Zf5 V p=[]∧(ZbQ V p=[]∨upP V p=[]))→Zg3 V p=false→∀ e,ZeE ((N:Int) - 1) (ZbJ V p) ((Zr V p).map (Zaw V)) e ((ZbQ V p).map (Zaw V)) ((upP V p).map (Zaw V)) ((Zf5 V p).map (Zaw V)) (fun r=>r=ZS p N V):=fun hA hX e=>by
   refine ZeE.spec hN hV e _ fun r hr=>?_
   have hS:ZcQ p N V=if (Zbs V p).2≠0 then none else if (ZeS V p (Zbs V p).1).2≠0 then none else some (Zb1 V p (N - 1) (Zbs V p).1 (ZeS V p (Zbs V p).1).1.toNat):=by
    unfold ZcQ;rw[if_neg hE,if_neg hA,if_neg (by rw[hX];simp)]
   rw[hr,hsh,hS]
   split
   ·rfl
   ·split
    ·rfl
    ·rfl
  by_cases hD:Zf5 V p=[]
  rotate_left
  ·have hdl:(0:Int) < ((((Zf5 V p).map (Zaw V)).length:Nat):Int):=by
    rw[List.length_map]
    have:(Zf5 V p).length≠0:=fun h=>hD (List.eq_nil_of_length_eq_zero h)
    omega
   rw[decide_eq_true hdl,cond_true]
   refine tried (fun h=>hD h.1) ?_ (-1)
   unfold Zg3
   cases hh:Zf5 V p with
   | nil=>exact absurd hh hD
   | cons x l=>rfl
  have hdl:¬ (0:Int) < ((((Zf5 V p).map (Zaw V)).length:Nat):Int):=by rw[hD];simp
  rw[decide_eq_false hdl,cond_false]
  have hlowlen:(ZbQ V p).length≤400:=hle _
  have huplen:(upP V p).length≤400:=hle _
  refine Lp.iter (ZbQ V p).length (fun i z=>z=(i:Int)∧∀ a,a < i→∀ b,b < (upP V p).length→Zd V ((ZbQ V p).getD a Za)=1∨Zd V ((upP V p).getD b Za)=-1) ⟨rfl,fun a ha=>absurd ha (by omega)⟩ ?_
  rintro i z hi ⟨rfl,hdone⟩ R1 hR1
  dsimp only
  by_cases e:i < (ZbQ V p).length
  ·have e':(i:Int) < ((((ZbQ V p).map (Zaw V)).length:Nat):Int):=by rw[List.length_map];omega
   have hgl:((ZbQ V p).map (Zaw V)).getD i ZbX=Zaw V ((ZbQ V p).getD i Za):=Ze9 e
   rw[decide_eq_true e',cond_true,Int.toNat_natCast,hgl]
   refine⟨⟨by omega,e'⟩,?_⟩
   have hcx:(Zaw V ((ZbQ V p).getD i Za)).2.1=Zd V ((ZbQ V p).getD i Za):=rfl
   rw[hcx]
   refine Lp.iter (upP V p).length (fun j z=>z=(j:Int)∧∀ b,b < j→Zd V ((ZbQ V p).getD i Za)=1∨Zd V ((upP V p).getD b Za)=-1) ⟨rfl,fun a ha=>absurd ha (by omega)⟩ ?_
   rintro j z hj ⟨rfl,hdj⟩ R2 hR2
   by_cases ej:j < (upP V p).length
   ·have ej':(j:Int) < ((((upP V p).map (Zaw V)).length:Nat):Int):=by rw[List.length_map];omega
    have hgu:((upP V p).map (Zaw V)).getD j ZbX=Zaw V ((upP V p).getD j Za):=Ze9 ej
    have hcy:(Zaw V ((upP V p).getD j Za)).2.1=Zd V ((upP V p).getD j Za):=rfl
    rw[decide_eq_true ej',cond_true,Int.toNat_natCast,hgu,hcy]
    refine⟨⟨by omega,ej'⟩,fun h=>⟨h,trivial⟩,fun h=>⟨h,trivial⟩,fun h=>h,?_⟩
    by_cases hb:Zd V ((ZbQ V p).getD i Za)=1∨Zd V ((upP V p).getD j Za)=-1
    ·have hc:(Zd V ((ZbQ V p).getD i Za) != 1&&Zd V ((upP V p).getD j Za) != -(1:Int))=false:=by
      rw[Bool.and_eq_false_iff]
      exact hb.imp (fun h=>by rw[h];rfl) (fun h=>by rw[h];rfl)
     rw[hc,cond_false]
     refine⟨⟨by omega,by omega⟩,hR2 ej _ ⟨rfl,fun b hbj=>?_⟩⟩
     by_cases hbe:b=j
     ·subst hbe;exact hb
     ·exact hdj b (by omega)
    ·have hc:(Zd V ((ZbQ V p).getD i Za) != 1&&Zd V ((upP V p).getD j Za) != -(1:Int))=true:=by
      simp only[not_or] at hb
      rw[Bool.and_eq_true]
      exact⟨by simpa using hb.1,by simpa using hb.2⟩
     rw[hc,cond_true]
     refine tried (fun h=>?_) ?_ (-1)
     ·rcases h.2 with h | h
      ·rw[h] at e;simp at e
      ·rw[h] at ej;simp at ej
     ·unfold Zg3
      rw[Bool.and_eq_false_iff]
      right
      rw[List.all_eq_false]
      refine⟨_,Zj (d:=Za) e,?_⟩
      rw[Bool.not_eq_true,List.all_eq_false]
      refine⟨_,Zj (d:=Za) ej,by simpa using hb⟩
   ·have:j=(upP V p).length:=by omega
    subst this
    rw[decide_eq_false (by rw[List.length_map];omega),cond_false]
    refine⟨⟨by omega,by omega⟩,hR1 e _ ⟨rfl,fun a ha b hb=>?_⟩⟩
    by_cases hae:a=i
    ·subst hae;exact hdj b hb
    ·exact hdone a (by omega) b hb
  ·have:i=(ZbQ V p).length:=by omega
   subst this
   rw[decide_eq_false (by rw[List.length_map];omega),cond_false]
   have hpaired:Zw.fn (((N:Int) - 1,ZbJ V p,(Zr V p).map (Zaw V),(-1:Int),(ZbQ V p).map (Zaw V),(upP V p).map (Zaw V),(Zf5 V p).map (Zaw V)),())=[Zjm V p]:=by
    show [ZbJ V p++((ZbQ V p).map (Zaw V)).flatMap fun l=>((upP V p).map (Zaw V)).map fun u=>((0:Int),(0:Int),Zck l.2.1 u.2.2 (-u.2.1) l.2.2)]=_
    unfold Zjm
    rw[List.flatMap_map]
    congr 2
    congr 1
    funext x
    rw[List.map_map]
    rfl
   have hX:Zg3 V p=true:=by
    unfold Zg3
    rw[hD,Bool.and_eq_true]
    refine⟨rfl,List.all_eq_true.2 fun x hx=>List.all_eq_true.2 fun y hy=>?_⟩
    obtain⟨a,ha,rfl⟩:=ZbR (d:=Za) hx
    obtain⟨b,hb,rfl⟩:=ZbR (d:=Za) hy
    simpa using hdone a ha b hb
   have hS:ZcQ p N V=some [Zjm V p]:=by
    unfold ZcQ
    rw[if_neg hE]
    by_cases hA:Zf5 V p=[]∧(ZbQ V p=[]∨upP V p=[])
    ·rw[if_pos hA]
     have:Zjm V p=ZbJ V p:=by
      unfold Zjm
      rcases hA.2 with h | h
      ·rw[h];simp
      ·rw[h];simp
     rw[this]
    ·rw[if_neg hA,if_pos hX]
   refine⟨⟨N - 1,hPcB _ _ _⟩,?_⟩
   rw[hpaired]
   exact one _ _ (ZgT hN (v:=V) (by omega)).D.1 rfl hS
abbrev ZbA.fn(x:Int×List Int×Unit):Zc:=(0,0,x.2.1,x.1)
abbrev Zai.fn(x:Int×Int×Unit):List Zc:=[(2,x.1,[1],x.2.1)]
abbrev Zbz.fn(x:ZbK×Int×ZbK×Int×Unit):Bool:=decide (x.2.1=x.2.2.2.1)&&decide (x.1=x.2.2.1)
abbrev Zy.fn(x:Unit):Bool:=true
def Ztb(s:ZbK):Int:=s.2.foldl (fun m p=>max m (p.length:Int)) 0
def ZrU(pieces conds vars:Int)(l:List ZbK):Bool:=ZU.fn (pieces,conds,l,())&&l.all fun s=>!(decide (vars < s.1)&&decide (s.1≤12)&&decide (1 < Ztb s)) &&
 s.2.all fun p=>p.all fun c=>(c.2.2.1.all fun n=>!((decide (6 < n)||decide (n < -6))&&Zl s))&&!(decide (12 < c.2.1)&&Zl s)
abbrev ZA.fn(x:Int×Int×Int×List ZbK×Unit):Bool:=ZrU x.1 x.2.1 x.2.2.1 x.2.2.2.1
abbrev Zbn.fn(x:List Zc×Unit):List Zc:=x.1
abbrev Zbn.pre(x:List Zc×Unit):Prop:=x.1.length≤4096∧∀ c∈x.1,c.2.2.1.length≤4096
def Zc0(on:Nat→Bool):Nat→ZbK→ZbK×Int
 | 0,s=>(s,0)
 | v+1,s=>if on v=true then if (Zci s (v:Int)).2≠0 then ((0,[]),(Zci s (v:Int)).2) else Zc0 on v (Zci s (v:Int)).1 else Zc0 on v s
def Zec(s:ZbK)(l:List Int):ZbK×Int:=if Zl s=false then ((0,[]),1) else if Zds s.1 l=false then ((0,[]),6) else Zc0 (fun v=>decide ((v:Int)∈l)) s.1.toNat s
abbrev Za0.fn(x:ZbK×List Int×Unit):ZbK×Int:=Zec x.1 x.2.1
abbrev ZaJ.fn(x:ZbK×List Int×Unit):ZbK×Int:=Zec x.1 x.2.1
def Zne(s:ZbK)(k:Int):ZbK×Int:=if Zl s=false then ((0,[]),1) else if k < 0∨s.1 < k then ((0,[]),6) else Zec s ((List.range (s.1 - k).toNat).map fun (i:Nat)=>k+(i:Int))
abbrev Zbk.fn(x:ZbK×Int×Unit):ZbK×Int:=Zne x.1 x.2.1
abbrev Zbo.fn(x:ZbK×Int×Unit):ZbK×Int:=Zne x.1 x.2.1
def Za4.wp(x0:Int×(List (List Zc)))(x1:Int)(Q:(Int×(List (List Zc)))×Int→Prop):Prop:=let v0:=List.length (((Zag.fn (x0,())).1).2);cond (!(ZaB.fn (x0,()))) (Q (((0:Int),([]:List (List (Zc)))),(1:Int))) (((!(decide (x1 < (0:Int))))=true→((!(decide (x1 < (0:Int))))=true∧True))∧(((!(decide (x1 < (0:Int))))=true→((!(decide (x1 < (0:Int))))=true∧((!(decide (x1 < (0:Int))))=true∧True)))∧((decide (x1 < (0:Int))=false→(!(decide (x1 < (0:Int))))=true)∧cond (decide (x1 < (0:Int))||decide (x0.1≤x1)) (Q (((0:Int),([]:List (List (Zc)))),(6:Int))) (cond ((Zag.fn (x0,())).2 != (0:Int)) (Q (((0:Int),([]:List (List (Zc)))),(Zag.fn (x0,())).2)) (Lp (σ:=Int×List (List (Zc))) (fun y3 R3=>let v1:=List.getD (((Zag.fn (x0,())).1).2) (Int.toNat y3.1) ([]:List (Zc));let v2:=ZQ.fn (v1,(x0.1,(x1,())));cond (decide (y3.1 < ((v0:Nat):Int))) (((0:Int)≤y3.1∧y3.1 < ((v0:Nat):Int))∧(ZQ.pre (v1,(x0.1,(x1,())))∧cond (v2.2 != (0:Int)) (Q (((0:Int),([]:List (List (Zc)))),v2.2)) ((((List.length y3.2+List.length v2.1)*24)≤140737488355328∧(List.length y3.2+List.length v2.1)≤9223372036854775807)∧(Zo IntKind.i64 (y3.1+(1:Int))∧R3 ((y3.1+(1:Int)),(y3.2++v2.1)))))) (Lp (σ:=Int×(List (List (Zc)))×(ByteArray→Option Bool)) (fun y5 R5=>let v3:=List.getD y3.2 (Int.toNat y5.1) ([]:List (Zc));let v4:=Zp.fn ((Zb.fn (v3,())).1,());let v6:=[(Zb.fn (v3,())).1];cond (decide (y5.1 < ((List.length y3.2:Nat):Int))) (((0:Int)≤y5.1∧y5.1 < ((List.length y3.2:Nat):Int))∧(Zb.pre (v3,())∧cond (((Zb.fn (v3,())).2).2 != (0:Int)) (cond (((Zb.fn (v3,())).2).2 != (0:Int)) (Q (((0:Int),([]:List (List (Zc)))),((Zb.fn (v3,())).2).2)) (Zo IntKind.i64 (x0.1 - (1:Int))∧Q (((x0.1 - (1:Int)),([]:List (List (Zc)))),(0:Int)))) (((!(((Zb.fn (v3,())).2).1))=true→((!(((Zb.fn (v3,())).2).1))=true∧Zp.pre ((Zb.fn (v3,())).1,())))∧(((!(((Zb.fn (v3,())).2).1))=true→((!(((Zb.fn (v3,())).2).1))=true∧((!(((Zb.fn (v3,())).2).1))=true∧True)))∧((((Zb.fn (v3,())).2).1=false→(!(((Zb.fn (v3,())).2).1))=true)∧cond (((Zb.fn (v3,())).2).1||(Option.getD (y5.2.2 v4) false)) (Zo IntKind.i64 (y5.1+(1:Int))∧R5 ((y5.1+(1:Int)),y5.2)) (Zp.pre ((Zb.fn (v3,())).1,())∧((((List.length y5.2.1+List.length v6)*24)≤140737488355328∧(List.length y5.2.1+List.length v6)≤9223372036854775807)∧cond (decide ((400:Int) < (((List.length (y5.2.1++v6)):Nat):Int))) (Q (((0:Int),([]:List (List (Zc)))),(3:Int))) (Zo IntKind.i64 (y5.1+(1:Int))∧R5 ((y5.1+(1:Int)),((y5.2.1++v6),ZdA y5.2.2 v4 true)))))))))) (Zo IntKind.i64 (x0.1 - (1:Int))∧Q (((x0.1 - (1:Int)),y5.2.1),(0:Int)))) ((0:Int),(([]:List (List (Zc))),fun (a5:ByteArray)=>(none:Option Bool))))) ((0:Int),([]:List (List (Zc)))))))))
def Za5.wp(x0:Int×(List (List Zc)))(x1:Int)(Q:(Int×(List (List Zc)))×Int→Prop):Prop:=let v0:=Zax.fn (x0,());cond (!(ZZ.fn (x0,()))) (Q (((0:Int),([]:List (List (Zc)))),(1:Int))) (((!(decide (x1 < (0:Int))))=true→((!(decide (x1 < (0:Int))))=true∧True))∧(((!(decide (x1 < (0:Int))))=true→((!(decide (x1 < (0:Int))))=true∧((!(decide (x1 < (0:Int))))=true∧True)))∧((decide (x1 < (0:Int))=false→(!(decide (x1 < (0:Int))))=true)∧cond (decide (x1 < (0:Int))||decide (x0.1≤x1)) (Q (((0:Int),([]:List (List (Zc)))),(6:Int))) (cond (v0.2 != (0:Int)) (Q (((0:Int),([]:List (List (Zc)))),v0.2)) (Lp (σ:=Int×List (List (Zc))) (fun y3 R3=>let v1:=List.getD v0.1.2 (Int.toNat y3.1) ([]:List (Zc));let v2:=Z1.fn (v1,(x0.1,(x1,())));cond (decide (y3.1 < ((List.length v0.1.2:Nat):Int))) (((0:Int)≤y3.1∧y3.1 < ((List.length v0.1.2:Nat):Int))∧(Z1.pre (v1,(x0.1,(x1,())))∧cond (v2.2 != (0:Int)) (Q (((0:Int),([]:List (List (Zc)))),v2.2)) ((((List.length y3.2+List.length v2.1)*24)≤140737488355328∧(List.length y3.2+List.length v2.1)≤9223372036854775807)∧(Zo IntKind.i64 (y3.1+(1:Int))∧R3 ((y3.1+(1:Int)),(y3.2++v2.1)))))) (Zo IntKind.i64 (x0.1 - (1:Int))∧(Zaq.pre ((x0.1 - (1:Int)),(y3.2,()))∧Q (Zaq.fn ((x0.1 - (1:Int)),(y3.2,())))))) ((0:Int),([]:List (List (Zc)))))))))
def ZaK.wp(N:Nat)(x0:List Zc)(x1:Int)(x2:ByteArray→Option Bool)(Q:Bool×Int→(ByteArray→Option Bool)→Prop):Prop:=let v2:=Zan.fn (x0,(x1,()));let v3:=ZQ.fn (x0,(x1,(v2,())));cond (x1 == (0:Int)) (Q (true,(0:Int)) x2) (Zp.pre (x0,())∧cond (Option.isSome (x2 (Zp.fn (x0,())))) (Q ((Option.getD (x2 (Zp.fn (x0,()))) false),(0:Int)) x2) (Zan.pre (x0,(x1,()))∧(ZQ.pre (x0,(x1,(v2,())))∧cond (v3.2 != (0:Int)) (Q (false,v3.2) x2) (Lp (σ:=Int×(ByteArray→Option Bool)) (fun y5 R5=>let v4:=List.getD v3.1 (Int.toNat y5.1) ([]:List (Zc));cond (decide (y5.1 < ((List.length v3.1:Nat):Int))) (((0:Int)≤y5.1∧y5.1 < ((List.length v3.1:Nat):Int))∧(Zo IntKind.i64 (x1 - (1:Int))∧(ZdV N (v4,(x1 - (1:Int))) y5.2∧∀ b7:Bool×Int,∀ b8:(ByteArray→Option Bool),(Zc3 (v4,(x1 - (1:Int))) y5.2 b7 b8→cond (b7.2 != (0:Int)) (Q (false,b7.2) b8) (cond b7.1 (Q (true,(0:Int)) (ZdA b8 (Zp.fn (x0,())) true)) (Zo IntKind.i64 (y5.1+(1:Int))∧R5 ((y5.1+(1:Int)),b8))))))) (Q (false,(0:Int)) (ZdA y5.2 (Zp.fn (x0,())) false))) ((0:Int),x2)))))
def ZaZ.wp(x0:Int×(List (List Zc)))(Q:Bool×Int→Prop):Prop:=let v0:=List.length (((Zag.fn (x0,())).1).2);cond (!(ZaB.fn (x0,()))) (Q (false,(1:Int))) (cond ((Zag.fn (x0,())).2 != (0:Int)) (Q (false,(Zag.fn (x0,())).2)) (Lp (σ:=Int×(ByteArray→Option Bool)) (fun y2 R2=>let v1:=List.getD (((Zag.fn (x0,())).1).2) (Int.toNat y2.1) ([]:List (Zc));cond (decide (y2.1 < ((v0:Nat):Int))) (((0:Int)≤y2.1∧y2.1 < ((v0:Nat):Int))∧(Zj7 (v1,x0.1) y2.2∧∀ b4:Bool×Int,∀ b5:(ByteArray→Option Bool),(Zc3 (v1,x0.1) y2.2 b4 b5→(((b4.2 != (0:Int))=false→(!(b4.2 != (0:Int)))=true)∧cond ((b4.2 != (0:Int))||b4.1) (Q (false,b4.2)) (Zo IntKind.i64 (y2.1+(1:Int))∧R2 ((y2.1+(1:Int)),b5)))))) (Q (true,(0:Int)))) ((0:Int),fun (a2:ByteArray)=>(none:Option Bool))))
def ZbA.wp(x0:Int)(x1:List Int)(Q:Zc→Prop):Prop:=Q ((0:Int),((0:Int),(x1,x0)))
def Zai.wp(x0:Int)(x1:Int)(Q:(List Zc)→Prop):Prop:=Q ([((2:Int),(x0,([(1:Int)],x1)))])
def Zbz.wp(x0:Int×(List (List Zc)))(x1:Int)(x2:Int×(List (List Zc)))(x3:Int)(Q:Bool→Prop):Prop:=(((x1 == x3)=true→((x1 == x3)=true∧((x1 == x3)=true∧True)))∧(((x1 == x3)=true→(x1 == x3)=true)∧Q ((x1 == x3)&&(ZaG.fn (x0,(x2,()))))))
def ZA.wp(x0:Int)(x1:Int)(x2:Int)(x3:List (Int×(List (List Zc))))(Q:Bool→Prop):Prop:=cond (!(ZU.fn (x0,(x1,(x3,()))))) (Q false) (Lp (σ:=Int) (fun y5 R5=>let v1:=List.getD x3 (Int.toNat y5) ((0:Int),([]:List (List (Zc))));let v7:=ZZ.fn (v1,());cond (decide (y5 < ((List.length x3:Nat):Int))) (((0:Int)≤y5∧y5 < ((List.length x3:Nat):Int))∧Lp (σ:=Int×Int) (fun y7 R7=>cond (decide (y7.1 < ((List.length v1.2:Nat):Int))) (((0:Int)≤y7.1∧y7.1 < ((List.length v1.2:Nat):Int))∧(Zo IntKind.i64 (y7.1+(1:Int))∧R7 ((y7.1+(1:Int)),(Max.max y7.2 ((List.length (List.getD v1.2 (Int.toNat y7.1) ([]:List (Zc))):Nat):Int))))) ((decide (x2 < v1.1)=true→(decide (x2 < v1.1)=true∧True))∧((decide (x2 < v1.1)=true→(decide (x2 < v1.1)=true∧True))∧((decide (x2 < v1.1)=true→decide (x2 < v1.1)=true)∧(((decide (x2 < v1.1)&&decide (v1.1≤(12:Int)))=true→((decide (x2 < v1.1)&&decide (v1.1≤(12:Int)))=true∧True))∧(((decide (x2 < v1.1)&&decide (v1.1≤(12:Int)))=true→(decide (x2 < v1.1)&&decide (v1.1≤(12:Int)))=true)∧cond ((decide (x2 < v1.1)&&decide (v1.1≤(12:Int)))&&decide ((1:Int) < y7.2)) (Q false) (Lp (σ:=Int) (fun y9 R9=>let v4:=List.getD v1.2 (Int.toNat y9) ([]:List (Zc));cond (decide (y9 < ((List.length v1.2:Nat):Int))) (((0:Int)≤y9∧y9 < ((List.length v1.2:Nat):Int))∧Lp (σ:=Int) (fun y11 R11=>let v5:=List.getD v4 (Int.toNat y11) Za;cond (decide (y11 < ((List.length v4:Nat):Int))) (((0:Int)≤y11∧y11 < ((List.length v4:Nat):Int))∧Lp (σ:=Int) (fun y13 R13=>let v6:=List.getD v5.2.2.1 (Int.toNat y13) (0:Int);cond (decide (y13 < ((List.length v5.2.2.1:Nat):Int))) (((0:Int)≤y13∧y13 < ((List.length v5.2.2.1:Nat):Int))∧(((!(decide ((6:Int) < v6)))=true→((!(decide ((6:Int) < v6)))=true∧True))∧((decide ((6:Int) < v6)=false→(!(decide ((6:Int) < v6)))=true)∧(((decide ((6:Int) < v6)||decide (v6 < (-(6:Int))))=true→((decide ((6:Int) < v6)||decide (v6 < (-(6:Int))))=true∧True))∧(((decide ((6:Int) < v6)||decide (v6 < (-(6:Int))))=true→(decide ((6:Int) < v6)||decide (v6 < (-(6:Int))))=true)∧cond ((decide ((6:Int) < v6)||decide (v6 < (-(6:Int))))&&v7) (Q false) (Zo IntKind.i64 (y13+(1:Int))∧R13 (y13+(1:Int)))))))) ((decide ((12:Int) < v5.2.1)=true→(decide ((12:Int) < v5.2.1)=true∧True))∧((decide ((12:Int) < v5.2.1)=true→decide ((12:Int) < v5.2.1)=true)∧cond (decide ((12:Int) < v5.2.1)&&v7) (Q false) (Zo IntKind.i64 (y11+(1:Int))∧R11 (y11+(1:Int)))))) (0:Int)) (Zo IntKind.i64 (y9+(1:Int))∧R9 (y9+(1:Int)))) (0:Int)) (Zo IntKind.i64 (y5+(1:Int))∧R5 (y5+(1:Int)))) (0:Int)))))))) ((0:Int),(0:Int))) (Q true)) (0:Int))
theorem ZnB(p:List Zc)(n v:Int):(ZS p n v).2=0∨(ZS p n v).2=3:=by
 unfold ZS
 rcases Z9 (ZcQ p n.toNat v.toNat) with e | ⟨l,e⟩
 ·rw[e];exact .inr rfl
 ·simp only[e]
  unfold Zed
  rcases Z9 (ZfG l) with e | ⟨l,e⟩
  ·rw[e];exact .inr rfl
  ·rw[e];exact .inl rfl
theorem ZkB{p:List Zc}{n v:Int}(h:¬ (ZS p n v).2=0):(ZS p n v).2=3:=(ZnB p n v).resolve_left h
def ZeP(n v:Int)(all:List (List Zc))(p:List Zc):Option (List (List Zc)):=if (ZS p n v).2≠0 then none else some (all++(ZS p n v).1)
theorem Zln{n v:Int}(hv0:0≤v)(hv:v < n):∀ {l a b:List (List Zc)},(∀ q∈l,pieceN q n)→l.foldlM (ZeP n v) a=some b→(∀ q∈a,ZaD q∧Zek q (n.toNat - 1))→b.length≤a.length+400*l.length∧∀ q∈b,ZaD q∧Zek q (n.toNat - 1)
 | [],a,b,_,h,ha=>by cases h;exact⟨by simp,ha⟩
 | p::l,a,b,hl,h,ha=>by
   rw[List.foldlM_cons] at h
   obtain⟨o,h1,h2⟩:=Option.bind_eq_some_iff.1 h
   unfold ZeP at h1
   split at h1
   ·cases h1
   ·rename_i h0
    cases h1
    obtain⟨k1,_⟩:=Ze3 (hl p (by simp)) hv0 hv (by simpa using h0)
    obtain⟨j1,j2⟩:=Zln hv0 hv (fun q hq=>hl q (List.mem_cons_of_mem _ hq)) h2 (fun q hq=>by
     rcases List.mem_append.1 hq with hq | hq
     ·exact ha q hq
     ·exact⟨(k1.at hq).1.B,(k1.at hq).2⟩)
    refine⟨?_,j2⟩
    have:=k1.1.1
    simp only[List.length_append] at j1
    simp only[List.length_cons];omega
theorem Zpz(n v:Int)(l:List (List Zc)):ZhS n v l=l.foldlM (ZeP n v) []:=rfl
theorem Zie{s:ZbK}(h:(Zaz s).2=0):Zl s=true:=by
 cases hv:Zl s with
 | true=>rfl
 | false=>unfold Zaz at h;rw[if_pos hv] at h;cases h
theorem Zhm{s:ZbK}(h:(Zaz s).2=0){q:List Zc}(hq:q∈(Zaz s).1.2):pieceN q s.1:=by
 have hb:=Zl.b (Zie h)
 have:=(Zlu h).pieceN (by omega) hq
 rwa [Int.toNat_of_nonneg hb.1] at this
theorem ZnZ {s : ZbK} {v : Int} (hn : (Zaz s).2 = 0) (hv0 : 0 ≤ v) (hv : v < s.1) {body : Int × List (List Zc) → (Int × List (List Zc) → Prop) → Prop}
 (h:∀ (i:Nat) (t:List (List Zc)) (R:Int×List (List Zc)→Prop),(i:Int) < ((Zaz s).1.2.length:Int)→Zo .i64 ((i:Int)+1)→ZQ.pre ((Zaz s).1.2.getD i [],s.1,v,()) →
  (Zci s v=((0,[]),3)→(ZS ((Zaz s).1.2.getD i []) s.1 v).2≠0→(ZS ((Zaz s).1.2.getD i []) s.1 v).2=3→body ((i:Int),t) R) ∧
  ((ZS ((Zaz s).1.2.getD i []) s.1 v).2=0→t.length+(ZS ((Zaz s).1.2.getD i []) s.1 v).1.length≤4194304→R ((i:Int)+1,t++(ZS ((Zaz s).1.2.getD i []) s.1 v).1)→body ((i:Int),t) R))
 (h2:∀ (t:List (List Zc)) (R:Int×List (List Zc)→Prop),Zci s v=ZgW (s.1 - 1) (ZfG t)→t.length≤4194304→(∀ q∈t,ZaD q∧Zek q (s.1.toNat - 1))→body (((Zaz s).1.2.length:Int),t) R):Lp body (0,[]):=by
 have hval:=Zie hn
 have hE:Zci s v=match ZhS s.1 v (Zaz s).1.2 with
  | none=>((0,[]),3)
  | some all=>ZgW (s.1 - 1) (ZfG all):=by
  unfold Zci
  rw[if_neg (by rw[hval];simp),if_neg (by omega),if_neg (by omega)]
  cases ZhS s.1 v (Zaz s).1.2<;>rfl
 have hlen:(Zaz s).1.2.length≤400:=(Zlu hn).1.1
 have hall:∀ q∈(Zaz s).1.2,pieceN q s.1:=fun q hq=>Zhm hn hq
 rw[Zpz] at hE
 refine Lp.foldO (Zaz s).1.2 [] (ZeP s.1 v) [] (by omega) (fun i t R hi hi' hf ht hs hno=>?_) (fun t R ht=>?_)
 ·have hq:=Zj (d:=[]) hi
  obtain⟨g1,g2⟩:=h i t R hi' hf ⟨hall _ hq,hv0,hv⟩
  have htk:=(Zln hv0 hv (fun q hq=>hall q (List.mem_of_mem_take hq)) ht (by simp)).1
  have:((Zaz s).1.2.take i).length≤400:=by rw[List.length_take];omega
  simp only[List.length_nil] at htk
  by_cases h0:(ZS ((Zaz s).1.2.getD i []) s.1 v).2=0
  ·have hl:=(Ze3 (hall _ hq) hv0 hv h0).1.1.1
   refine g2 h0 (by omega) (hs _ ?_)
   unfold ZeP
   rw[if_neg (by omega)]
  ·refine g1 ?_ h0 (ZkB h0)
   rw[hE,hno (by unfold ZeP;rw[if_pos h0])]
 ·obtain⟨k1,k2⟩:=Zln hv0 hv hall ht (by simp)
  simp only[List.length_nil] at k1
  exact h2 t R (by rw[hE,ht]) (by omega) k2
theorem Za4.spec(s:ZbK)(v:Int):Za4.wp s v (fun r=>r=Za4.fn (s,v,())):=by
 unfold Za4.wp
 dsimp only
 rw[show Za4.fn (s,v,())=Zci s v from rfl,show ZaB.fn (s,())=Zl s from rfl,show Zag.fn (s,())=Zaz s from rfl]
 cases hval:Zl s with
 | false =>
   simp only[Bool.not_false,cond_true]
   unfold Zci;rw[if_pos hval]
 | true =>
   have hb:=Zl.b hval
   simp only[Bool.not_true,cond_false]
   refine⟨fun h=>⟨h,trivial⟩,fun h=>⟨h,h,trivial⟩,fun h=>by rw[h];rfl,?_⟩
   by_cases hr:v < 0∨s.1≤v
   ·rw[show (decide (v < 0)||decide (s.1≤v))=true by rw[← Bool.decide_or,decide_eq_true hr],cond_true]
    unfold Zci;rw[if_neg (by rw[hval];simp),if_pos hr]
   ·rw[show (decide (v < 0)||decide (s.1≤v))=false by rw[← Bool.decide_or,decide_eq_false hr],cond_false]
    by_cases hn:(Zaz s).2=0
    ·rw[show ((Zaz s).2 != 0)=false by rw[hn];rfl,cond_false]
     refine ZnZ hn (v:=v) (by omega) (by omega) (fun i t R hi hf hp=>⟨fun h1 h2 h3=>?_,fun h1 h2 hR=>?_⟩) (fun t R ht htl htp=>?_)
     ·dsimp only
      rw[decide_eq_true hi,cond_true,Int.toNat_natCast]
      refine⟨⟨by omega,hi⟩,hp,?_⟩
      rw[show ZQ.fn ((Zaz s).1.2.getD i [],s.1,v,())=ZS ((Zaz s).1.2.getD i []) s.1 v from rfl,bne_iff_ne.2 h2,cond_true,h3,h1]
     ·dsimp only
      rw[decide_eq_true hi,cond_true,Int.toNat_natCast]
      refine⟨⟨by omega,hi⟩,hp,?_⟩
      rw[show ZQ.fn ((Zaz s).1.2.getD i [],s.1,v,())=ZS ((Zaz s).1.2.getD i []) s.1 v from rfl,h1,show ((0:Int) != 0)=false from rfl,cond_false]
      exact⟨⟨by omega,by omega⟩,hf,hR⟩
     ·dsimp only
      rw[decide_eq_false (Int.lt_irrefl _),cond_false]
      have hfits:Zo IntKind.i64 (s.1 - 1):=⟨by omega,by omega⟩
      refine Lp.tid t [] _ Zfe.nil (by simp) (by omega) (fun i out m R hi hi' hf hk hol h1 h2 h3=>?_) (fun out m R ht2 hk hol=>?_)
      ·dsimp only
       rw[decide_eq_true hi',cond_true,Int.toNat_natCast]
       have hres:=fun hn=>ht.trans (show ZgW (s.1 - 1) (ZfG t)=((0,[]),3) by rw[show ZfG t=none from h3 hn];rfl)
       refine⟨⟨by omega,hi'⟩,Ze0 (htp _ (Zj hi)).1 hk hol (fun h4 hn=>?_) (fun hs=>⟨hf,h1 hs⟩) (fun hn=>?_) (fun hs=>⟨hf,h2 hs⟩)⟩
       ·simp only[Zb.fn,h4,show ((3:Int) != 0)=true from rfl,cond_true]
        rw[hres hn]
       ·rw[hres hn]
      ·dsimp only
       rw[decide_eq_false (Int.lt_irrefl _),cond_false]
       exact⟨hfits,by rw[ht,show ZfG t=some out from ht2];rfl⟩
    ·rw[bne_iff_ne.2 hn,cond_true]
     unfold Zci;rw[if_neg (by rw[hval];simp),if_neg hr,if_pos hn]
theorem Za5.spec(s:ZbK)(v:Int):Za5.wp s v (fun r=>r=Za5.fn (s,v,())):=by
 unfold Za5.wp
 dsimp only
 rw[show Za5.fn (s,v,())=Zci s v from rfl,show ZZ.fn (s,())=Zl s from rfl,show Zax.fn (s,())=Zaz s from rfl]
 cases hval:Zl s with
 | false =>
   simp only[Bool.not_false,cond_true]
   unfold Zci;rw[if_pos hval]
 | true =>
   have hb:=Zl.b hval
   simp only[Bool.not_true,cond_false]
   refine⟨fun h=>⟨h,trivial⟩,fun h=>⟨h,h,trivial⟩,fun h=>by rw[h];rfl,?_⟩
   by_cases hr:v < 0∨s.1≤v
   ·rw[show (decide (v < 0)||decide (s.1≤v))=true by rw[← Bool.decide_or,decide_eq_true hr],cond_true]
    unfold Zci;rw[if_neg (by rw[hval];simp),if_pos hr]
   ·rw[show (decide (v < 0)||decide (s.1≤v))=false by rw[← Bool.decide_or,decide_eq_false hr],cond_false]
    by_cases hn:(Zaz s).2=0
    ·rw[show ((Zaz s).2 != 0)=false by rw[hn];rfl,cond_false]
     refine ZnZ hn (v:=v) (by omega) (by omega) (fun i t R hi hf hp=>⟨fun h1 h2 h3=>?_,fun h1 h2 hR=>?_⟩) (fun t R ht htl htp=>?_)
     ·dsimp only
      rw[decide_eq_true hi,cond_true,Int.toNat_natCast]
      refine⟨⟨by omega,hi⟩,hp,?_⟩
      rw[show Z1.fn ((Zaz s).1.2.getD i [],s.1,v,())=ZS ((Zaz s).1.2.getD i []) s.1 v from rfl,bne_iff_ne.2 h2,cond_true,h3,h1]
     ·dsimp only
      rw[decide_eq_true hi,cond_true,Int.toNat_natCast]
      refine⟨⟨by omega,hi⟩,hp,?_⟩
      rw[show Z1.fn ((Zaz s).1.2.getD i [],s.1,v,())=ZS ((Zaz s).1.2.getD i []) s.1 v from rfl,h1,show ((0:Int) != 0)=false from rfl,cond_false]
      exact⟨⟨by omega,by omega⟩,hf,hR⟩
     ·dsimp only
      rw[decide_eq_false (Int.lt_irrefl _),cond_false]
      exact⟨⟨by omega,by omega⟩,⟨by show t.length≤_;omega,fun p hp=>⟨(htp p hp).1,_,(htp p hp).2⟩⟩,ht.symm⟩
    ·rw[bne_iff_ne.2 hn,cond_true]
     unfold Zci;rw[if_neg (by rw[hval];simp),if_neg hr,if_pos hn]
theorem ZjA{f:List Zc→Bool×Int}{l:List (List Zc)}{i:Nat}(hi:i < l.length):Zfd f (l.drop i)=if (f (l.getD i [])).1=true∨(f (l.getD i [])).2≠0 then f (l.getD i []) else Zfd f (l.drop (i+1)):=by
 have:l.drop i=l.getD i []::l.drop (i+1):=by
  rw[List.getD_eq_getElem?_getD,List.getElem?_eq_getElem hi]
  simp
 rw[this];rfl
theorem Zki(k:Nat)(p:List Zc):Zcu (k+1) p=if (ZS p ((k+1:Nat):Int) (ZbP p ((k+1:Nat):Int))).2≠0 then (false,(ZS p ((k+1:Nat):Int) (ZbP p ((k+1:Nat):Int))).2) else Zfd (Zcu k) (ZS p ((k+1:Nat):Int) (ZbP p ((k+1:Nat):Int))).1:=rfl
theorem pieceN.shadow{p:List Zc}{k:Nat}{v:Int}(h:pieceN p ((k+1:Nat):Int))(hv0:0≤v)(hv:v < ((k+1:Nat):Int))(h0:(ZS p ((k+1:Nat):Int) v).2=0){q:List Zc}(hq:q∈(ZS p ((k+1:Nat):Int) v).1):pieceN q (k:Int):=by
 have h1:=(Ze3 h hv0 hv h0).1
 have h2:(((k+1:Nat):Int)).toNat - 1=k:=by omega
 rw[h2] at h1
 exact h1.pieceN (by have:=h.2.2.2;omega) hq
theorem pieceN.nameOk{p:List Zc}{n:Int}(h:pieceN p n):nameOk p:=by
 obtain⟨h1,h2,h3,h4⟩:=h
 exact Zg2.name ⟨by omega,fun c hc=>(h2 c hc).1⟩
theorem Zul:ZfG [[]]=some [[]]:=by decide
theorem Zm2(n v:Int):ZS [] n v=([[]],0):=by
 unfold ZS
 have:ZcQ [] n.toNat v.toNat=some [[]]:=by
  unfold ZcQ
  rw[show eqI v.toNat []=-1 from rfl,if_neg (show ¬ (0:Int)≤-1 by decide),if_pos ⟨rfl,.inl rfl⟩]
  rfl
 rw[this]
 show Zed [[]]=_
 unfold Zed
 rw[Zul]
theorem ZmE:∀ n,Zcu n []=(true,0)
 | 0=>rfl
 | n+1=>by
   rw[Zki,Zm2]
   rw[if_neg (fun h=>h rfl)]
   show (if (Zcu n []).1=true∨(Zcu n []).2≠0 then Zcu n [] else Zfd (Zcu n) [])=_
   rw[ZmE n]
   rfl
theorem Zr7.put{m:ByteArray→Option Bool}(h:Zr7 m){p:List Zc}{n:Int}{b:Bool}(hp:pieceN p n)(hn:1≤n)(hb:Zcu n.toNat p=(b,0)):Zr7 (ZdA m (ZbV (Zcs p)) b):=by
 intro q k c hq hk h1
 by_cases e:q=p
 ·subst e
  have:some b=some c:=by
   rw[← hq];unfold ZdA;rw[if_pos rfl]
  have hbc:b=c:=by injection this
  subst hbc
  cases q with
  | nil =>
    rw[ZmE] at hb ⊢
    exact hb
  | cons a l =>
    have h2:=(hp.2.1 a (by simp)).2
    have h3:=(hk.2.1 a (by simp)).2
    rw[← h3,h2]
    exact hb
 ·refine h q k c ?_ hk h1
  rw[← hq]
  unfold ZdA
  rw[if_neg]
  intro h;exact e (Zoc.1 h)
theorem Zr7.nil:Zr7 (fun _=>none):=fun p n b h=>by cases h
theorem ZaK.spec(N:Nat)(p:List Zc)(n:Int)(m:ByteArray→Option Bool)(hp:ZdV (N+1) (p,n) m):ZaK.wp N p n m (fun r m'=>Zc3 (p,n) m r m'):=by
 obtain⟨⟨hp,hm⟩,hN⟩:=hp
 simp only at hp hN
 unfold ZaK.wp
 dsimp only
 rw[show Zan.fn (p,n,())=ZbP p n from rfl,show ZQ.fn (p,n,ZbP p n,())=ZS p n (ZbP p n) from rfl,show Zp.fn (p,())=ZbV (Zcs p) from rfl]
 have ok0:∀ (r:Bool×Int) (m':ByteArray→Option Bool),Zr7 m'→Zcu n.toNat p=r→r.2=0→Zc3 (p,n) m r m':=by
  intro r m' h h1 h2
  refine⟨?_,h⟩
  simp only
  rw[h1,if_neg (fun h=>h h2)]
 by_cases h0:n=0
 ·subst h0
  rw[show ((0:Int) == 0)=true from rfl,cond_true]
  exact ok0 _ _ hm rfl rfl
 ·rw[beq_eq_false_iff_ne.2 h0,cond_false]
  obtain⟨k,rfl⟩:∃ k:Nat,n=((k+1:Nat):Int):=⟨(n - 1).toNat,by have:=hp.2.2.1;omega⟩
  obtain⟨c1,c2⟩:=Zrf hp (by omega)
  refine⟨hp.nameOk,?_⟩
  rcases Z9 (m (ZbV (Zcs p))) with hmn | ⟨b,hmb⟩
  ·rw[hmn,show (none:Option Bool).isSome=false from rfl,cond_false]
   refine⟨hp,⟨hp,c1,c2⟩,?_⟩
   have hsN:=Zki k p
   have hsp:(ZS p ((k+1:Nat):Int) (ZbP p ((k+1:Nat):Int))).2=0→∀ q∈(ZS p ((k+1:Nat):Int) (ZbP p ((k+1:Nat):Int))).1,pieceN q (k:Int):=fun h q hq=>hp.shadow c1 c2 h hq
   have hlen:(ZS p ((k+1:Nat):Int) (ZbP p ((k+1:Nat):Int))).2=0→(ZS p ((k+1:Nat):Int) (ZbP p ((k+1:Nat):Int))).1.length≤400:=fun h=>(Ze3 hp c1 c2 h).1.1.1
   obtain⟨sh,hsh⟩:∃ sh,ZS p ((k+1:Nat):Int) (ZbP p ((k+1:Nat):Int))=sh:=⟨_,rfl⟩
   rw[hsh] at hsp hlen hsN ⊢
   have hk1:((k+1:Nat):Int) - 1=(k:Int):=by omega
   rw[hk1]
   rw[Int.toNat_natCast] at ok0
   by_cases he:sh.2=0
   ·rw[show (sh.2 != 0)=false by rw[he];rfl,cond_false]
    rw[if_neg (fun h=>h he)] at hsN
    have hlen:=hlen he
    have hsp:=hsp he
    refine Lp.iter sh.1.length (fun i z=>z.1=(i:Int)∧Zfd (Zcu k) sh.1=Zfd (Zcu k) (sh.1.drop i)∧Zr7 z.2) ⟨rfl,rfl,hm⟩ ?_
    rintro i ⟨z,mz⟩ hi ⟨hzi,hz,hmz⟩ R hR
    simp only at hzi hz hmz
    subst hzi
    dsimp only
    by_cases e:i < sh.1.length
    ·have e':(i:Int) < ((sh.1.length:Nat):Int):=by omega
     rw[decide_eq_true e',cond_true,Int.toNat_natCast]
     have hq:=hsp _ (Zj (d:=[]) e)
     rw[ZjA e] at hz
     obtain⟨q,hqe⟩:∃ q,sh.1.getD i []=q:=⟨_,rfl⟩
     rw[hqe] at hq hz ⊢
     refine⟨⟨by omega,e'⟩,⟨by have:=hp.2.2.2;omega,by have:=hp.2.2.2;omega⟩,⟨⟨hq,hmz⟩,by show (k:Int) < _;omega⟩,fun r mr hpost=>?_⟩
     obtain⟨hr,hmr⟩:=hpost
     simp only[Int.toNat_natCast] at hr
     by_cases hre:(Zcu k q).2=0
     ·rw[if_neg (fun h=>h hre)] at hr
      rw[← hr] at hz hre
      rw[show (r.2 != 0)=false by rw[hre];rfl,cond_false]
      by_cases hr1:r.1=true
      ·rw[if_pos (.inl hr1)] at hz
       rw[hr1,cond_true]
       have hs:Zcu (k+1) p=(true,0):=by rw[hsN,hz,← hr1,← hre]
       exact ok0 _ _ (hmr.put hp (by omega) (by rw[Int.toNat_natCast];exact hs)) hs rfl
      ·rw[if_neg (fun h=>h.elim hr1 (fun h=>h hre))] at hz
       rw[show r.1=false by simpa using hr1,cond_false]
       exact⟨⟨by omega,by omega⟩,hR e _ ⟨by simp,hz,hmr⟩⟩
     ·rw[if_pos hre] at hr
      rw[if_pos (.inr hre)] at hz
      rw[hr,bne_iff_ne.2 hre,cond_true]
      refine⟨?_,hmr⟩
      simp only[Int.toNat_natCast]
      rw[hsN,hz,if_pos hre]
    ·have:i=sh.1.length:=by omega
     subst this
     rw[decide_eq_false (Int.lt_irrefl _),cond_false]
     have hs:Zcu (k+1) p=(false,0):=by rw[hsN,hz,List.drop_length];rfl
     exact ok0 _ _ (hmz.put hp (by omega) (by rw[Int.toNat_natCast];exact hs)) hs rfl
   ·rw[bne_iff_ne.2 he,cond_true]
    rw[if_pos he] at hsN
    refine⟨?_,hm⟩
    simp only[Int.toNat_natCast]
    rw[hsN,if_pos he]
  ·rw[hmb,show (some b).isSome=true from rfl,cond_true]
   have:=hm p _ b hmb hp (by omega)
   exact ok0 _ _ hm this rfl
theorem ZaZ.spec(s:ZbK):ZaZ.wp s (fun r=>r=ZaZ.fn (s,())):=by
 unfold ZaZ.wp
 dsimp only
 rw[show ZaZ.fn (s,())=Zhe s from rfl,show ZaB.fn (s,())=Zl s from rfl,show Zag.fn (s,())=Zaz s from rfl]
 cases hval:Zl s with
 | false =>
   simp only[Bool.not_false,cond_true]
   unfold Zhe;rw[if_pos hval]
 | true =>
   simp only[Bool.not_true,cond_false]
   by_cases hn:(Zaz s).2=0
   ·rw[show ((Zaz s).2 != 0)=false by rw[hn];rfl,cond_false]
    have hE:Zhe s=if (Zfd (Zcu s.1.toNat) (Zaz s).1.2).1=true∨(Zfd (Zcu s.1.toNat) (Zaz s).1.2).2≠0 then (false,(Zfd (Zcu s.1.toNat) (Zaz s).1.2).2) else (true,0):=by
     unfold Zhe
     rw[if_neg (by rw[hval];simp),if_neg (fun h=>h hn)]
    have hlen:(Zaz s).1.2.length≤400:=(Zlu hn).1.1
    have hall:∀ q∈(Zaz s).1.2,pieceN q s.1:=fun q hq=>Zhm hn hq
    obtain⟨l,hl⟩:∃ l,(Zaz s).1.2=l:=⟨_,rfl⟩
    rw[hl] at hE hlen hall ⊢
    refine Lp.iter l.length (fun i z=>z.1=(i:Int)∧Zfd (Zcu s.1.toNat) l=Zfd (Zcu s.1.toNat) (l.drop i)∧Zr7 z.2) ⟨rfl,rfl,Zr7.nil⟩ ?_
    rintro i ⟨z,mz⟩ hi ⟨hzi,hz,hmz⟩ R hR
    simp only at hzi hz hmz
    subst hzi
    dsimp only
    by_cases e:i < l.length
    ·have e':(i:Int) < ((l.length:Nat):Int):=by omega
     rw[decide_eq_true e',cond_true,Int.toNat_natCast]
     have hq:=hall _ (Zj (d:=[]) e)
     rw[ZjA e] at hz
     obtain⟨q,hqe⟩:∃ q,l.getD i []=q:=⟨_,rfl⟩
     rw[hqe] at hq hz ⊢
     refine⟨⟨by omega,e'⟩,⟨hq,hmz⟩,fun r mr hpost=>?_⟩
     obtain⟨hr,hmr⟩:=hpost
     simp only at hr
     refine⟨fun h=>by rw[h];rfl,?_⟩
     by_cases hre:(Zcu s.1.toNat q).2=0
     ·rw[if_neg (fun h=>h hre)] at hr
      rw[← hr] at hz hre
      rw[show (r.2 != 0)=false by rw[hre];rfl,Bool.false_or]
      by_cases hr1:r.1=true
      ·rw[if_pos (.inl hr1)] at hz
       rw[hr1,cond_true,hE,if_pos (.inl (by rw[hz];exact hr1)),hz]
      ·rw[if_neg (fun h=>h.elim hr1 (fun h=>h hre))] at hz
       rw[show r.1=false by simpa using hr1,cond_false]
       exact⟨⟨by omega,by omega⟩,hR e _ ⟨by simp,hz,hmr⟩⟩
     ·rw[if_pos hre] at hr
      rw[if_pos (.inr hre)] at hz
      rw[hr,bne_iff_ne.2 hre,Bool.true_or,cond_true,hE,if_pos (.inr (by rw[hz];exact hre)),hz]
    ·have:i=l.length:=by omega
     subst this
     rw[List.drop_length] at hz
     rw[decide_eq_false (Int.lt_irrefl _),cond_false,hE,hz,if_neg]
     rintro (h | h)
     ·cases h
     ·exact h rfl
   ·rw[bne_iff_ne.2 hn,cond_true]
    unfold Zhe;rw[if_neg (by rw[hval];simp),if_pos hn]
def Zy.wp (Q:Bool→Prop):Prop:=let v2:=Za4.fn (((2:Int),[([((1:Int),((0:Int),(([(-(1:Int)),(2:Int)]),(0:Int))))])]),((1:Int),()));let v4:=ZaG.fn (v2.1,(((1:Int),[(Zai.fn ((2:Int),((0:Int),())))]),()));let v9:=Za4.fn (((2:Int),[[(ZbA.fn ((0:Int),(([(-(1:Int)),(3:Int)]),()))),(ZbA.fn ((1:Int),(([(1:Int),(-(3:Int))]),())))]]),((1:Int),()));let v12:=ZaG.fn (v9.1,(((1:Int),[(Zai.fn ((3:Int),((0:Int),()))),(Zai.fn ((3:Int),((1:Int),())))]),()));let v14:=ZaZ.fn (((1:Int),[[(ZbA.fn ((0:Int),([(1:Int)],())))]]),());let v17:=ZaZ.fn (((1:Int),[[(ZbA.fn ((-(1:Int)),([(2:Int)],()))),(ZbA.fn ((1:Int),([(-(2:Int))],())))]]),());(((v2.2 == (0:Int))=true→((v2.2 == (0:Int))=true∧True))∧(((v2.2 == (0:Int))=true→((v2.2 == (0:Int))=true∧True))∧(((v2.2 == (0:Int))=true→((v2.2 == (0:Int))=true∧True))∧(((v2.2 == (0:Int))=true→((v2.2 == (0:Int))=true∧((v2.2 == (0:Int))=true∧True)))∧(((v2.2 == (0:Int))=true→(v2.2 == (0:Int))=true)∧((((v2.2 == (0:Int))&&v4)=true→(((v2.2 == (0:Int))&&v4)=true∧True))∧((((v2.2 == (0:Int))&&v4)=true→((v2.2 == (0:Int))&&v4)=true)∧(((((v2.2 == (0:Int))&&v4)&&(v9.2 == (0:Int)))=true→((((v2.2 == (0:Int))&&v4)&&(v9.2 == (0:Int)))=true∧True))∧(((((v2.2 == (0:Int))&&v4)&&(v9.2 == (0:Int)))=true→((((v2.2 == (0:Int))&&v4)&&(v9.2 == (0:Int)))=true∧True))∧(((((v2.2 == (0:Int))&&v4)&&(v9.2 == (0:Int)))=true→((((v2.2 == (0:Int))&&v4)&&(v9.2 == (0:Int)))=true∧((((v2.2 == (0:Int))&&v4)&&(v9.2 == (0:Int)))=true∧True)))∧(((((v2.2 == (0:Int))&&v4)&&(v9.2 == (0:Int)))=true→((((v2.2 == (0:Int))&&v4)&&(v9.2 == (0:Int)))=true∧True))∧(((((v2.2 == (0:Int))&&v4)&&(v9.2 == (0:Int)))=true→((((v2.2 == (0:Int))&&v4)&&(v9.2 == (0:Int)))=true∧((((v2.2 == (0:Int))&&v4)&&(v9.2 == (0:Int)))=true∧True)))∧(((((v2.2 == (0:Int))&&v4)&&(v9.2 == (0:Int)))=true→(((v2.2 == (0:Int))&&v4)&&(v9.2 == (0:Int)))=true)∧((((((v2.2 == (0:Int))&&v4)&&(v9.2 == (0:Int)))&&v12)=true→(((((v2.2 == (0:Int))&&v4)&&(v9.2 == (0:Int)))&&v12)=true∧True))∧((((((v2.2 == (0:Int))&&v4)&&(v9.2 == (0:Int)))&&v12)=true→((((v2.2 == (0:Int))&&v4)&&(v9.2 == (0:Int)))&&v12)=true)∧(((((((v2.2 == (0:Int))&&v4)&&(v9.2 == (0:Int)))&&v12)&&(!v14.1))=true→((((((v2.2 == (0:Int))&&v4)&&(v9.2 == (0:Int)))&&v12)&&(!v14.1))=true∧True))∧(((((((v2.2 == (0:Int))&&v4)&&(v9.2 == (0:Int)))&&v12)&&(!v14.1))=true→(((((v2.2 == (0:Int))&&v4)&&(v9.2 == (0:Int)))&&v12)&&(!v14.1))=true)∧((((((((v2.2 == (0:Int))&&v4)&&(v9.2 == (0:Int)))&&v12)&&(!v14.1))&&(v14.2 == (0:Int)))=true→((((((v2.2 == (0:Int))&&v4)&&(v9.2 == (0:Int)))&&v12)&&(!v14.1))&&(v14.2 == (0:Int)))=true)∧(((((((((v2.2 == (0:Int))&&v4)&&(v9.2 == (0:Int)))&&v12)&&(!v14.1))&&(v14.2 == (0:Int)))&&v17.1)=true→((((((((v2.2 == (0:Int))&&v4)&&(v9.2 == (0:Int)))&&v12)&&(!v14.1))&&(v14.2 == (0:Int)))&&v17.1)=true∧True))∧(((((((((v2.2 == (0:Int))&&v4)&&(v9.2 == (0:Int)))&&v12)&&(!v14.1))&&(v14.2 == (0:Int)))&&v17.1)=true→(((((((v2.2 == (0:Int))&&v4)&&(v9.2 == (0:Int)))&&v12)&&(!v14.1))&&(v14.2 == (0:Int)))&&v17.1)=true)∧Q ((((((((v2.2 == (0:Int))&&v4)&&(v9.2 == (0:Int)))&&v12)&&(!v14.1))&&(v14.2 == (0:Int)))&&v17.1)&&(v17.2 == (0:Int)))))))))))))))))))))))
def Zbn.wp(x0:List Zc)(Q:(List Zc)→Prop):Prop:=(((0:Int)≤((List.length x0:Nat):Int)∧(((List.length x0:Nat):Int)≤((List.length x0:Nat):Int)∧((((List.length x0:Nat):Int)*((48:Nat):Int))≤(140737488355328:Int)∧((List.length x0:Nat):Int)≤(9223372036854775807:Int))))∧Lp (σ:=Int×List (Zc)) (fun y2 R2=>let v2:=List.getD x0 (Int.toNat y2.1) Za;cond (decide (y2.1 < ((List.length x0:Nat):Int))) (((0:Int)≤y2.1∧y2.1 < ((List.length x0:Nat):Int))∧((List.length v2.2.2.1*8)≤140737488355328∧(((0:Int)≤y2.1∧y2.1 < ((List.length y2.2:Nat):Int))∧(Int.toNat y2.1 < List.length y2.2∧(Zo IntKind.i64 (y2.1+(1:Int))∧R2 ((y2.1+(1:Int)),(List.set y2.2 (Int.toNat y2.1) v2))))))) (Q y2.2)) ((0:Int),(List.replicate (Int.toNat ((List.length x0:Nat):Int)) Za)))
def Za0.wp(x0:Int×(List (List Zc)))(x1:List Int)(Q:(Int×(List (List Zc)))×Int→Prop):Prop:=cond (!(ZaB.fn (x0,()))) (Q (((0:Int),([]:List (List (Zc)))),(1:Int))) (Lp (σ:=Int×List Bool) (fun y3 R3=>let v0:=List.getD x1 (Int.toNat y3.1) (0:Int);cond (decide (y3.1 < ((List.length x1:Nat):Int))) (((0:Int)≤y3.1∧y3.1 < ((List.length x1:Nat):Int))∧(((!(decide (v0 < (0:Int))))=true→((!(decide (v0 < (0:Int))))=true∧True))∧(((!(decide (v0 < (0:Int))))=true→((!(decide (v0 < (0:Int))))=true∧((!(decide (v0 < (0:Int))))=true∧True)))∧((decide (v0 < (0:Int))=false→(!(decide (v0 < (0:Int))))=true)∧(((!(decide (v0 < (0:Int))||decide (x0.1≤v0)))=true→((!(decide (v0 < (0:Int))||decide (x0.1≤v0)))=true∧((0:Int)≤v0∧v0 < ((12:Nat):Int))))∧(((!(decide (v0 < (0:Int))||decide (x0.1≤v0)))=true→((!(decide (v0 < (0:Int))||decide (x0.1≤v0)))=true∧Int.toNat v0 < List.length y3.2))∧(((decide (v0 < (0:Int))||decide (x0.1≤v0))=false→(!(decide (v0 < (0:Int))||decide (x0.1≤v0)))=true)∧cond ((decide (v0 < (0:Int))||decide (x0.1≤v0))||(List.getD y3.2 (Int.toNat v0) false)) (Q (((0:Int),([]:List (List (Zc)))),(6:Int))) (((0:Int)≤v0∧v0 < ((12:Nat):Int))∧(Int.toNat v0 < List.length y3.2∧(Zo IntKind.i64 (y3.1+(1:Int))∧R3 ((y3.1+(1:Int)),(List.set y3.2 (Int.toNat v0) true)))))))))))) (Lp (σ:=Int×Int×List (List (Zc))) (fun y5 R5=>let v3:=List.getD x0.2 (Int.toNat y5.1) ([]:List (Zc));let v4:=List.length ([Zbn.fn (v3,())]);cond (decide (y5.1 < ((List.length x0.2:Nat):Int))) (((0:Int)≤y5.1∧y5.1 < ((List.length x0.2:Nat):Int))∧(Zbn.pre (v3,())∧((((List.length y5.2.2+v4)*24)≤140737488355328∧(List.length y5.2.2+v4)≤9223372036854775807)∧(Zo IntKind.i64 (y5.1+(1:Int))∧R5 ((y5.1+(1:Int)),(y5.2.1,(y5.2.2++[Zbn.fn (v3,())]))))))) (Zo IntKind.i64 (x0.1 - (1:Int))∧Lp (σ:=Int×Int×List (List (Zc))) (fun y7 R7=>let v6:=Za4.fn (y7.2,(y7.1,()));cond (decide ((0:Int)≤y7.1)) (((0:Int)≤y7.1∧y7.1 < ((12:Nat):Int))∧(Int.toNat y7.1 < List.length y3.2∧cond (List.getD y3.2 (Int.toNat y7.1) false) (cond (v6.2 != (0:Int)) (Q (((0:Int),([]:List (List (Zc)))),v6.2)) (Zo IntKind.i64 (y7.1 - (1:Int))∧R7 ((y7.1 - (1:Int)),v6.1))) (Zo IntKind.i64 (y7.1 - (1:Int))∧R7 ((y7.1 - (1:Int)),y7.2)))) (Q (y7.2,(0:Int)))) ((x0.1 - (1:Int)),y5.2))) ((0:Int),(x0.1,([]:List (List (Zc))))))) ((0:Int),List.replicate 12 false))
def ZaJ.wp(x0:Int×(List (List Zc)))(x1:List Int)(Q:(Int×(List (List Zc)))×Int→Prop):Prop:=cond (!(ZZ.fn (x0,()))) (Q (((0:Int),([]:List (List (Zc)))),(1:Int))) (((0:Int)≤x0.1∧(x0.1≤x0.1∧((x0.1*((1:Nat):Int))≤(140737488355328:Int)∧x0.1≤(9223372036854775807:Int))))∧Lp (σ:=Int×List Bool) (fun y3 R3=>let v1:=List.getD x1 (Int.toNat y3.1) (0:Int);cond (decide (y3.1 < ((List.length x1:Nat):Int))) (((0:Int)≤y3.1∧y3.1 < ((List.length x1:Nat):Int))∧(((!(decide (v1 < (0:Int))))=true→((!(decide (v1 < (0:Int))))=true∧True))∧(((!(decide (v1 < (0:Int))))=true→((!(decide (v1 < (0:Int))))=true∧((!(decide (v1 < (0:Int))))=true∧True)))∧((decide (v1 < (0:Int))=false→(!(decide (v1 < (0:Int))))=true)∧(((!(decide (v1 < (0:Int))||decide (x0.1≤v1)))=true→((!(decide (v1 < (0:Int))||decide (x0.1≤v1)))=true∧((!(decide (v1 < (0:Int))||decide (x0.1≤v1)))=true∧((0:Int)≤v1∧v1 < ((List.length y3.2:Nat):Int)))))∧(((!(decide (v1 < (0:Int))||decide (x0.1≤v1)))=true→((!(decide (v1 < (0:Int))||decide (x0.1≤v1)))=true∧Int.toNat v1 < List.length y3.2))∧(((decide (v1 < (0:Int))||decide (x0.1≤v1))=false→(!(decide (v1 < (0:Int))||decide (x0.1≤v1)))=true)∧cond ((decide (v1 < (0:Int))||decide (x0.1≤v1))||(List.getD y3.2 (Int.toNat v1) false)) (Q (((0:Int),([]:List (List (Zc)))),(6:Int))) (((0:Int)≤v1∧v1 < ((List.length y3.2:Nat):Int))∧(Int.toNat v1 < List.length y3.2∧(Zo IntKind.i64 (y3.1+(1:Int))∧R3 ((y3.1+(1:Int)),(List.set y3.2 (Int.toNat v1) true)))))))))))) (Zo IntKind.i64 (x0.1 - (1:Int))∧Lp (σ:=Int×Int×Int×List (List (Zc))) (fun y5 R5=>let v4:=List.getD y3.2 (Int.toNat y5.1) false;let v5:=Za5.fn (y5.2.2,(y5.1,()));cond (decide ((0:Int)≤y5.1)) (((0:Int)≤y5.1∧y5.1 < ((List.length y3.2:Nat):Int))∧(Int.toNat y5.1 < List.length y3.2∧((v4=true→(v4=true∧True))∧((v4=true→v4=true)∧cond (v4&&(y5.2.1 == (0:Int))) (Zo IntKind.i64 (y5.1 - (1:Int))∧R5 ((y5.1 - (1:Int)),(v5.2,v5.1))) (Zo IntKind.i64 (y5.1 - (1:Int))∧R5 ((y5.1 - (1:Int)),y5.2)))))) (Q (y5.2.2,y5.2.1))) ((x0.1 - (1:Int)),((0:Int),x0)))) ((0:Int),(List.replicate (Int.toNat x0.1) false)))
def Zbk.wp(x0:Int×(List (List Zc)))(x1:Int)(Q:(Int×(List (List Zc)))×Int→Prop):Prop:=cond (!(ZaB.fn (x0,()))) (Q (((0:Int),([]:List (List (Zc)))),(1:Int))) (((!(decide (x1 < (0:Int))))=true→((!(decide (x1 < (0:Int))))=true∧True))∧(((!(decide (x1 < (0:Int))))=true→((!(decide (x1 < (0:Int))))=true∧((!(decide (x1 < (0:Int))))=true∧True)))∧((decide (x1 < (0:Int))=false→(!(decide (x1 < (0:Int))))=true)∧cond (decide (x1 < (0:Int))||decide (x0.1 < x1)) (Q (((0:Int),([]:List (List (Zc)))),(6:Int))) (Lp (σ:=Int×List Int) (fun y3 R3=>cond (decide (y3.1 < x0.1)) ((((List.length y3.2+List.length [y3.1])*8)≤140737488355328∧(List.length y3.2+List.length [y3.1])≤9223372036854775807)∧(Zo IntKind.i64 (y3.1+(1:Int))∧R3 ((y3.1+(1:Int)),(y3.2++[y3.1])))) (Q (Za0.fn (x0,(y3.2,()))))) (x1,([]:List Int))))))
def Zbo.wp(x0:Int×(List (List Zc)))(x1:Int)(Q:(Int×(List (List Zc)))×Int→Prop):Prop:=cond (!(ZZ.fn (x0,()))) (Q (((0:Int),([]:List (List (Zc)))),(1:Int))) (((!(decide (x1 < (0:Int))))=true→((!(decide (x1 < (0:Int))))=true∧True))∧(((!(decide (x1 < (0:Int))))=true→((!(decide (x1 < (0:Int))))=true∧((!(decide (x1 < (0:Int))))=true∧True)))∧((decide (x1 < (0:Int))=false→(!(decide (x1 < (0:Int))))=true)∧cond (decide (x1 < (0:Int))||decide (x0.1 < x1)) (Q (((0:Int),([]:List (List (Zc)))),(6:Int))) (Lp (σ:=Int×List Int) (fun y3 R3=>cond (decide (y3.1 < x0.1)) ((((List.length y3.2+List.length [y3.1])*8)≤140737488355328∧(List.length y3.2+List.length [y3.1])≤9223372036854775807)∧(Zo IntKind.i64 (y3.1+(1:Int))∧R3 ((y3.1+(1:Int)),(y3.2++[y3.1])))) (Q (ZaJ.fn (x0,(y3.2,()))))) (x1,([]:List Int))))))
def law05_ElimMany.wp(x0:Int×(List (List Zc)))(x1:List Int)(x2:Int)(Q:Bool→Prop):Prop:=let v0:=ZA.fn ((3:Int),((6:Int),((4:Int),([x0],()))));let v1:=Za0.fn (x0,(x1,()));let v2:=ZaJ.fn (x0,(x1,()));let v3:=Zbz.fn (v1.1,(v1.2,(v2.1,(v2.2,()))));let v4:=Zbk.fn (x0,(x2,()));let v5:=Zbo.fn (x0,(x2,()));let v6:=Zbz.fn (v4.1,(v4.2,(v5.1,(v5.2,()))));(((!(!v0))=true→((!(!v0))=true∧True))∧(((!(!v0))=true→((!(!v0))=true∧True))∧(((!v0)=false→(!(!v0))=true)∧cond ((!v0)||decide ((100:Int) < ((List.length x1:Nat):Int))) (Q (Zy.fn ())) ((v3=true→(v3=true∧(v3=true∧(v3=true∧(v3=true∧True)))))∧((v3=true→v3=true)∧(((v3&&v6)=true→(v3&&v6)=true)∧Q ((v3&&v6)&&Zy.fn ())))))))
theorem Zus:Zci (2,[[(1,0,[-1,2],0)]]) 1=((1,[[(2,2,[1],0)]]),0):=by kernel_rfl
theorem Zvi:Zci (2,[[(0,0,[-1,3],0),(0,0,[1,-3],1)]]) 1=((1,[[(2,3,[1],0)],[(2,3,[1],1)]]),0):=by kernel_rfl
theorem ZuR:Zhe (1,[[(0,0,[1],0)]])=(false,0):=by kernel_rfl
theorem ZuW:Zhe (1,[[(0,0,[2],-1),(0,0,[-2],1)]])=(true,0):=by kernel_rfl
theorem Zy.spec:Zy.wp (fun r=>r=Zy.fn ()):=by
 simp only[Zy.wp,Za4.fn,ZaZ.fn,ZbA.fn,Zai.fn,ZaG.fn,Zus,Zvi,ZuR,ZuW,Zy.fn]
 simp
theorem ZbA.spec(k:Int)(l:List Int):ZbA.wp k l (fun r=>r=ZbA.fn (k,l,())):=rfl
theorem Zai.spec(m k:Int):Zai.wp m k (fun r=>r=Zai.fn (m,k,())):=rfl
theorem Zbz.spec(a:ZbK)(b:Int)(c:ZbK)(d:Int):Zbz.wp a b c d (fun r=>r=Zbz.fn (a,b,c,d,())):=by
 simp only[Zbz.wp,Zbz.fn,ZaG.fn]
 refine⟨fun h=>⟨h,h,trivial⟩,fun h=>h,?_⟩
 by_cases e:b=d
 ·simp[e]
 ·simp[e]
theorem Ztc(a:ZbK×Int):Zbz.fn (a.1,a.2,a.1,a.2,())=true:=by simp[Zbz.fn]
theorem ZA.spec (pi co va : Int) (l : List ZbK) (hl : l.length ≤ 9223372036854775807) (hs : ∀ s ∈ l, s.2.length ≤ 9223372036854775807 ∧ ∀ p ∈ s.2, p.length ≤ 9223372036854775807 ∧ ∀ c ∈ p, c.2.2.1.length ≤ 9223372036854775807) :
 ZA.wp pi co va l (fun r=>r=ZA.fn (pi,co,va,l,())):=by
 unfold ZA.wp
 dsimp only
 rw[show ZA.fn (pi,co,va,l,())=ZrU pi co va l from rfl]
 unfold ZrU
 cases hF:ZU.fn (pi,co,l,()) with
 | false=>rfl
 | true =>
   simp only[Bool.not_true,cond_false,Bool.true_and]
   refine Lp.all l (0,[]) (fun s=>!(decide (va < s.1)&&decide (s.1≤12)&&decide (1 < Ztb s))&&s.2.all fun p=>p.all fun c=>(c.2.2.1.all fun n=>!((decide (6 < n)||decide (n < -6))&&Zl s))&&!(decide (12 < c.2.1)&&Zl s)) hl (fun i R hi hi' hf ht hff=>?_) (fun R h=>?_)
   ·rw[decide_eq_true hi',cond_true,Int.toNat_natCast]
    refine⟨⟨by omega,hi'⟩,?_⟩
    obtain⟨b1,b2⟩:=hs _ (Zj (d:=((0,[]):ZbK)) hi)
    obtain⟨s,hse⟩:∃ s,l.getD i (0,[])=s:=⟨_,rfl⟩
    rw[hse] at ht hff b1 b2 ⊢
    refine Lp.foldl s.2 [] (fun m p=>max m (p.length:Int)) 0 b1 (fun j t R2 hj hj' hf2 _ hR2=>?_) (fun R2=>?_)
    ·dsimp only
     rw[decide_eq_true hj',cond_true,Int.toNat_natCast]
     exact⟨⟨by omega,hj'⟩,hf2,hR2⟩
    ·dsimp only
     rw[decide_eq_false (Int.lt_irrefl _),cond_false]
     refine⟨fun h=>⟨h,trivial⟩,fun h=>⟨h,trivial⟩,fun h=>h,fun h=>⟨h,trivial⟩,fun h=>h,?_⟩
     rw[show (s.2.foldl (fun m p=>max m (p.length:Int)) 0)=Ztb s from rfl]
     cases hA:(decide (va < s.1)&&decide (s.1≤12)&&decide (1 < Ztb s)) with
     | true=>exact (hff (by rw[hA];rfl)).symm
     | false =>
       rw[hA] at ht hff
       simp only[Bool.not_false,Bool.true_and] at ht hff
       rw[cond_false]
       refine Lp.all s.2 [] (fun p=>p.all fun c=>(c.2.2.1.all fun n=>!((decide (6 < n)||decide (n < -6))&&Zl s))&&!(decide (12 < c.2.1)&&Zl s)) b1 (fun j R3 hj hj' hf3 ht3 hff3=>?_) (fun R3 h3=>?_)
       ·rw[decide_eq_true hj',cond_true,Int.toNat_natCast]
        refine⟨⟨by omega,hj'⟩,?_⟩
        obtain⟨d1,d2⟩:=b2 _ (Zj (d:=[]) hj)
        obtain⟨p,hpe⟩:∃ p,s.2.getD j []=p:=⟨_,rfl⟩
        rw[hpe] at ht3 hff3 d1 d2 ⊢
        refine Lp.all p Za (fun c=>(c.2.2.1.all fun n=>!((decide (6 < n)||decide (n < -6))&&Zl s))&&!(decide (12 < c.2.1)&&Zl s)) d1 (fun k R4 hk hk' hf4 ht4 hff4=>?_) (fun R4 h4=>?_)
        ·rw[decide_eq_true hk',cond_true,Int.toNat_natCast]
         refine⟨⟨by omega,hk'⟩,?_⟩
         have e1:=d2 _ (Zj (d:=Za) hk)
         obtain⟨c,hce⟩:∃ c,p.getD k Za=c:=⟨_,rfl⟩
         rw[hce] at ht4 hff4 e1 ⊢
         refine Lp.all c.2.2.1 0 (fun n=>!((decide (6 < n)||decide (n < -6))&&Zl s)) e1 (fun m R5 hm hm' hf5 ht5 hff5=>?_) (fun R5 h5=>?_)
         ·rw[decide_eq_true hm',cond_true,Int.toNat_natCast]
          refine⟨⟨by omega,hm'⟩,fun h=>⟨h,trivial⟩,fun h=>by rw[h];rfl,fun h=>⟨h,trivial⟩,fun h=>h,?_⟩
          rw[show ZZ.fn (s,())=Zl s from rfl]
          cases hB:((decide (6 < c.2.2.1.getD m 0)||decide (c.2.2.1.getD m 0 < -6))&&Zl s) with
          | true =>
            rw[cond_true]
            have g5:=hff5 (by rw[hB];rfl)
            exact (hff (hff3 (hff4 (by rw[g5];rfl)))).symm
          | false =>
            rw[cond_false]
            exact⟨hf5,ht5 (by rw[hB];rfl)⟩
         ·rw[decide_eq_false (Int.lt_irrefl _),cond_false]
          refine⟨fun h=>⟨h,trivial⟩,fun h=>h,?_⟩
          rw[show ZZ.fn (s,())=Zl s from rfl]
          cases hB:(decide (12 < c.2.1)&&Zl s) with
          | true =>
            rw[cond_true]
            exact (hff (hff3 (hff4 (by rw[hB,Bool.not_true,Bool.and_false])))).symm
          | false =>
            rw[cond_false]
            exact⟨hf4,ht4 (by rw[hB,h5];rfl)⟩
        ·rw[decide_eq_false (Int.lt_irrefl _),cond_false]
         exact⟨hf3,ht3 h4⟩
       ·rw[decide_eq_false (Int.lt_irrefl _),cond_false]
        exact⟨hf,ht h3⟩
   ·rw[decide_eq_false (Int.lt_irrefl _),cond_false]
    exact h.symm
theorem Zbn.spec(p:List Zc)(hp:Zbn.pre (p,())):Zbn.wp p (fun r=>r=Zbn.fn (p,())):=by
 obtain⟨h1,h2⟩:p.length≤4096∧∀ c∈p,c.2.2.1.length≤4096:=hp
 unfold Zbn.wp
 dsimp only
 refine⟨⟨by omega,by omega,by omega,by omega⟩,?_⟩
 rw[Int.toNat_natCast]
 refine Lp.iter p.length (fun i y=>y.1=(i:Int)∧y.2.length=p.length∧∀ j,j < i→y.2.getD j Za=p.getD j Za) ⟨rfl,by simp,fun j hj=>absurd hj (by omega)⟩ ?_
 rintro i ⟨y,o⟩ hi ⟨hy,ho,hd⟩ R hR
 simp only at hy ho hd
 subst hy
 dsimp only
 by_cases e:i < p.length
 ·rw[decide_eq_true (show (i:Int) < ((p.length:Nat):Int) by omega),cond_true,Int.toNat_natCast]
  have:=h2 _ (Zj (d:=Za) e)
  refine⟨⟨by omega,by omega⟩,by omega,⟨by omega,by omega⟩,by omega,⟨by omega,by omega⟩,hR e _ ⟨by simp,by simpa using ho,fun j hj=>?_⟩⟩
  simp only
  by_cases hj2:j=i
  ·subst hj2
   rw[ZD (by rw[List.length_set];omega),List.getElem_set_self]
  ·rw[List.getD_eq_getElem?_getD,List.getElem?_set_ne (by omega),← List.getD_eq_getElem?_getD]
   exact hd j (by omega)
 ·have:i=p.length:=by omega
  subst this
  rw[decide_eq_false (Int.lt_irrefl _),cond_false]
  refine List.ext_getElem ho (fun j h1 h2=>?_)
  have:=hd j h2
  rwa [ZD h1,ZD h2] at this
abbrev Zsk:Ty:=.pair (.int .i64) (.pair (.int .i64) (.pair (.sl (.int .i64)) (.int .i64)))
def asD(T:Ty):V→Option (List T.den)
 | .d (.sl t) l=>if h:t=T then some (h▸l) else none
 | _=>none
theorem Zwh{T:Ty}{v:V}{l:List T.den}(h:asD T v=some l):v=.d (.sl T) l:=by
 unfold asD at h
 split at h
 ·split at h
  ·rename_i e;subst e;cases h;rfl
  ·cases h
 ·cases h
theorem Zs7{k:IntKind}{v:V}{n:Int}(h:Zpg k [v]=some n):v=.d (.int k) n:=by
 unfold Zpg at h
 split at h
 ·rename_i k' m e
  cases e
  split at h
  ·rename_i e2;have:=Zk2 e2;subst this;cases h;rfl
  ·cases h
 ·cases h
def ZqL(g:Nat)(vs:List V)(os:Zaf):Option (List Nat×(Ty.den (.sl Zsk)×Int)×(ByteArray→Option Bool)):=match vs with
 | [p,n,.ref a 0,.ref b 0]=>match asD Zsk p with
   | some p=>match Zpg .i64 [n] with
     | some n=>match Zs a os with
       | some (.box [.map m])=>match Zs b os with
         | some (.box [.fn (.func h) [] [.ref c 0,.ref d 0]])=>match Nat.beq h g&&(Nat.beq c a&&Nat.beq d b) with
           | true=>match Zs m os with
             | some (.smap .bool f)=>some ([a,b,m],(p,n),f)
             | _=>none
           | false=>none
         | _=>none
       | _=>none
     | none=>none
   | none=>none
 | _=>none
def ZnE(g:Nat)(os:Zaf):Option (ByteArray→Option Bool):=match Zs 0 os with
 | some (.box [.map 2])=>match Zs 1 os with
   | some (.box [.fn (.func h) [] [.ref 0 0,.ref 1 0]])=>match Nat.beq h g with
     | true=>match Zs 2 os with
       | some (.smap .bool f)=>some f
       | _=>none
     | false=>none
   | _=>none
 | _=>none
def ZrE(g:Nat)(pre:Ty.den (.sl Zsk)×Int→(ByteArray→Option Bool)→Prop)(post:Ty.den (.sl Zsk)×Int→(ByteArray→Option Bool)→Bool×Int→(ByteArray→Option Bool)→Prop):Zpy :=
 ⟨Ty.den (.sl Zsk)×Int,ByteArray→Option Bool,[.bool,.int .i64],3,fun a=>[.d (.sl Zsk) a.1,.d (.int .i64) a.2,.ref 0 0,.ref 1 0],fun f=>[(0,.box [.map 2]),(1,.box [.fn (.func g) [] [.ref 0 0,.ref 1 0]]),(2,.smap .bool f)],
  ZqL g,ZnE g,pre,post,[2,0],[2]⟩
theorem Zkv(g:Nat)(pre:Ty.den (.sl Zsk)×Int→(ByteArray→Option Bool)→Prop)(post:Ty.den (.sl Zsk)×Int→(ByteArray→Option Bool)→Bool×Int→(ByteArray→Option Bool)→Prop):(ZrE g pre post).Law where
 get:=by
  intro vs os ks a b h
  change ZqL g vs os=some (ks,a,b) at h
  unfold ZqL at h
  split at h
  ·rename_i p n A B
   split at h
   ·rename_i p' hp
    split at h
    ·rename_i n' hn
     split at h
     ·rename_i m hA
      split at h
      ·rename_i h' c d hB
       split at h
       ·rename_i hE
        split at h
        ·rename_i f hM
         cases h
         have hp:=Zwh hp
         have hn:=Zs7 hn
         subst hp hn
         rw[Bool.and_eq_true,Bool.and_eq_true] at hE
         obtain⟨e1,e2,e3⟩:=hE
         have e1:=Nat.eq_of_beq_eq_true e1
         have e2:=Nat.eq_of_beq_eq_true e2
         have e3:=Nat.eq_of_beq_eq_true e3
         subst e1 e2 e3
         have n1:c≠d:=fun e=>by subst e;rw[hA] at hB;cases hB
         have n2:m≠c:=fun e=>by subst e;rw[hA] at hM;cases hM
         have n3:m≠d:=fun e=>by subst e;rw[hB] at hM;cases hM
         have nb:∀ {x y:Nat},x≠y→Nat.beq x y=false:=fun {x y} h=>by
          cases e:Nat.beq x y with
          | false=>rfl
          | true=>exact absurd (Nat.eq_of_beq_eq_true e) h
         have b1:=nb n1
         have b2:=nb n2.symm
         have b3:=nb n3.symm
         refine⟨?_,rfl,by simp[n1,n2.symm,n3.symm],?_⟩
         ·simp[ZbB,V.subst,unF,V.key,Zo7,V.rekey,ZrE,b1]
         ·intro i l hl
          match i,hl with
          | 0,hl =>
            cases hl
            refine⟨_,hA,?_,fun h=>absurd (show 0∈[2,0] by decide) h⟩
            simp[Obj.subst,ZbB,V.subst,unF,V.key,Zo7,V.rekey,ZrE,Zs,b2,b3]
          | 1,hl =>
            cases hl
            refine⟨_,hB,?_,fun _=>?_⟩
            ·simp[Obj.subst,ZbB,V.subst,unF,V.key,Zo7,V.rekey,ZrE,Zs,b1]
            ·simp[Obj.subst,ZbB,V.subst,unF,rnF,V.key,Zo7,V.rekey,b1]
          | 2,hl =>
            cases hl
            refine⟨_,hM,rfl,fun h=>absurd (show 2∈[2,0] by decide) h⟩
          | k+3,hl=>cases hl
        ·cases h
       ·cases h
      ·cases h
     ·cases h
    ·cases h
   ·cases h
  ·cases h
 dom:=by
  intro b i o h
  show i < 3
  match i with
  | 0 | 1 | 2=>decide
  | k+3=>cases h
 back:=by
  intro os b h
  change ZnE g os=some b at h
  unfold ZnE at h
  split at h
  ·rename_i h0
   split at h
   ·rename_i h' h1
    split at h
    ·rename_i hE
     split at h
     ·rename_i f h2
      cases h
      have:=Nat.eq_of_beq_eq_true hE
      subst this
      intro i hi
      match i,hi with
      | 0,_=>exact h0
      | 1,_=>exact h1
      | 2,_=>exact h2
     ·cases h
    ·cases h
   ·cases h
  ·cases h
 same:=by
  intro b b' i hi
  match i,hi with
  | 0,hi=>exact absurd (show 0∈[2,0] by decide) hi
  | 1,_=>rfl
  | 2,hi=>exact absurd (show 2∈[2,0] by decide) hi
  | k+3,_=>rfl
 ch:=show ∀ i∈[2,0],i < 3 by decide
 mv:=show ∀ i∈[2],i∈[2,0] by decide
theorem Ztt(a:Ty.den (.sl Zsk)×Int)(b:ByteArray→Option Bool):¬ ZdV 0 a b:=fun h=>by
 have h1:(0:Int)≤a.2:=h.1.1.2.2.1
 have h2:a.2 < ((0:Nat):Int):=h.2
 omega
theorem Ztd(a:Ty.den (.sl Zsk)×Int)(b:ByteArray→Option Bool)(h:Zj7 a b):∃ N,ZdV N a b:=⟨a.2.toNat+1,h,by omega⟩
theorem ZrK{s:ZbK}{v:Int}(h:(Zci s v).2≠0):(Zci s v).1=(0,[]):=by
 unfold Zci at h ⊢
 split
 ·rfl
 ·rename_i h1
  rw[if_neg h1] at h
  split
  ·rfl
  ·rename_i h2
   rw[if_neg h2] at h
   split
   ·rfl
   ·rename_i h3
    rw[if_neg h3] at h
    rcases Z9 (ZhS s.1 v (Zaz s).1.2) with e | ⟨all,e⟩
    ·simp only[e]
    ·simp only[e] at h ⊢
     rcases Z9 (ZfG all) with e2 | ⟨o,e2⟩
     ·rw[e2];rfl
     ·rw[e2] at h;exact absurd rfl h
def onL(l:List Int)(v:Nat):Bool:=decide ((v:Int)∈l)
structure ZrR (n:Int) (l:List Int) (f:List Bool):Prop where
 ok:Zds n l=true
 is:∀ v:Nat,(v:Int) < n→f.getD v false=onL l v
theorem ZrR.nil(n:Int)(k:Nat):ZrR n [] (List.replicate k false):=by
 refine⟨by rw[ZkY];simp,fun v _=>?_⟩
 unfold onL
 rw[List.getD_eq_getElem?_getD,List.getElem?_replicate]
 split<;>simp
theorem ZrR.put {n : Int} {l : List Int} {f : List Bool} {i : Nat} (h : ZrR n (l.take i) f) (e : i < l.length) (h1 : 0 ≤ l.getD i 0) (h2 : l.getD i 0 < n) (h3 : (l.getD i 0).toNat < f.length) (h4 : f.getD (l.getD i 0).toNat false = false) :
 ZrR n (l.take (i+1)) (f.set (l.getD i 0).toNat true):=by
 have hv:(((l.getD i 0).toNat:Nat):Int)=l.getD i 0:=Int.toNat_of_nonneg h1
 have hni:l.getD i 0∉l.take i:=by
  have:=h.is (l.getD i 0).toNat (by omega)
  rw[h4,onL,hv] at this
  simpa using this.symm
 refine⟨(Zmv h.ok e).2 ⟨⟨h1,h2⟩,hni⟩,fun v hvn=>?_⟩
 have ht:l.take (i+1)=l.take i++[l.getD i 0]:=Zv 0 e
 unfold onL
 rw[ht]
 by_cases ev:(l.getD i 0).toNat=v
 ·subst ev
  rw[ZD (by rw[List.length_set];exact h3),List.getElem_set_self]
  rw[hv]
  simp
 ·rw[List.getD_eq_getElem?_getD,List.getElem?_set_ne ev,← List.getD_eq_getElem?_getD,h.is v hvn]
  unfold onL
  have:¬ ((v:Int)=l.getD i 0):=by omega
  simp only[List.mem_append,List.mem_singleton,this,or_false]
theorem ZrR.bad{n:Int}{l:List Int}{f:List Bool}{i:Nat}(h:ZrR n (l.take i) f)(e:i < l.length)(hb:(l.getD i 0 < 0∨n≤l.getD i 0)∨f.getD (l.getD i 0).toNat false=true):Zds n l=false:=by
 refine ZsA h.ok e ?_
 rintro⟨⟨h1,h2⟩,h3⟩
 rcases hb with hb | hb
 ·omega
 ·have hv:(((l.getD i 0).toNat:Nat):Int)=l.getD i 0:=Int.toNat_of_nonneg h1
  have:=h.is (l.getD i 0).toNat (by omega)
  rw[hb,onL,hv] at this
  exact h3 (by simpa using this.symm)
theorem Zkp{s:ZbK}{l:List Int}(hv:Zl s=true)(hp:Zds s.1 l=false):Zec s l=((0,[]),6):=by
 unfold Zec;rw[if_neg (by rw[hv];simp),if_pos hp]
theorem Zl7{s:ZbK}{l:List Int}(hv:Zl s=true)(hp:Zds s.1 l=true):Zec s l=Zc0 (onL l) s.1.toNat s:=by
 unfold Zec;rw[if_neg (by rw[hv];simp),if_neg (by rw[hp];simp)];rfl
theorem Ziz(on:Nat→Bool)(v:Nat)(s:ZbK):Zc0 on (v+1) s=if on v=true then if (Zci s (v:Int)).2≠0 then ((0,[]),(Zci s (v:Int)).2) else Zc0 on v (Zci s (v:Int)).1 else Zc0 on v s:=rfl
theorem Za0.spec(s:ZbK)(l:List Int)(hl:l.length≤9223372036854775807):Za0.wp s l (fun r=>r=Za0.fn (s,l,())):=by
 unfold Za0.wp
 dsimp only
 rw[show Za0.fn (s,l,())=Zec s l from rfl,show ZaB.fn (s,())=Zl s from rfl]
 cases hval:Zl s with
 | false =>
   simp only[Bool.not_false,cond_true]
   unfold Zec;rw[if_pos hval]
 | true =>
   have hb:=Zl.b hval
   simp only[Bool.not_true,cond_false]
   refine Lp.iter l.length (fun i y=>y.1=(i:Int)∧y.2.length=12∧ZrR s.1 (l.take i) y.2) ⟨rfl,by simp,ZrR.nil _ _⟩ ?_
   rintro i ⟨y,f⟩ hi ⟨hy,hf,hon⟩ R hR
   simp only at hy hf hon
   subst hy
   dsimp only
   by_cases e:i < l.length
   ·have e':(i:Int) < ((l.length:Nat):Int):=by omega
    rw[decide_eq_true e',cond_true,Int.toNat_natCast]
    have hput:=hon.put e
    have hbad:=hon.bad e
    obtain⟨v,hv⟩:∃ v,l.getD i 0=v:=⟨_,rfl⟩
    rw[hv] at hput hbad ⊢
    have hrng:((!(decide (v < 0)||decide (s.1≤v)))=true)→0≤v∧v < s.1:=fun h=>by
     simp only[Bool.not_eq_true',Bool.or_eq_false_iff,decide_eq_false_iff_not] at h
     omega
    refine⟨⟨by omega,e'⟩,fun h=>⟨h,trivial⟩,fun h=>⟨h,h,trivial⟩,fun h=>by rw[h];rfl,fun h=>⟨h,by have:=hrng h;omega,by have:=hrng h;omega⟩,fun h=>⟨h,by have:=hrng h;omega⟩,fun h=>by rw[h];rfl,?_⟩
    by_cases hc:(v < 0∨s.1≤v)∨f.getD v.toNat false=true
    ·rw[show ((decide (v < 0)||decide (s.1≤v))||f.getD v.toNat false)=true by simpa using hc,cond_true]
     exact (Zkp hval (hbad hc)).symm
    ·rw[show ((decide (v < 0)||decide (s.1≤v))||f.getD v.toNat false)=false by simpa using hc,cond_false]
     rw[not_or] at hc
     refine⟨⟨by omega,by omega⟩,by omega,⟨by omega,by omega⟩,hR e _ ⟨by simp,by simpa using hf,hput (by omega) (by omega) (by omega) (by simpa using hc.2)⟩⟩
   ·have:i=l.length:=by omega
    subst this
    rw[List.take_length] at hon
    rw[decide_eq_false (Int.lt_irrefl _),cond_false]
    rw[Zl7 hval hon.ok]
    refine Lp.iter s.2.length (fun j z=>z.1=(j:Int)∧z.2=(s.1,s.2.take j)) ⟨rfl,rfl⟩ ?_
    rintro j ⟨z,zs⟩ hj ⟨hz,hzs⟩ R2 hR2
    simp only at hz hzs
    subst hz hzs
    dsimp only
    have hlen:=hb.2.2.1
    by_cases ej:j < s.2.length
    ·have ej':(j:Int) < ((s.2.length:Nat):Int):=by omega
     rw[decide_eq_true ej',cond_true,Int.toNat_natCast]
     have hpc:=Zl.piece hval (Zj (d:=[]) ej)
     rw[show Zbn.fn (s.2.getD j [],())=s.2.getD j [] from rfl]
     refine⟨⟨by omega,ej'⟩,⟨by have:=hpc.1;show (s.2.getD j []).length≤_;omega,fun c hc=>by have:=(Zaj.b (Zi.lin (hpc.2 c hc))).1;omega⟩,⟨?_,?_⟩,⟨by omega,by omega⟩,hR2 ej _ ⟨by simp,by rw[Zv [] ej]⟩⟩
     ·simp only[List.length_take,List.length_cons,List.length_nil];omega
     ·simp only[List.length_take,List.length_cons,List.length_nil];omega
    ·have:j=s.2.length:=by omega
     subst this
     rw[decide_eq_false (Int.lt_irrefl _),cond_false,List.take_length]
     refine⟨⟨by omega,by omega⟩,?_⟩
     obtain⟨N,hN⟩:∃ N:Nat,s.1=(N:Int):=⟨s.1.toNat,by omega⟩
     have h12:N≤12:=by omega
     rw[show ((s.1 - 1,s.1,s.2):Int×ZbK)=((N:Int) - 1,s) by rw[← hN]]
     rw[hN,Int.toNat_natCast]
     refine Lp.iter N (fun k z=>z.1=(N:Int) - (k:Int) - 1∧Zc0 (onL l) N s=Zc0 (onL l) (N - k) z.2) ⟨by simp,rfl⟩ ?_
     rintro k ⟨z,t⟩ hk ⟨hz,hg⟩ R3 hR3
     simp only at hz hg
     subst hz
     dsimp only
     by_cases ek:k < N
     ·obtain⟨m,hm⟩:∃ m,N - k=m+1:=⟨N - k - 1,by omega⟩
      have hm':(N:Int) - (k:Int) - 1=(m:Int):=by omega
      rw[hm,Ziz] at hg
      rw[hm']
      rw[decide_eq_true (show (0:Int)≤(m:Int) by omega),cond_true,Int.toNat_natCast,hon.is m (by omega)]
      refine⟨⟨by omega,by omega⟩,by omega,?_⟩
      have hnx:∀ u:ZbK,Zc0 (onL l) N s=Zc0 (onL l) m u→R3 ((m:Int) - 1,u):=fun u hu=>hR3 ek _ ⟨by simp only;omega,by rw[hu];congr 1;omega⟩
      cases ho:onL l m with
      | true =>
        rw[ho,if_pos rfl] at hg
        rw[cond_true,show Za4.fn (t,(m:Int),())=Zci t (m:Int) from rfl]
        by_cases he:(Zci t (m:Int)).2=0
        ·rw[if_neg (fun h=>h he)] at hg
         rw[show ((Zci t (m:Int)).2 != 0)=false by rw[he];rfl,cond_false]
         exact⟨⟨by omega,by omega⟩,hnx _ hg⟩
        ·rw[if_pos he] at hg
         rw[bne_iff_ne.2 he,cond_true]
         exact hg.symm
      | false =>
        rw[ho,if_neg (by simp)] at hg
        rw[cond_false]
        exact⟨⟨by omega,by omega⟩,hnx _ hg⟩
     ·have:k=N:=by omega
      subst this
      rw[decide_eq_false (by omega),cond_false,hg,Nat.sub_self]
      rfl
theorem ZaJ.spec(s:ZbK)(l:List Int)(hl:l.length≤9223372036854775807):ZaJ.wp s l (fun r=>r=ZaJ.fn (s,l,())):=by
 unfold ZaJ.wp
 dsimp only
 rw[show ZaJ.fn (s,l,())=Zec s l from rfl,show ZZ.fn (s,())=Zl s from rfl]
 cases hval:Zl s with
 | false =>
   simp only[Bool.not_false,cond_true]
   unfold Zec;rw[if_pos hval]
 | true =>
   have hb:=Zl.b hval
   simp only[Bool.not_true,cond_false]
   refine⟨⟨by omega,by omega,by omega,by omega⟩,?_⟩
   refine Lp.iter l.length (fun i y=>y.1=(i:Int)∧y.2.length=s.1.toNat∧ZrR s.1 (l.take i) y.2) ⟨rfl,by simp,ZrR.nil _ _⟩ ?_
   rintro i ⟨y,f⟩ hi ⟨hy,hf,hon⟩ R hR
   simp only at hy hf hon
   subst hy
   dsimp only
   by_cases e:i < l.length
   ·have e':(i:Int) < ((l.length:Nat):Int):=by omega
    rw[decide_eq_true e',cond_true,Int.toNat_natCast]
    have hput:=hon.put e
    have hbad:=hon.bad e
    obtain⟨v,hv⟩:∃ v,l.getD i 0=v:=⟨_,rfl⟩
    rw[hv] at hput hbad ⊢
    have hrng:((!(decide (v < 0)||decide (s.1≤v)))=true)→0≤v∧v < s.1:=fun h=>by
     simp only[Bool.not_eq_true',Bool.or_eq_false_iff,decide_eq_false_iff_not] at h
     omega
    refine⟨⟨by omega,e'⟩,fun h=>⟨h,trivial⟩,fun h=>⟨h,h,trivial⟩,fun h=>by rw[h];rfl,fun h=>⟨h,h,by have:=hrng h;omega,by have:=hrng h;omega⟩,fun h=>⟨h,by have:=hrng h;omega⟩,fun h=>by rw[h];rfl,?_⟩
    by_cases hc:(v < 0∨s.1≤v)∨f.getD v.toNat false=true
    ·rw[show ((decide (v < 0)||decide (s.1≤v))||f.getD v.toNat false)=true by simpa using hc,cond_true]
     exact (Zkp hval (hbad hc)).symm
    ·rw[show ((decide (v < 0)||decide (s.1≤v))||f.getD v.toNat false)=false by simpa using hc,cond_false]
     rw[not_or] at hc
     refine⟨⟨by omega,by omega⟩,by omega,⟨by omega,by omega⟩,hR e _ ⟨by simp,by simpa using hf,hput (by omega) (by omega) (by omega) (by simpa using hc.2)⟩⟩
   ·have:i=l.length:=by omega
    subst this
    rw[List.take_length] at hon
    rw[decide_eq_false (Int.lt_irrefl _),cond_false]
    rw[Zl7 hval hon.ok]
    refine⟨⟨by omega,by omega⟩,?_⟩
    obtain⟨N,hN⟩:∃ N:Nat,s.1=(N:Int):=⟨s.1.toNat,by omega⟩
    have h12:N≤12:=by omega
    rw[hN,Int.toNat_natCast] at hf ⊢
    refine Lp.iter N (fun k z=>z.1=(N:Int) - (k:Int) - 1∧Zc0 (onL l) N s=if z.2.1≠0 then (z.2.2,z.2.1) else Zc0 (onL l) (N - k) z.2.2) ⟨by simp,rfl⟩ ?_
    rintro k ⟨z,r,t⟩ hk ⟨hz,hg⟩ R3 hR3
    simp only at hz hg
    subst hz
    dsimp only
    by_cases ek:k < N
    ·obtain⟨m,hm⟩:∃ m,N - k=m+1:=⟨N - k - 1,by omega⟩
     have hm':(N:Int) - (k:Int) - 1=(m:Int):=by omega
     rw[hm,Ziz] at hg
     rw[hm']
     rw[decide_eq_true (show (0:Int)≤(m:Int) by omega),cond_true,Int.toNat_natCast,hon.is m (by omega)]
     refine⟨⟨by omega,by omega⟩,by omega,fun h=>⟨h,trivial⟩,fun h=>h,?_⟩
     rw[show Za5.fn (t,(m:Int),())=Zci t (m:Int) from rfl]
     have hnx:∀ u:Int×ZbK,(Zc0 (onL l) N s=if u.1≠0 then (u.2,u.1) else Zc0 (onL l) m u.2)→R3 ((m:Int) - 1,u):=fun u hu=>hR3 ek _ ⟨by simp only;omega,by rw[hu];congr 2;omega⟩
     by_cases hr:r=0
     ·rw[if_neg (fun h=>h hr)] at hg
      rw[show (r == 0)=true by rw[hr];rfl,Bool.and_true]
      cases ho:onL l m with
      | true =>
        rw[ho,if_pos rfl] at hg
        rw[cond_true]
        refine⟨⟨by omega,by omega⟩,hnx _ ?_⟩
        rw[hg]
        by_cases he:(Zci t (m:Int)).2≠0
        ·rw[if_pos he,if_pos he,ZrK he]
        ·rw[if_neg he,if_neg he]
      | false =>
        rw[ho,if_neg (by simp)] at hg
        rw[cond_false]
        exact⟨⟨by omega,by omega⟩,hnx _ (by rw[hg,if_neg (fun h=>h hr)])⟩
     ·rw[if_pos hr] at hg
      rw[show (r == 0)=false by simpa using hr,Bool.and_false,cond_false]
      exact⟨⟨by omega,by omega⟩,hnx _ (by rw[hg,if_pos hr])⟩
    ·have:k=N:=by omega
     subst this
     rw[decide_eq_false (by omega),cond_false,hg,Nat.sub_self]
     by_cases hr:r=0
     ·rw[if_neg (fun h=>h hr),hr];rfl
     ·rw[if_pos hr]
theorem Zp9(k:Int)(i:Nat):((List.range (i+1)).map fun (j:Nat)=>k+(j:Int))=((List.range i).map fun (j:Nat)=>k+(j:Int))++[k+(i:Int)]:=by
 rw[List.range_succ,List.map_append];rfl
theorem Zbk.spec(s:ZbK)(k:Int):Zbk.wp s k (fun r=>r=Zbk.fn (s,k,())):=by
 unfold Zbk.wp
 dsimp only
 rw[show Zbk.fn (s,k,())=Zne s k from rfl,show ZaB.fn (s,())=Zl s from rfl]
 cases hval:Zl s with
 | false =>
   simp only[Bool.not_false,cond_true]
   unfold Zne;rw[if_pos hval]
 | true =>
   have hb:=Zl.b hval
   simp only[Bool.not_true,cond_false]
   refine⟨fun h=>⟨h,trivial⟩,fun h=>⟨h,h,trivial⟩,fun h=>by rw[h];rfl,?_⟩
   by_cases hr:k < 0∨s.1 < k
   ·rw[show (decide (k < 0)||decide (s.1 < k))=true by rw[← Bool.decide_or,decide_eq_true hr],cond_true]
    unfold Zne;rw[if_neg (by rw[hval];simp),if_pos hr]
   ·rw[show (decide (k < 0)||decide (s.1 < k))=false by rw[← Bool.decide_or,decide_eq_false hr],cond_false]
    have hk:Zne s k=Zec s ((List.range (s.1 - k).toNat).map fun (i:Nat)=>k+(i:Int)):=by
     unfold Zne;rw[if_neg (by rw[hval];simp),if_neg hr]
    refine Lp.iter (s.1 - k).toNat (fun i y=>y.1=k+(i:Int)∧y.2=(List.range i).map fun (j:Nat)=>k+(j:Int)) ⟨by simp,rfl⟩ ?_
    rintro i ⟨y,o⟩ hi ⟨hy,ho⟩ R hR
    simp only at hy ho
    subst hy ho
    dsimp only
    by_cases e:i < (s.1 - k).toNat
    ·rw[decide_eq_true (show k+(i:Int) < s.1 by omega),cond_true]
     refine⟨⟨?_,?_⟩,⟨by omega,by omega⟩,hR e _ ⟨by simp only;omega,(Zp9 k i).symm⟩⟩
     ·simp only[List.length_map,List.length_range,List.length_cons,List.length_nil];omega
     ·simp only[List.length_map,List.length_range,List.length_cons,List.length_nil];omega
    ·have:i=(s.1 - k).toNat:=by omega
     subst this
     rw[decide_eq_false (show ¬ k+(((s.1 - k).toNat:Nat):Int) < s.1 by omega),cond_false,hk]
theorem Zbo.spec(s:ZbK)(k:Int):Zbo.wp s k (fun r=>r=Zbo.fn (s,k,())):=Zbk.spec s k
theorem law05_ElimMany.spec(s:ZbK)(l:List Int)(k:Int):law05_ElimMany.wp s l k (fun r=>r=true):=by
 simp only[law05_ElimMany.wp,Za0.fn,ZaJ.fn,Zbk.fn,Zbo.fn,Ztc,Zy.fn]
 cases ZA.fn _<;>cases decide (100 < ((l.length:Nat):Int))<;>simp
end Go.Proofs.YtgpdnmfpgkkgcaaGreatDoor
namespace Go.Proofs.YtgpdnmfpgkkgcaaGreatDoor
open Go Go.ChangeAt Go.ChangeShapes Go.RowKit Go.WideShapes
set_option linter.unusedVariables false
section
def Wf:(T:Ty)→T.den→Prop
 | .int k,n=>(Lit.int k n).wf=true
 | .bool,_=>True
 | .str,s=>ByteArray.size s≤maxLen
 | .sl T,l=>List.length (α:=T.den) l≤maxLen∧∀ x∈(l:List T.den),Wf T x
 | .pair a b,x=>Wf a x.1∧Wf b x.2
 | .unit,_=>True
def ZpW(P:Program)(F:TypeId→Ty→Prop):Nat→List Field→Ty→Prop
 | o,[f],T=>f.offset=o∧P.cellsOf f.type=T.size∧F f.type T
 | o,f::fs,.pair A B=>f.offset=o∧P.cellsOf f.type=A.size∧F f.type A∧ZpW P F (o+A.size) fs B
 | _,_,_=>False
def FitT(P:Program):Nat→TypeId→Ty→Prop
 | 0,_,_=>False
 | n+1,t,T=>(match T with
   | .int k=>P.underlying t=some (.int k)
   | .bool=>P.underlying t=some .bool
   | .str=>P.underlying t=some .string
   | .sl T=>∃ e,P.underlying t=some (.slice e)∧P.cellsOf e=T.size∧0 < T.size∧FitT P n e T
   | _=>False)∨∃ fs,P.underlying t=some (.struct fs)∧P.cellsOf t=T.size∧ZpW P (FitT P n) 0 fs.toList T
section
variable {H:Type} {enc:TypeId×Value→H} {P:Program} {W:World} {held:Bool}
abbrev ZtR(W:World):Nat→Prop:=fun b=>b < W.heap.size
theorem Zrs{α:Type}{p:Nat→α→Prop}:∀ n:Nat,(∀ i,i < n→∃ y,p i y)→∃ l:List α,l.length=n∧∀ i y,l[i]?=some y→p i y
 | 0,_=>⟨[],rfl,fun i y h=>by simp at h⟩
 | n+1,h=>by
   obtain⟨l,hl,hp⟩:=Zrs n fun i hi=>h i (by omega)
   obtain⟨y,hy⟩:=h n (by omega)
   refine⟨l++[y],by simp[hl],fun i z hz=>?_⟩
   by_cases e:i < l.length
   ·rw[List.getElem?_append_left e] at hz;exact hp i z hz
   ·rw[List.getElem?_append_right (by omega)] at hz
    have:i=l.length:=by
     have:=(List.getElem?_eq_some_iff.1 hz).1
     simp at this;omega
    subst this
    simp at hz
    subst hz
    rw[hl];exact hy
theorem Zv8 {F : TypeId → Ty → Prop} {m : Nat} (hF : ∀ t T, F t T → ∀ cs x, DataW.trod enc P W 0 (fun _ => true) held m t cs = some x → ∃ y : T.den, Zbq W (ZtR W) T y cs ∧ Wf T y) :
 ∀ {fs:List Field} {o:Nat} {T:Ty} {cs:List Value},ZpW P F o fs T→(∀ f∈fs,∃ x,DataW.trod enc P W 0 (fun _=>true) held m f.type ((cs.drop f.offset).take (P.cellsOf f.type))=some x)→cs.length=o+T.size →
  ∃ y:T.den,Zbq W (ZtR W) T y (cs.drop o)∧Wf T y
 | [],o,T,cs,h,_,_=>by unfold ZpW at h;exact h.elim
 | [f],o,T,cs,h,hx,hl=>by
   have h':f.offset=o∧P.cellsOf f.type=T.size∧F f.type T:=by unfold ZpW at h;exact h
   obtain⟨h1,h2,h3⟩:=h'
   obtain⟨x,hx⟩:=hx f (by simp)
   rw[h1,h2,List.take_of_length_le (by rw[List.length_drop];omega)] at hx
   exact hF _ _ h3 _ _ hx
 | f::g::fs,o,T,cs,h,hx,hl=>by
   cases T<;>unfold ZpW at h<;>try exact h.elim
   rename_i A B
   obtain⟨h1,h2,h3,h4⟩:=h
   have hl':cs.length=o+A.size+B.size:=by rw[hl];simp only[Ty.size];omega
   obtain⟨b,hb,hwb⟩:=Zv8 hF (cs:=cs) h4 (fun f hf=>hx f (by simp[List.mem_cons.1 hf])) hl'
   obtain⟨x,hx⟩:=hx f (by simp)
   rw[h1,h2] at hx
   obtain⟨a,ha,hwa⟩:=hF _ _ h3 _ _ hx
   refine⟨(a,b),⟨_,_,?_,ha,hb⟩,hwa,hwb⟩
   rw[← List.drop_drop,List.take_append_drop]
theorem Zn3{base:Nat}{a:Addr}{n:Nat}{cs:List Value}(h:W.cells? base a n=some cs)(hn:0 < n):a.spot=none∧a.block < W.heap.size∧cs.length=n∧∀ j u,cs[j]?=some u→W.cell? ⟨a.block,a.off+j,none⟩=some u:=by
 obtain⟨_,hl,hc⟩:=World.cells?_some h
 have h0:=hc 0 hn
 rw[List.getElem?_eq_getElem (by omega:0 < cs.length)] at h0
 simp only[Addr.add,if_true,World.cell?] at h0
 have hs:a.spot=none∧a.block < W.heap.size:=by
  split at h0
  ·rename_i hb
   refine⟨?_,(Array.getElem?_eq_some_iff.1 hb).1⟩
   split at h0
   ·cases h0
   ·rename_i hs;simpa using hs
  ·cases h0
 refine⟨hs.1,hs.2,hl,fun j u hj=>?_⟩
 have hjl:j < n:=by rw[← hl];exact (List.getElem?_eq_some_iff.1 hj).1
 rw[← hj,← hc j hjl]
 obtain⟨b,off,sp⟩:=a
 simp only at hs
 rw[hs.1]
 unfold Addr.add
 split
 ·rename_i e;subst e;rfl
 ·rfl
theorem Zos:∀ (n:Nat) {t:TypeId} {T:Ty},FitT P n t T→∀ (fuel:Nat) (cs:List Value) (x:DataW H×List MemPlace),DataW.trod enc P W 0 (fun _=>true) held fuel t cs=some x→∃ y:T.den,Zbq W (ZtR W) T y cs∧Wf T y
 | 0,_,_,h,_,_,_,_=>h.elim
 | n+1,t,T,h,fuel,cs,x,hx=>by
   unfold FitT at h
   rcases h with h | ⟨fs,h1,h2,h3⟩
   ·cases T with
    | int k =>
      obtain⟨z,rfl,_,hw⟩:=DataW.trod_int h hx
      exact⟨z,rfl,hw⟩
    | bool =>
      obtain⟨z,rfl,_⟩:=DataW.trod_bool h hx
      exact⟨z,rfl,trivial⟩
    | str =>
      obtain⟨z,rfl,_,hw⟩:=DataW.trod_string h hx
      exact⟨z,rfl,hw⟩
    | sl T =>
      obtain⟨e,h1,h2,h3,h4⟩:=h
      rcases DataW.trod_slice h1 hx with ⟨rfl,_⟩ | ⟨a,len,cap,elems,rest,m,_,rfl,_,_,hl,hm,hlen,hel,_,_⟩
      ·exact⟨[],⟨none,0,rfl,⟨Nat.le_refl _,Nat.zero_le _⟩,fun h=>absurd rfl h⟩,Nat.zero_le _,fun x hx=>by cases hx⟩
      ·have each:∀ i,i < len→∃ y:T.den,(a.block < W.heap.size∧(len≠0→a.spot=none)∧∃ cs',Zbq W (ZtR W) T y cs'∧∀ j u,cs'[j]?=some u→W.cell? ⟨a.block,a.off+i*T.size+j,none⟩=some u)∧Wf T y:=by
        intro i hi
        have h5:=hel i hi
        rw[List.getElem?_eq_getElem (by omega:i < elems.length),Option.bind_eq_some_iff] at h5
        obtain⟨cs',h6,h7⟩:=h5
        rw[h2] at h6
        obtain⟨y,hy,hw⟩:=Zos n h4 _ _ _ h7
        obtain⟨k1,k2,k3,k4⟩:=Zn3 h6 h3
        have hb:(a.add (i*T.size)).block=a.block:=by unfold Addr.add;split<;>rfl
        have ho:(a.add (i*T.size)).off=a.off+i*T.size:=by
         unfold Addr.add
         split
         ·rename_i e;rw[e];rfl
         ·rfl
        rw[hb,ho] at k4
        rw[hb] at k2
        refine⟨y,⟨k2,fun _=>?_,cs',hy,k4⟩,hw⟩
        have h50:=hel 0 (by omega)
        rw[List.getElem?_eq_getElem (by omega:0 < elems.length),Option.bind_eq_some_iff] at h50
        obtain⟨cs0,h60,_⟩:=h50
        rw[h2] at h60
        have:=(Zn3 h60 h3).1
        simpa[Addr.add] using this
       obtain⟨l,hll,hlp⟩:=Zrs len each
       refine⟨l,⟨some a,cap,by rw[hll],⟨by rw[hll];exact hl,hm⟩,fun hne=>?_⟩,by show l.length≤maxLen;omega,fun y hy=>?_⟩
       ·have hpos:0 < len:=by rw[← hll];exact List.length_pos_iff.2 hne
        obtain⟨y0,⟨hb,hs,_⟩,_⟩:=each 0 hpos
        refine⟨a.block,a.off,?_,hb,fun i x hi=>?_⟩
        ·have:=hs (by omega)
         obtain⟨b,off,sp⟩:=a
         simp only at this
         rw[this]
        ·obtain⟨⟨_,_,cs',h8,h9⟩,_⟩:=hlp i x hi
         exact⟨cs',h8,h9⟩
       ·obtain⟨i,hi⟩:=List.getElem?_of_mem hy
        exact (hlp i y hi).2
    | pair a b=>exact h.elim
    | unit=>exact h.elim
   ·obtain⟨xs,m,rfl,_,h4,h5,h6⟩:=DataW.trod_struct h1 hx
    have:=Zv8 (m:=m) (fun t T hF cs x hx=>Zos n hF m cs x hx) (cs:=cs) h3 (fun f hf=>by
     obtain⟨i,hi⟩:=List.getElem?_of_mem hf
     have hi':fs[i]?=some f:=by simpa using hi
     have:=h6 i f hi'
     have hlt:i < xs.length:=by rw[h5];exact (Array.getElem?_eq_some_iff.1 hi').1
     exact⟨xs[i],by rw[this,List.getElem?_eq_getElem hlt]⟩) (by rw[Nat.zero_add,h4,h2])
    simpa using this
def Zvg:Ty→Bool
 | .pair _ _=>false
 | _=>true
def Zr8(W:World):Env:=⟨W,ZtR W,fun _=>none⟩
theorem one_slice{r:Reach}{base:Nat}{t e:TypeId}{v:Value}(ht:P.underlying t=some (.slice e))(h:Value.okWide P W r base t v):v.cells=#[v]:=by obtain⟨a,l,c,rfl⟩:=okWide_slice ht h;rfl
theorem one_int{r:Reach}{base:Nat}{t:TypeId}{k:IntKind}{v:Value}(ht:P.underlying t=some (.int k))(h:Value.okWide P W r base t v):v.cells=#[v]:=by obtain⟨a,rfl⟩:=okWide_int ht h;rfl
theorem arg_plain{n:Nat}{t:TypeId}{T:Ty}{v:Value}{d:DataW H}{p:List MemPlace}(hf:FitT P n t T)(hp:Zvg T=true)(h:DataW.Trod enc P W 0 (fun _=>true) held t v d p)(hv:v.cells=#[v]):∃ y:T.den,Rep P (Zr8 W) (ZpK T y) v∧Wf T y:=by
 obtain⟨fuel,h⟩:=h
 rw[hv] at h
 obtain⟨y,hy,hw⟩:=Zos n hf _ _ _ h
 refine⟨y,?_,hw⟩
 cases T<;>first | exact .d hy | (cases hp;done)
theorem arg_agg {n : Nat} {t : TypeId} {a b : Ty} {v : Value} {d : DataW H} {p : List MemPlace} (hf : FitT P n t (.pair a b)) (h : DataW.Trod enc P W 0 (fun _ => true) held t v d p) {fs : Array Field} {r : Reach} {base : Nat} (ht : P.underlying t = some (.struct fs)) (hk : Value.okWide P W r base t v) :
 ∃ y:(Ty.pair a b).den,Rep P (Zr8 W) (ZpK (.pair a b) y) v∧Wf (.pair a b) y:=by
 obtain⟨cs,rfl,_⟩:=okWide_struct ht hk
 obtain⟨fuel,h⟩:=h
 obtain⟨y,hy,hw⟩:=Zos n hf _ _ _ h
 have hr:=Zdo (P:=P) (E:=Zr8 W) hy
 refine⟨y,.agg ?_ fun j hj=>?_,hw⟩
 ·have:=hr.1;simpa[Value.cells] using this
 ·have:=hr.2 j hj
  simpa[Value.cells,Array.getD_eq_getD_getElem?,List.getD_eq_getElem?_getD] using this
theorem sok_of {g : Nat} (hg : P.globalNamed "internal/strconv.uint64pow10" = some g) (h : Lib.TabIs P W "internal/strconv.uint64pow10" .u64 Lib.pow10Tab) : Sok P W (ZtR W) := by
 refine⟨fun b hb=>hb,g,?_,fun w' hw'=>?_⟩
 ·unfold Lib.TabIs World.var? at h
  rw[hg] at h
  simp only[Option.bind_some] at h
  split at h
  ·rename_i hb;exact (Array.getElem?_eq_some_iff.1 hb).1
  ·cases h
 ·unfold Lib.TabIs World.var? at h ⊢
  rw[hg] at h ⊢
  simp only[Option.bind_some] at h ⊢
  rw[hw'];exact h
theorem Zqw {τ : Zae} (hτ : Zbb P τ) {run : Zh0} (hrun : Zcb P run) {A : An} {f : FuncId} {fi : FI} (hok : fi.Ok P f) {ps : List PS} {xs : Zb9 ps} {C : Prop} (hw : C = fnW τ run A fi ps [.bool] xs fun r => r = true) (h : C) (hS : Sok P W (ZtR W)) {args : Array Value} (hr : Zbi P (Zr8 W) (Zjr ps xs) args.toList) :
 Calls P f args W fun e w'=>e=.returned (.bool true)∧Below W.heap.size W w':=by
 subst hw
 refine (Zl8 hτ hrun hok h hS hr).mono ?_
 rintro e w' ⟨v,S2,r,rfl,hg,hv,rfl⟩
 have hv':Rep P ⟨w',S2,fun _=>none⟩ (.d .bool true) v:=hv
 refine⟨?_,hg.os,hg.tape,hg.output,hg.size,fun k hk=>hg.frame k hk⟩
 cases hv' with | d h=>rw[(List.cons.inj (show [v]=[Value.bool true] from h)).1]
end
end
end Go.Proofs.YtgpdnmfpgkkgcaaGreatDoor
