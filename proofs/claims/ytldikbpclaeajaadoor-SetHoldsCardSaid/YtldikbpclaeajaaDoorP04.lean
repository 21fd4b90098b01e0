/- Part of a proof that a law of the program holds for every input: what the functions answer, in plain Lean. No conditions. -/
import Derived.Laws.AppendOwn
import Derived.Lib.Walk
import Derived.Shelf.Strconv.AppendIntPublic10
import Derived.Test.YtldikbpclaeajaaDoorK03
namespace Go.Proofs.YtldikbpclaeajaaDoor
open Go
set_option linter.defProp false
def iK:=@Array.size_replicate
def iM:=@Go.Lib.decDigits_length
def jG:=@Go.Lib.byteCells_length
def kQ:=@Go.Proofs.enters_of
def mI:=@Nat.le_add_right
def mS:=@Go.info_parts
set_option linter.unusedSimpArgs false
set_option linter.unusedVariables false
section
variable {P : Program} {τ : AK} {E : AB} {objs : AA}
theorem A7.trans{L K K2:AH}{T:Ty}{xs ys zs:List T.den}{w w2:World}(h:A7 P E L T xs w K ys){lo:Nat→Option AH}(k:A7 P ⟨w,E.S,lo⟩ K T ys w2 K2 zs):A7 P E L T xs w2 K2 zs:=by
 obtain⟨r1,a1,a2,a3,a4,a5⟩:=h;obtain⟨r2,b1,b2,b3,b4,b5⟩:=k;simp only at b1 b4 b5;have hK:∀b,r2=some b→b<E.w.heap.size→(Obj.row T xs).has L∧b=L.b:=λb hb AM=>by
  obtain⟨c1,rfl⟩:=b2 b hb;rcases a4 c1 with h|h;·exact h
  ·omega
 have AS:=a1.size;by_cases hr:∃b,b<E.w.heap.size∧(r1=some b∨r2=some b)
 ·obtain⟨b,hb,hrb⟩:=hr;have N6:(Obj.row T xs).has L∧b=L.b:=hrb.elim (a2 b) λh=>hK b h hb;refine⟨some b,⟨b1.os.trans a1.os,b1.tape.trans a1.tape,b1.output.trans a1.output,eO AS b1.size,λj hj AU=>?_⟩,λc hc=>by cases hc;exact N6,b3,λhh=>?_,eO a5 b5⟩;·have h1:some j≠r1:=λe=>AU (by have :=(a2 j e.symm).2;rw[this,N6.2]);have h2:some j≠r2:=λe=>AU (by have :=(hK j e.symm hj).2;rw[this,N6.2]);rw[b1.block j (by omega) h2,a1.block j hj h1]
  ·rcases b4 hh with⟨c1,c2⟩|h;·rw[c2];exact a4 c1
   ·exact .inr (by omega)
 ·refine⟨none,⟨b1.os.trans a1.os,b1.tape.trans a1.tape,b1.output.trans a1.output,eO AS b1.size,λj hj _=>?_⟩,λc hc=>(by cases hc),b3,λhh=>?_,eO a5 b5⟩;·have h1:some j≠r1:=λe=>hr ⟨j,hj,.inl e.symm⟩;have h2:some j≠r2:=λe=>hr ⟨j,hj,.inr e.symm⟩;rw[b1.block j (by omega) h2,a1.block j hj h1]
  ·rcases b4 hh with⟨c1,c2⟩|h;·rw[c2];exact a4 c1
   ·exact .inr (by omega)
theorem A7.after{L K:AH}{T:Ty}{xs zs:List T.den}{w w2:World}(h:E.w.grownBy w none)(hd:E.w.drawn≤w.drawn)(k:A7 P ⟨w,E.S,E.loc⟩ L T xs w2 K zs):A7 P E L T xs w2 K zs:=by
 obtain⟨r2,b1,b2,b3,b4,b5⟩:=k;simp only at b1 b4 b5;refine⟨r2,⟨b1.os.trans h.os,b1.tape.trans h.tape,b1.output.trans h.output,eO h.size b1.size,λj hj AU=>?_⟩,b2,b3,λhh=>?_,eO hd b5⟩;·have :=h.size;rw[b1.block j (by omega) AU,h.block j hj (by simp)]
 ·rcases b4 hh with h1|h1;·exact .inl h1
  ·have :=h.size;exact .inr (by omega)
theorem QI(hτ:Ah P τ){ops:Array Oper}{rest:List Oper}{o:Oper}{a:Act}{Q:Exit→Act→World→Prop}(EF:o.guard=none)(s x:Operand){ts tx e:TypeId}(ho:o.op=.call {callee:=.builtin .append,args:=#[s,x],argTypes:=#[ts,tx]}){dx:TypeDesc}{info:TypeInfo}{z:Value}{bytes:Nat}{T:Ty}{ys:List T.den}{news:List Value}{d:Value}(Am:P.underlying tx=some dx)(Ba:(∃ex,dx=.slice ex)∨dx=.string)(ht:P.underlying ts=some (.slice e))(hi:P.info? e=some info)(hz:info.zero=some z)(hsT:info.size=T.size)(hb:info.bytes=bytes)(hzz:z.cells.size=T.size)(AW:0<T.size)(hn1:Aa E.w E.S T ys news)(hn2:CO E.w info.size ys.length news d)(g:U P E objs){l:Nat}{xs:List T.den}{L:AH}(AI:O l objs=some (.row T xs))(hL:E.loc l=some L)(h1:(xs.length+ys.length)*bytes≤140737488355328)(h2:xs.length+ys.length≤9223372036854775807)(hs:a.eval s=L.v)(hx:a.eval x=d)(h:∀w K,A7 P E L T xs w K (xs++ys)→wpList P ops Q rest (a.put o.dst K.v) w):wpList P ops Q (o::rest) a E.w:=by obtain⟨L',hL',hat⟩:=g.at_ _ _ AI;rw[hL]at hL';cases hL';obtain⟨w,K,row,hw,BW,BJ,Bv,hrun⟩:=I5 (ty:=o.type) (k:=xs.length) hτ ht hi hz hsT hb hzz AW hn1 (.inl ⟨_,Am,Ba,hn2⟩) g AI hL hat (dT _) h1 h2 (Hk hat);rw[eD]at BJ Bv;refine wpList_plain EF λ_ hK=>?_;unfold Oper.wp execOp;simp only[ho,resolve,invoke,builtin,eQ,fQ,eF,List.map_toArray,fK,lN,hs,hx,hrun];exact hK _ _ (h w K ⟨row,hw,BW,BJ,Bv,MP _ _ _ _ hrun⟩)
end
end Go.Proofs.YtldikbpclaeajaaDoor
namespace Go.Proofs.YtldikbpclaeajaaDoor
open Go Go.Lib Go.Proofs Go.RowKit Go.Shelf Go.Sort
set_option linter.unusedSimpArgs false
set_option linter.unusedVariables false
section
variable {P : Program} {ρ : Ren} {E : AB} {objs : AA}
def BI(l:List UInt8):List Int:=l.map λb=>(b.toNat:Int)
theorem K4(w:World)(S:Nat→Prop):∀l:List UInt8,Aa w S (.int .u8) (BI l) (Lib.byteCells l)|[]=>rfl|b::l=>⟨[.int .u8 (b.toNat:Int)],Lib.byteCells l,rfl,rfl,K4 w S l⟩
theorem PO:Ah P λ_=>none:=λ_ _ h=>by cases h
set_option maxHeartbeats 6400000 in
set_option maxRecDepth 100000 in theorem Vx(L:LaysM.n288 P ρ)(u:Nat)(hu:u<100)(g:U P E objs){l:Nat}{xs:List Int}{Lc:AH}(AI:O l objs=some (.row (.int .u8) xs))(hL:E.loc l=some Lc)(Fu:xs.length+20≤140737488355328):Calls P (ρ.f 288) #[Lc.v,.int .u64 u,.int .i64 10] E.w λe w'=>∃K,e=.returned K.v∧A7 P E Lc (.int .u8) xs w' K (xs++BI (Lib.decDigits u)):=by
 have mixed:=L.mixed;have t5:=L.t5;have a5:=L.a5;have z5:=L.z5;have v5:=L.v5;have t37:=L.t37;have u37:=dU L.t37;have a37:=L.a37;have z37:=L.z37;have v37:=L.v37;have t53:=L.t53;have a53:=L.a53;have z53:=L.z53;have v53:=L.v53;have t3:=L.t3;have a3:=L.a3;have z3:=L.z3;have v3:=L.v3;have t4:=L.t4;have a4:=L.a4;have z4:=L.z4;have v4:=L.v4;have t9:=L.t9;have a9:=L.a9;have z9:=L.z9;have v9:=L.v9;have t171:=L.t171;have a171:=L.a171;have z171:=L.z171;have v171:=L.v171;have t0:=L.t0;have a0:=L.a0;have z0:=L.z0;have v0:=L.v0;have t173:=L.t173;have a173:=L.a173;have z173:=L.z173;have v173:=L.v173;have e283:∀args w,(callFunc (ρ.f 283) args).run P w=.ok (.enter (ρ.f 283) args) w:=kQ L.f283 (by kernel_rfl) rfl;obtain⟨i0,hi,BR,C9,D0⟩:=mS L.i5;have hlen:(Lib.decDigits u).length≤20:=by
  rw[iM];by_cases Au:u<10;·rw[Lib.nDigits_small Au];omega
  ·rw[Lib.nDigits_big Au,Lib.nDigits_small (show u/10<10 by omega)];omega
 have AS:(⟨(Lib.decDigits u).toArray⟩:ByteArray).size=(Lib.decDigits u).length:=by simp[ByteArray.size]
 have EE:(BI (Lib.decDigits u)).length=(Lib.decDigits u).length:=by simp[BI]
 obtain⟨sv,Cp⟩:∃sv,sv=Lc.v:=⟨_,rfl⟩;have HG:Hid (U P E objs):=g;have HO:Hid (O l objs=some (.row (.int .u8) xs)):=AI;have HL:Hid (E.loc l=some Lc):=hL;have HS:Hid (sv=Lc.v):=Cp;rw[←Cp];clear g AI hL Cp;go_enter L.f288,Body.n288_ntmps ρ;go_wp2_with(first|(go_at_fn ρ.f 283;refine(Any.internal_strconv_small {L with} u hu _).mono ?_;rintro e w'⟨rfl,rfl⟩)|(at_builtin;(refine QI (T:=.int .u8) (PO (P:=P)) rfl _ _ rfl L.t9 (.inr rfl) L.t37 hi BR C9 D0 rfl (by decide) (K4 _ _ (Lib.decDigits u)) ⟨?c1,.inr ⟨_,rfl,?c2,rfl⟩⟩ HG.out HO.out HL.out ?c3 ?c4 HS.out rfl ?c5)));case c1=>rw[jG,EE,C9,hN]
 case c2=>rw[EE,AS]
 case c3=>rw[EE];omega
 case c4=>rw[EE];omega
 case c5=>intro w K hK;have HK:Hid (A7 P E Lc (.int .u8) xs w K (xs++BI (Lib.decDigits u))):=hK;clear hK;go_wp2;go_ret;exact⟨K,rfl,HK.out⟩
set_option maxHeartbeats 12800000 in
set_option maxRecDepth 100000 in theorem Vw(L:LaysM.n288 P ρ)(u:Nat)(hu:100≤u)(Ew:u<18446744073709551616)(g:U P E objs){l:Nat}{xs:List Int}{Lc:AH}(AI:O l objs=some (.row (.int .u8) xs))(hL:E.loc l=some Lc)(Fu:xs.length+20≤140737488355328)(TQ:Lib.TabIs P E.w "internal/strconv.uint64pow10" .u64 Lib.pow10Tab):Calls P (ρ.f 288) #[Lc.v,.int .u64 u,.int .i64 10] E.w λe w'=>∃K,e=.returned K.v∧A7 P E Lc (.int .u8) xs w' K (xs++BI (Lib.decDigits u)):=by
 have mixed:=L.mixed;have t5:=L.t5;have a5:=L.a5;have z5:=L.z5;have v5:=L.v5;have t37:=L.t37;have u37:=dU L.t37;have a37:=L.a37;have z37:=L.z37;have v37:=L.v37;have t53:=L.t53;have a53:=L.a53;have z53:=L.z53;have v53:=L.v53;have t3:=L.t3;have a3:=L.a3;have z3:=L.z3;have v3:=L.v3;have t4:=L.t4;have a4:=L.a4;have z4:=L.z4;have v4:=L.v4;have t9:=L.t9;have a9:=L.a9;have z9:=L.z9;have v9:=L.v9;have t171:=L.t171;have a171:=L.a171;have z171:=L.z171;have v171:=L.v171;have t0:=L.t0;have a0:=L.a0;have z0:=L.z0;have v0:=L.v0;have t173:=L.t173;have a173:=L.a173;have z173:=L.z173;have v173:=L.v173;have e284:∀args w,(callFunc (ρ.f 284) args).run P w=.ok (.enter (ρ.f 284) args) w:=kQ L.f284 (by kernel_rfl) rfl;have e285:∀args w,(callFunc (ρ.f 285) args).run P w=.ok (.enter (ρ.f 285) args) w:=kQ L.f285 (by kernel_rfl) rfl;obtain⟨i0,hi,BR,C9,D0⟩:=mS L.i5;have Lm:1≤u:=by omega
 have dD:Lib.nDigits u≤20:=by have :=Lib.numDigits_eq u Lm Ew;split at this<;>omega
 have hal:P.arrayLen (ρ.t 171)=24:=by simp[Program.arrayLen,L.t171]
 have FP:∀W,(Instr.sliceAt (ρ.t 171) (.pointer (some ⟨E.w.heap.size,0,none⟩)) none (some (.int .i64 (Lib.nDigits u:Int))) none).run P W=.ok (.slice (some ⟨E.w.heap.size,0,none⟩) (Lib.nDigits u) 24) W:=λW=>by rw[run_sliceAt_array_h W (ρ.t 171) ⟨E.w.heap.size,0,none⟩ (by simp[Program.arrayLen,Program.elem,L.t171]) .i64 (Lib.nDigits u:Int) (by omega) (by rw[hal];omega)];go_simp
 have EE:(BI (Lib.decDigits u)).length=Lib.nDigits u:=by simp[BI,iM]
 obtain⟨sv,Cp⟩:∃sv,sv=Lc.v:=⟨_,rfl⟩;have HG:Hid (U P E objs):=g;have HO:Hid (O l objs=some (.row (.int .u8) xs)):=AI;have HL:Hid (E.loc l=some Lc):=hL;have HS:Hid (sv=Lc.v):=Cp;have HE:Hid (∀w:World,E.w.grownBy w none→E.w.drawn≤w.drawn→U P ⟨w,E.S,E.loc⟩ objs):=λw hw hd=>(g.grow (w:=w) (S:=E.S) ⟨hd,hw.os,hw.tape,hw.output,hw.size,λb hb=>hw.block b hb (by simp),λ_ h=>h,λ_ h=>.inl h,λb hb=>gF (g.sl b hb) hw.size⟩).1;have HA:Hid (∀(w w2:World)(K:AH),E.w.grownBy w none→E.w.drawn≤w.drawn→A7 P ⟨w,E.S,E.loc⟩ Lc (.int .u8) xs w2 K (xs++BI (Lib.decDigits u))→A7 P E Lc (.int .u8) xs w2 K (xs++BI (Lib.decDigits u))):=λw w2 K h hd k=>A7.after h hd k;have HC:Hid (∀(w:World),Aa w E.S (.int .u8) (BI (Lib.decDigits u)) (Lib.byteCells (Lib.decDigits u))):=λw=>K4 w E.S _;rw[←Cp];clear g AI hL Cp;obtain⟨w,hw⟩:∃w,w=E.w:=⟨_,rfl⟩;have HW:Hid (w=E.w):=hw;rw[←hw]at FP TQ⊢;clear hw;have N5:=Lib.holds_zero0 w (ρ.t 171) (Lib.nDigits u) (by omega);have hfmt:=Any.internal_strconv_formatBase10 {L with} w.heap.size 0 24 u (Array.replicate (Lib.nDigits u) 0) (w.alloc (.cells Lib.zeros24 (ρ.t 171))) N5 (by rw[iK];exact Lib.lt_pow_nDigits u) Ew (by rw[iK];omega);rw[iK]at hfmt;have HH0:=Lib.hid N5;have iu:(100:Int)≤(u:Int):=by omega
 clear N5 hal;go_enter L.f288,Body.n288_ntmps ρ;go_wp2_with(first|(go_at_fn ρ.f 284;refine(Any.internal_strconv_numDigits {L with} u Lm Ew _ (Lib.tabIs_alloc TQ _)).mono ?_;rintro e w'⟨rfl,rfl⟩));go_at_fn ρ.f 285;refine hfmt.mono ?_;rintro e w'⟨rfl,k,v',dk,rfl,hF⟩;have hcells:∀j u',(Lib.byteCells (Lib.decDigits u))[j]?=some u'→((putRow (λ(b:UInt8)=>Value.int .u8 (b.toNat:Int)) (w.alloc (.cells Lib.zeros24 (ρ.t 171))) w.heap.size 0 dk).drewN k).cell? ((⟨w.heap.size,0,none⟩:Addr).add j)=some u':=by
  intro j u' hj;have FM:j<(Lib.decDigits u).length:=by have h5:=(List.getElem?_eq_some_iff.1 hj).1;rwa[jG]at h5
  have e5:(Lib.byteCells (Lib.decDigits u))[j]?=some (Value.int .u8 ((Lib.decDigits u)[j].toNat:Int)):=by simp[Lib.byteCells,FM]
  rw[e5]at hj;cases hj;rw[Lib.row_is_numeral hF j FM,Lib.add_plain,World.cell?_drewN];exact cell?_putRow (λ(b:UInt8)=>Value.int .u8 (b.toNat:Int)) _ w.heap.size 0 _ dk HH0.out (by rw[hF.size,iK]) j (by rw[hF.size];rw[iM]at FM;exact FM)
 obtain⟨os,eo⟩:=Lib.fin_at w (.cells Lib.zeros24 (ρ.t 171)) dk k 0;have hbel:Below w.heap.size w ((putRow (λ(b:UInt8)=>Value.int .u8 (b.toNat:Int)) (w.alloc (.cells Lib.zeros24 (ρ.t 171))) w.heap.size 0 dk).drewN k):=by rw[eo];exact Lib.below_grow w.heap.size w (dT _) k os
 have Dv:w.drawn≤((putRow (λ(b:UInt8)=>Value.int .u8 (b.toNat:Int)) (w.alloc (.cells Lib.zeros24 (ρ.t 171))) w.heap.size 0 dk).drewN k).drawn:=by rw[eo];exact mI _ _
 generalize(putRow (λ(b:UInt8)=>Value.int .u8 (b.toNat:Int)) (w.alloc (.cells Lib.zeros24 (ρ.t 171))) w.heap.size 0 dk).drewN k=W2 at hcells hbel Dv⊢;have hgr:E.w.grownBy W2 none:=by rw[←HW.out];exact⟨hbel.os,hbel.tape,hbel.output,hbel.size,λk hk _=>hbel.block k hk⟩
 have HG2:Hid (U P ⟨W2,E.S,E.loc⟩ objs):=HE.out W2 hgr (by rw[←HW.out];exact Dv);have HGR:Hid (E.w.grownBy W2 none):=hgr;have HDR:Hid (E.w.drawn≤W2.drawn):=by rw[←HW.out];exact Dv
 clear eo HH0 hfmt hbel Dv hgr;go_wp2_with(at_builtin;refine QI (E:=⟨W2,E.S,E.loc⟩) (T:=.int .u8) (PO (P:=P)) rfl _ _ rfl L.t37 (.inl ⟨_,rfl⟩) L.t37 hi BR C9 D0 rfl (by decide) (HC.out W2) ⟨?c1,.inl ⟨some ⟨w.heap.size,0,none⟩,24,?c2,λ_=>⟨_,rfl,hcells⟩⟩⟩ HG2.out HO.out HL.out ?c3 ?c4 HS.out rfl ?c5);case c1=>rw[jG,EE,C9,hN,iM]
 case c2=>rw[EE];rfl
 case c3=>rw[EE];omega
 case c4=>rw[EE];omega
 case c5=>intro w3 K hK;have HK:Hid (A7 P E Lc (.int .u8) xs w3 K (xs++BI (Lib.decDigits u))):=HA.out W2 w3 K HGR.out HDR.out hK;clear hK;go_wp2;go_ret;exact⟨K,rfl,HK.out⟩
theorem bG{w:World}{S:Nat→Prop}(h:H1 P w S):Lib.TabIs P w "internal/strconv.uint64pow10" .u64 Lib.pow10Tab:=by obtain⟨b,_,h⟩:=h;exact h w rfl
theorem Ql(L:LaysM.n288 P ρ)(u:Nat)(Ew:u<18446744073709551616)(g:U P E objs){l:Nat}{xs:List Int}{Lc:AH}(AI:O l objs=some (.row (.int .u8) xs))(hL:E.loc l=some Lc)(Fu:xs.length+20≤140737488355328):Calls P (ρ.f 288) #[Lc.v,.int .u64 u,.int .i64 10] E.w λe w'=>∃K,e=.returned K.v∧A7 P E Lc (.int .u8) xs w' K (xs++BI (Lib.decDigits u)):=by
 by_cases h:u<100;·exact Vx {L with} u h g AI hL Fu
 ·exact Vw {L with} u (by omega) Ew g AI hL Fu (bG g.tab)
theorem Vv(L:LaysM.n288 P ρ)(u:Nat)(Ew:u<18446744073709551616)(g:U P E objs){l:Nat}{xs ys:List Int}{Lc K:AH}{w:World}(AI:O l objs=some (.row (.int .u8) xs))(hL:E.loc l=some Lc)(h:A7 P E Lc (.int .u8) xs w K ys)(Fu:ys.length+20≤140737488355328):Calls P (ρ.f 288) #[K.v,.int .u64 u,.int .i64 10] w λe w'=>∃K,e=.returned K.v∧A7 P E Lc (.int .u8) xs w' K (ys++BI (Lib.decDigits u)):=by
 obtain⟨g1,st⟩:=h.put g AI hL;have ho1:O l (edit objs (some (l,.row (.int .u8) ys,true)))=some (.row (.int .u8) ys):=by simp[edit,O]
 exact gG (Ql L u Ew g1 ho1 (A6 _ _ _ _) Fu) λe w'⟨K2,h1,h2⟩=>⟨K2,h1,h.trans h2⟩
set_option maxHeartbeats 6400000 in
set_option maxRecDepth 100000 in theorem Vr(L:LaysM.n249 P ρ)(i:Int)(h0:-9223372036854775808≤i)(h1:i≤9223372036854775807)(g:U P E objs){l:Nat}{xs:List Int}{Lc:AH}(AI:O l objs=some (.row (.int .u8) xs))(hL:E.loc l=some Lc)(Fu:xs.length+21≤140737488355328):Calls P (ρ.f 249) #[Lc.v,.int .i64 i,.int .i64 10] E.w λe w'=>∃K,e=.returned K.v∧A7 P E Lc (.int .u8) xs w' K (xs++BI (Lib.itoa i)):=by
 have mixed:=L.mixed;have t5:=L.t5;have a5:=L.a5;have z5:=L.z5;have v5:=L.v5;have t37:=L.t37;have u37:=dU L.t37;have a37:=L.a37;have z37:=L.z37;have v37:=L.v37;have t2:=L.t2;have a2:=L.a2;have z2:=L.z2;have v2:=L.v2;have t3:=L.t3;have a3:=L.a3;have z3:=L.z3;have v3:=L.v3;have t53:=L.t53;have a53:=L.a53;have z53:=L.z53;have v53:=L.v53;have t4:=L.t4;have a4:=L.a4;have z4:=L.z4;have v4:=L.v4;have e288:∀args w,(callFunc (ρ.f 288) args).run P w=.ok (.enter (ρ.f 288) args) w:=kQ L.f288 (by kernel_rfl) rfl;obtain⟨i0,hi,BR,C9,D0⟩:=mS L.i5;obtain⟨sv,Cp⟩:∃sv,sv=Lc.v:=⟨_,rfl⟩;by_cases Jt:i<0
 ·obtain⟨u,rfl⟩:∃u:Nat,i=-(u:Int):=⟨i.natAbs,by omega⟩;have Lm:1≤u:=by omega
  have Ew:u<18446744073709551616:=by omega
  have TT:IntKind.u64.wrap (-IntKind.u64.wrap (-(u:Int)))=(u:Int):=by rw[IntKind.wrap_u64,IntKind.wrap_u64];omega
  rw[Lib.itoa_neg u Lm];have HU:Hid (∀(w:World)(K:AH)(ys:List Int),A7 P E Lc (.int .u8) xs w K ys→ys.length+20≤140737488355328→Calls P (ρ.f 288) #[K.v,.int .u64 u,.int .i64 10] w λe w'=>∃K,e=.returned K.v∧A7 P E Lc (.int .u8) xs w' K (ys++BI (Lib.decDigits u))):=λw K ys h hl=>Vv {L with} u Ew g AI hL h hl;have HE:Hid (∀w:World,E.w.grownBy w none→E.w.drawn≤w.drawn→U P ⟨w,E.S,E.loc⟩ objs):=λw hw hd=>(g.grow (w:=w) (S:=E.S) ⟨hd,hw.os,hw.tape,hw.output,hw.size,λb hb=>hw.block b hb (by simp),λ_ h=>h,λ_ h=>.inl h,λb hb=>gF (g.sl b hb) hw.size⟩).1;have HA:Hid (∀(w w2:World)(K:AH),E.w.grownBy w none→E.w.drawn≤w.drawn→A7 P ⟨w,E.S,E.loc⟩ Lc (.int .u8) xs w2 K (xs++BI [45])→A7 P E Lc (.int .u8) xs w2 K (xs++BI [45])):=λw w2 K h hd k=>A7.after h hd k;have HC:Hid (∀(w:World),Aa w E.S (.int .u8) (BI [45]) [Value.int .u8 45]):=λw=>K4 w E.S [45];have HO:Hid (O l objs=some (.row (.int .u8) xs)):=AI;have HL:Hid (E.loc l=some Lc):=hL;have HS:Hid (sv=Lc.v):=Cp;have HD:Hid (BI (45::Lib.decDigits u)=BI [45]++BI (Lib.decDigits u)):=(rfl:BI (45::Lib.decDigits u)=BI [45]++BI (Lib.decDigits u));rw[←Cp];clear g AI hL Cp;obtain⟨w,hw⟩:∃w,w=E.w:=⟨_,rfl⟩;have HW:Hid (w=E.w):=hw;rw[←hw];clear hw;go_enter L.f249,Body.n249_ntmps ρ;have hgr:∀o,E.w.grownBy (w.alloc o) none:=λo=>by rw[←HW.out];exact fV w o none
  have HG2:Hid (∀o,U P ⟨w.alloc o,E.S,E.loc⟩ objs):=λo=>HE.out _ (hgr o) (by rw[←HW.out];exact dT _);have HGR:Hid (∀o,E.w.grownBy (w.alloc o) none):=hgr;clear hgr;go_wp2_with(at_builtin;refine QI (E:=⟨w.alloc _,E.S,E.loc⟩) (T:=.int .u8) (PO (P:=P)) rfl _ _ rfl L.t37 (.inl ⟨_,rfl⟩) L.t37 hi BR C9 D0 rfl (by decide) (HC.out _) ⟨by rw[C9];rfl,.inl ⟨some ⟨w.heap.size,0,none⟩,1,rfl,λ_=>⟨_,rfl,by intro j u' hj;match j,hj with|0,hj=>simp at hj;subst hj;simp[Addr.add]⟩⟩⟩ (HG2.out _) HO.out HL.out (by show(xs.length+1)*1≤_;omega) (by show xs.length+1≤_;omega) HS.out rfl ?c5);case c5=>intro w1 K1 Sa;have HK1:Hid (A7 P E Lc (.int .u8) xs w1 K1 (xs++BI [45])):=HA.out _ w1 K1 (HGR.out _) (by rw[←HW.out];exact dT _) Sa;clear Sa;go_wp2_with(go_at_fn ρ.f 288;refine(HU.out w1 K1 _ HK1.out (by rw[dW];show xs.length+1+20≤_;omega)).mono ?_;rintro e w2⟨K2,rfl,GS⟩);have HK2:Hid (A7 P E Lc (.int .u8) xs w2 K2 (xs++BI [45]++BI (Lib.decDigits u))):=GS;clear GS;go_wp2;go_ret;refine⟨K2,rfl,?_⟩;rw[HD.out,←gA];exact HK2.out
 ·obtain⟨u,rfl⟩:∃u:Nat,i=u:=⟨i.toNat,by omega⟩;have Ew:u<18446744073709551616:=by omega
  rw[Lib.itoa_nonneg];have HU:Hid (Calls P (ρ.f 288) #[sv,.int .u64 u,.int .i64 10] E.w λe w'=>∃K,e=.returned K.v∧A7 P E Lc (.int .u8) xs w' K (xs++BI (Lib.decDigits u))):=by rw[Cp];exact Ql {L with} u Ew g AI hL (by omega)
  rw[←Cp];clear g AI hL Cp;go_enter L.f249,Body.n249_ntmps ρ;go_wp2_with(go_at_fn ρ.f 288;refine HU.out.mono ?_;rintro e w2⟨K2,rfl,GS⟩);have HK2:Hid (A7 P E Lc (.int .u8) xs w2 K2 (xs++BI (Lib.decDigits u))):=GS;clear GS;go_wp2;first|go_ret|go_ret2
  exact⟨K2,rfl,HK2.out⟩
set_option maxRecDepth 100000 in
theorem Vu(L:LaysM.n176 P ρ)(i:Int)(h0:-9223372036854775808≤i)(h1:i≤9223372036854775807)(g:U P E objs){l:Nat}{xs:List Int}{Lc:AH}(AI:O l objs=some (.row (.int .u8) xs))(hL:E.loc l=some Lc)(Fu:xs.length+21≤140737488355328):Calls P (ρ.f 176) #[Lc.v,.int .i64 i,.int .i64 10] E.w λe w'=>∃K,e=.returned K.v∧A7 P E Lc (.int .u8) xs w' K (xs++BI (Lib.itoa i)):=by
 have mixed:=L.mixed;have t5:=L.t5;have a5:=L.a5;have z5:=L.z5;have v5:=L.v5;have t37:=L.t37;have u37:=dU L.t37;have a37:=L.a37;have z37:=L.z37;have v37:=L.v37;have t2:=L.t2;have a2:=L.a2;have z2:=L.z2;have v2:=L.v2;have t3:=L.t3;have a3:=L.a3;have z3:=L.z3;have v3:=L.v3;have e249:∀args w,(callFunc (ρ.f 249) args).run P w=.ok (.enter (ρ.f 249) args) w:=kQ L.f249 (by kernel_rfl) rfl;obtain⟨sv,Cp⟩:∃sv,sv=Lc.v:=⟨_,rfl⟩;have HU:Hid (Calls P (ρ.f 249) #[sv,.int .i64 i,.int .i64 10] E.w λe w'=>∃K,e=.returned K.v∧A7 P E Lc (.int .u8) xs w' K (xs++BI (Lib.itoa i))):=by rw[Cp];exact Vr {L with} i h0 h1 g AI hL Fu
 rw[←Cp];clear g AI hL Cp;go_enter L.f176,Body.n176_ntmps ρ;go_wp2_with(go_at_fn ρ.f 249;refine HU.out.mono ?_;rintro e w2⟨K2,rfl,GS⟩);have HK2:Hid (A7 P E Lc (.int .u8) xs w2 K2 (xs++BI (Lib.itoa i))):=GS;clear GS;go_wp2;go_ret;exact⟨K2,rfl,HK2.out⟩
theorem Vs(L:LaysM.n176 P ρ)(hc:Bu P (ρ.f 176)):Sp.Ok P (ρ.f 176) .appInt:=by
 refine⟨hc,λbs i Bw E objs l Lc g AI hL=>?_⟩;obtain⟨hf,hl⟩:=Bw;refine gG (Vu L i hf.1 hf.2 g AI hL hl) ?_;rintro e w2⟨K,rfl,hK⟩;have Dv:E.w.drawn≤w2.drawn:=by obtain⟨_,_,_,_,_,h⟩:=hK;exact h
 have hp:=hK.put g AI hL;exact⟨K.v,E.setL w2 l K,bs++Aq i,rfl,rfl,rfl,hp.1,hp.2,Dv,.osl (A6 _ _ _ _)⟩
end
end Go.Proofs.YtldikbpclaeajaaDoor
