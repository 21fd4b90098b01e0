/- Part of a proof that a law of the program holds for every input: how abstract states follow the program. No conditions. -/
import Derived.Shelf.Slices.Clone
import Derived.Shelf.Slices.Delete
import Derived.Shelf.Spec.SlicesInsert
import Derived.Shelf.Spec.SlicesInsertGrow
import Derived.Test.YtldikbpclaeajaaGreatDoorK07
namespace Go.Proofs.YtldikbpclaeajaaGreatDoor
open Go Go.Lib Go.Proofs Go.RowKit Go.Shelf Go.Sort
set_option linter.defProp false
def yQ:=@Int.toNat_natCast
def ZA2:=@List.drop_length
def ZBT:=@Nat.sub_self
def ZBn:=@List.getElem_append_left
def ZCd:=@Go.Proofs.Any2.slices_Insert_int_end_grow
set_option linter.unusedSimpArgs false
set_option linter.unusedVariables false
section
variable {P : Program} {ρ : Ren}
abbrev iT:Ty:=.int .i64
def Rx:G1:=⟨iT,false,[.d (.sl iT)],λ_ ys=>ys.1.length*8≤140737488355328,λ_ ys=>ys.1⟩
def KF:G1:=⟨iT,true,[.d iT,.d iT],λxs ys=>xs≠[]∧0≤ys.1∧ys.1≤ys.2.1∧ys.2.1≤(xs.length:Int),λxs ys=>xs.take ys.1.toNat++xs.drop ys.2.1.toNat⟩
theorem sB:A6 P λ_=>none:=λ_ _ h=>by cases h
theorem bU{n m:Nat}{r:G1}(h:n=m)(hc:Bz P m)(k:Bz P n→Ij P n r):Ij P m r:=by subst h;exact k hc
theorem Rt(w:World)(S:Nat→Prop):∀l:List Int,Aq w S iT l (l.map (Value.int .i64))|[]=>rfl|n::l=>⟨[.int .i64 n],l.map (Value.int .i64),rfl,rfl,Rt w S l⟩
theorem PK{w:World}{S:Nat→Prop}:∀{l:List Int}{cs:List Value},Aq w S iT l cs→cs=l.map (Value.int .i64)|[],cs,h=>h|n::l,cs,⟨c1,c2,h,h1,h2⟩=>by rw[h,show c1=[Value.int .i64 n]from h1,PK h2];rfl
set_option maxHeartbeats 6400000 in
set_option maxRecDepth 100000 in theorem hY(L:Lays2.n15 P ρ)(a:Addr)(c:Nat)(xs:List Int){w:World}{S:Nat→Prop}(hS:DW P w S)(hc:BE w S (.sl iT) xs [.slice (some a) xs.length c])(xH:xs.length*8≤140737488355328):Calls P (ρ.f 15) #[.slice (some a) xs.length c] w λe w2=>∃K,e=.returned K.v∧w.grownBy w2 none∧w.drawn≤w2.drawn∧(∀lo,Aj P ⟨w2,S,lo⟩ K (.row iT xs))∧((Obj.row iT xs).has K→w.heap.size≤K.b):=by
 have mixed:=L.mixed;have t3:=L.t3;have a3:=L.a3;have z3:=L.z3;have v3:=L.v3;have t4:=L.t4;have a4:=L.a4;have z4:=L.z4;have v4:=L.v4;have t22:=L.t22;have a22:=L.a22;have z22:=L.z22;have v22:=L.v22;obtain⟨i0,hi,Ba,hz1,FU⟩:=ZDc L.i3;have q22:∀(w:World)(a:Option Addr)(n c n' c':Nat),(binOp .eql (ρ.t 22) (.slice a n c) (.slice none n' c')).run P w=.ok (.bool a.isNone) w:=λw a n c n' c'=>Lib.run_eql_slice_nil w _ _ a n c n' c' L.t22;have u22:∀w,Sem.run P (underlying (ρ.t 22)) w=.ok (TypeDesc.slice (ρ.t 3)) w:=zI t22;obtain⟨K0,EL⟩:∃K0:AU,K0=⟨w.heap.size,some ⟨w.heap.size,0,none⟩,0,0,1⟩:=⟨_,rfl⟩;have HB:Hid (∀o:Go.Obj,∃E:AH,E.w=w.alloc o∧E.S=S∧E.loc 0=some K0∧AC P E [(0,.row iT [])]∧∃cs,Aq E.w E.S iT xs cs∧DJ E.w iT.size xs.length cs (.slice (some a) xs.length c)):=by
  intro o;obtain⟨g,_⟩:=AC.push (P:=P) (E:=⟨w,S,λ_=>none⟩) (objs:=[]) (TC hS) (w:=w.alloc o) (l:=0) (L:=K0) (o:=.row iT []) rfl (ZAe w o none) (by rw[EL];exact⟨rfl,by decide,rfl,0,[],rfl,.inl ⟨rfl,rfl⟩⟩) λh=>by rw[EL]at h;exact absurd rfl h
  refine⟨_,rfl,rfl,Bi _ _ _ _,g,?_⟩;refine cI (E:=(⟨w,S,λ_=>none⟩:AH).setL (w.alloc o) 0 K0) (T:=iT) (hc.mono λb hb=>⟨hb,?_⟩);exact(ZAe w o none).block b (hS.lt b hb) (by simp)
 have HK:Hid (K0=⟨w.heap.size,some ⟨w.heap.size,0,none⟩,0,0,1⟩):=EL;have HG:Hid (∀(o:Go.Obj)(E:AH)(w1:World)(K:AU),E.w=w.alloc o→E.S=S→Bb P E K0 iT [] w1 K ([]++xs)→w.grownBy w1 none∧w.drawn≤w1.drawn∧(∀lo,Aj P ⟨w1,S,lo⟩ K (.row iT xs))∧((Obj.row iT xs).has K→w.heap.size≤K.b)):=by
  rintro o⟨Ew,ES,Elo⟩w1 K e1 e2⟨row,h1,h2,h3,h4,h5⟩;simp only at e1 e2 h1 h3 h4 h5;subst e1 e2;have hr:row=none:=by cases row with|none=>rfl|some b=>obtain⟨h,_⟩:=h2 b rfl;rw[EL]at h;exact absurd rfl h
  subst hr;have ga:=ZAe w o none;refine⟨⟨h1.os.trans ga.os,h1.tape.trans ga.tape,h1.output.trans ga.output,zV ga.size h1.size,λj hj hn=>?_⟩,h5,h3,λhh=>?_⟩;·have :=ga.size;rw[h1.block j (by omega) hn,ga.block j hj hn]
  ·rcases h4 hh with⟨h,_⟩|h;·rw[EL]at h;exact absurd rfl h
   ·exact zV ga.size h
 have HS:Hid (Value.slice (some ⟨w.heap.size,0,none⟩) 0 0=K0.v):=(by rw[EL];rfl:Value.slice (some ⟨w.heap.size,0,none⟩) 0 0=K0.v);clear hc hS EL;go_enter L.f15,Body2.n15_ntmps ρ;obtain⟨E,Ll,YI,YJ,YK,cs,YL,YM⟩:=HB.out (.cells #[] (ρ.t 3));have HE:Hid (E.w=w.alloc (.cells #[] (ρ.t 3))∧E.S=S∧E.loc 0=some K0∧AC P E [(0,.row iT [])]∧Aq E.w E.S iT xs cs∧DJ E.w iT.size xs.length cs (.slice (some a) xs.length c)):=⟨Ll,YI,YJ,YK,YL,YM⟩;clear Ll YI YJ YK YL YM;go_wp2_with(at_builtin;(rw[←HE.out.1]);refine RH (E:=E) (objs:=[(0,.row iT [])]) (l:=0) (L:=K0) (xs:=[]) (T:=iT) (sB (P:=P)) rfl _ _ rfl t22 (.inl ⟨_,rfl⟩) t22 hi Ba hz1 FU rfl (by decide) HE.out.2.2.2.2.1 ?c1 HE.out.2.2.2.1 rfl HE.out.2.2.1 ?c2 ?c3 HS.out rfl ?c4);case c1=>rw[hz1];exact HE.out.2.2.2.2.2
 case c2=>simp;omega
 case c3=>simp;omega
 case c4=>intro w1 K hK;have HH:=HG.out _ E w1 K HE.out.1 HE.out.2.1 hK;have HF:Hid (w.grownBy w1 none∧w.drawn≤w1.drawn∧(∀lo,Aj P ⟨w1,S,lo⟩ K (.row iT xs))∧((Obj.row iT xs).has K→w.heap.size≤K.b)):=HH;clear HH hK;go_wp2;go_ret;exact⟨K,rfl,HF.out⟩
theorem tZ{E:AH}{v:V}{cs:Array Value}(r:AS P E [v] cs.toList):∃c,cs=#[c]∧Z P E v c:=by obtain⟨l⟩:=cs;match l,r with|[c],r=>exact⟨c,rfl,r.head⟩|[],r=>exact absurd r.1 (by simp)|_::_::_,r=>exact absurd r.1 (by simp)
theorem hU(L:Lays2.n15 P ρ)(hc:Bz P (ρ.f 15)):Ij P (ρ.f 15) Rx:=by
 refine⟨hc,λw S ys hS hpre args ra=>?_⟩;obtain⟨c,rfl,rc⟩:=tZ (show AS P ⟨w,S,λ_=>none⟩ [.d (.sl iT) ys.1] args.toList from ra);have P0:=Jq (E:=⟨w,S,λ_=>none⟩) rc;obtain⟨a,cap,h1,h2,h3⟩:=id P0;obtain rfl:c=.slice a (List.length (α:=Int) ys.1) cap:=by simpa using h1
 cases a with|some a=>exact hY L a cap ys.1 hS P0 hpre|none=>
  have MG:ys.1=[]:=ZAf λhn=>by obtain⟨b,off,h,_⟩:=h3 hn;cases h
  refine ZAh (Any.slices_Clone_int_nil L _ _ w) ?_;rintro e w2⟨rfl,rfl⟩;refine⟨⟨0,none,0,0,1⟩,rfl,⟨rfl,rfl,rfl,zB _,λ_ _ _=>rfl⟩,zB _,λlo=>?_,λh=>absurd rfl h⟩;show Aj P _ _ (.row iT ys.1);rw[MG];exact⟨rfl,by decide,rfl,0,[],rfl,.inl ⟨rfl,rfl⟩⟩
theorem jA(L:Lays2.n23 P ρ){E:AH}{objs:AF}{l:Nat}{Lc:AU}{xs:List Int}(g:AC P E objs)(AZ:AA l objs=some (.row iT xs))(hL:E.loc l=some Lc)(Ab:xs≠[])(i j:Nat)(hij:i≤j)(hjn:j≤xs.length):Calls P (ρ.f 23) #[Lc.v,.int .i64 i,.int .i64 j] E.w λe w2=>∃K,e=.returned K.v∧Bb P E Lc iT xs w2 K (xs.take i++xs.drop j):=by
 obtain⟨L',hL',hat⟩:=g.at_ _ _ AZ;rw[hL]at hL';cases hL';obtain⟨C7,Ag,IK,e,cs,hcs,A9⟩:=hat;rcases A9 with⟨_,h'⟩|⟨cur,ha,hb,hle,CH,Bq,Ae,JX⟩;·exact absurd h' Ab
 have Na:=PK hcs;subst Na;have pG:cur.size=Lc.cap:=by rw[Ae];show Lc.cap*1=_;omega
 have pK:cur.toList.take xs.length=xs.map (Value.int .i64):=by have :=JX;rw[show xs.length*Ty.size iT=xs.length from ZA8 _]at this;exact this
 have hH:Holds (Value.int .i64) E.w Lc.b 0 xs.toArray:=by
  intro k hk;have hk':k<xs.length:=by simpa using hk
  have KS:cur[k]?=some (Value.int .i64 xs[k]):=by
   have :(cur.toList.take xs.length)[k]?=(xs.map (Value.int .i64))[k]?:=by rw[pK]
   rw[zP,yS hk',ZAR,ZAI,zK hk']at this;exact this
  refine⟨?_,by simp[World.frozen?,hb]⟩;simp only[World.cell?,hb,ZAJ];rw[ZBr _ k hk];simpa using KS
 have hv:Lc.v=.slice (some ⟨Lc.b,0,none⟩) xs.length Lc.cap:=by unfold AU.v;rw[IK,ha]
 have FS:(Obj.row iT xs).has Lc:=by show Lc.cap≠0;omega
 rw[hv];refine ZAh (Any.slices_Delete_int L Lc.b 0 Lc.cap i j xs E.w hH hle (by simpa[maxLen]using Bq) hij hjn) ?_;rintro e' w2⟨rfl,q,rfl⟩;obtain⟨zs,Cy⟩:∃zs:List Int,zs=xs.take i++xs.drop j:=⟨_,rfl⟩;have B3:zs.length=xs.length-(j-i):=by rw[Cy];simp;omega
 obtain⟨F,hF⟩:∃F:List Int,F=zs++List.replicate (j-i) 0:=⟨_,rfl⟩;have xB:F.length=xs.length:=by rw[hF,yU,B3,ZAD];omega
 rw[←Cy,←hF];refine⟨{Lc with len:=zs.length},by rw[←B3];unfold AU.v;rw[ha],some Lc.b,⟨rfl,rfl,rfl,?_,λk hk hn=>?_⟩,λb h=>by cases h;exact⟨FS,rfl⟩,λlo=>?_,λh=>.inl ⟨FS,rfl⟩,?_⟩;·simp[putRow,mapBlock]
 ·simp only[putRow,mapBlock,Sort.ahead,ZBf];rw[yP λe=>hn (by rw[e])]
 ·have oB:zs.length≤xs.length:=by omega
  refine⟨C7,Ag,rfl,e,zs.map (Value.int .i64),Rt _ _ _,.inr ⟨Sort.putCells (Value.int .i64) 0 F.toArray cur,ha,?_,zV oB hle,CH,Bq,?_,?_⟩⟩;·simp only[putRow,mapBlock,Sort.ahead,ZBf,yS,hb];rfl
  ·simp[Sort.putCells,Ae]
  ·rw[show zs.length*Ty.size iT=zs.length from ZA8 _];apply ZAZ;intro k;rw[zP,ZAI];split
   ·rename_i hk;have Yq:k<F.length:=by omega
    have nT:k<cur.size:=by omega
    rw[ZAR];simp only[Sort.putCells,ZDR];rw[ZAN nT];have oX:(F.toArray).size=F.length:=by simp
    simp only[ZCp,ZAl,ZAJ,ZCB,oX,yS Yq,ZCo];rw[ZBr F.toArray k (by simpa using Yq),zK hk];simp[hF,ZBn hk]
   ·rename_i hk;rw[ZAW (by omega)];rfl
 ·show E.w.drawn≤E.w.drawn+q;omega
theorem jB(L:Lays2.n23 P ρ)(hc:Bz P (ρ.f 23)):Ij P (ρ.f 23) KF:=by refine⟨hc,λE objs l Lc xs ys g AZ hL hpre args ra=>?_⟩;obtain⟨i,j,u⟩:=ys;obtain⟨Ab,h0,hij,hjn⟩:xs≠[]∧@LE.le Int _ 0 i∧@LE.le Int _ i j∧@LE.le Int _ j ((List.length (α:=Int) xs:Nat):Int):=hpre;obtain⟨i',hi⟩:∃n:Nat,i=(n:Int):=⟨Int.toNat i,(ZBV h0).symm⟩;obtain⟨j',hj⟩:∃n:Nat,j=(n:Int):=⟨Int.toNat j,(ZBV (Int.le_trans h0 hij)).symm⟩;subst hi hj;match args,ra with|[c,d],ra=>have e1:c=.int .i64 (i':Int):=N9 (show Z P ⟨E.w,E.S,λ_=>none⟩ (.d iT (i':Int)) c from ra.head);have e2:d=.int .i64 (j':Int):=N9 (show Z P ⟨E.w,E.S,λ_=>none⟩ (.d iT (j':Int)) d from ra.tail.head);subst e1 e2;have h:=jA L (xs:=xs) g AZ hL Ab i' j' (Int.ofNat_le.1 hij) (Int.ofNat_le.1 hjn);have e:KF.fn xs ((i':Int),(j':Int),u)=List.take i' (xs:List Int)++List.drop j' (xs:List Int):=rfl;rw[e];exact h|[],ra=>exact absurd ra.1 (by simp[CL,KF])|[_],ra=>exact absurd ra.1 (by simp[CL,KF])|_::_::_::_,ra=>exact absurd ra.1 (by simp[CL,KF])
end
section
variable {P : Program} {ρ : Ren}
theorem Md{b:Nat}{e:TypeId}:∀(vs:List Value)(o:Nat)(w:World)(cur:Array Value),w.heap[b]?=some (.cells cur e (0,0))→o+vs.length≤cur.size→∃cur',(w.setCells b o vs).heap[b]?=some (.cells cur' e (0,0))∧cur'.size=cur.size∧(∀j,cur'[j]?=if o≤j∧j<o+vs.length then vs[j-o]? else cur[j]?)∧w.grownBy (w.setCells b o vs) (some b)∧(w.setCells b o vs).drawn=w.drawn
 |[],o,w,cur,h,hl=>⟨cur,h,rfl,λj=>by rw[yP (by simp)],⟨rfl,rfl,rfl,zB _,λ_ _ _=>rfl⟩,rfl⟩|v::r,o,w,cur,h,hl=>by
  have hb:b<w.heap.size:=(Array.getElem?_eq_some_iff.1 h).1;have h1:(w.setCell ⟨b,o,none⟩ v).heap[b]?=some (.cells (cur.setIfInBounds o v) e (0,0)):=by simp[World.setCell,ZBf,h]
  obtain⟨cur',k1,k2,k3,k4,k5⟩:=Md r (o+1) (w.setCell ⟨b,o,none⟩ v) (cur.setIfInBounds o v) h1 (by simp at hl⊢;omega);refine⟨cur',k1,by simpa using k2,λj=>?_,⟨k4.os,k4.tape,k4.output,zV (ZDr (by simp[World.setCell])) k4.size,λk hk hn=>?_⟩,k5⟩
  ·rw[k3 j];simp only[yX]at hl⊢;by_cases e1:j=o;·subst e1;rw[yP (by omega),yS (by omega),ZBT,ZBZ,yS rfl,yS (by omega)];rfl
   ·by_cases e2:o+1≤j∧j<o+1+r.length;·rw[yS e2,yS (by omega),show j-o=j-(o+1)+1 by omega];rfl
    ·rw[yP e2,yP (by omega),ZBZ,yP (ZAM e1)]
  ·have h2:=k4.block k (by simpa[World.setCell]using hk) hn;rw[show World.setCells w b o (v::r)=World.setCells (w.setCell ⟨b,o,none⟩ v) b (o+1) r from rfl,h2];simp only[World.setCell,ZBf];rw[yP λe=>hn (by rw[e])]
theorem qO{xs zs:List Int}{i:Nat}(hi:i≤xs.length)(k:Nat):(xs.take i++zs++xs.drop i)[k]?=if k<i then xs[k]? else if k<i+zs.length then zs[k-i]? else xs[k-zs.length]?:=by
 have ht:(xs.take i).length=i:=by rw[zG];omega
 split;·rename_i h;rw[ZAO,ZAV (by omega),zP,yS h]
 ·split;·rename_i h1 h2;rw[ZAO,ZAS (by omega),ht,ZAV (by omega)]
  ·rename_i h1 h2;rw[ZAS (by rw[yU];omega),yU,ht,ZAs];congr 1;omega
theorem N8{E:AH}{w2:World}{b cap:Nat}{cur:Array Value}{e:TypeId}{ys:List Int}(h:w2.heap[b]?=some (.cells cur e (0,0)))(hs:cur.size=cap)(hl:ys.length≤cap)(hp:0<cap)(hm:cap≤maxLen)(hk:∀k,k<ys.length→cur[k]?=ys[k]?.map (Value.int .i64))(lo:Nat→Option AU):Aj P ⟨w2,E.S,lo⟩ ⟨b,some ⟨b,0,none⟩,ys.length,cap,1⟩ (.row iT ys):=by
 refine⟨rfl,Nat.zero_lt_one,rfl,e,ys.map (Value.int .i64),Rt _ _ _,.inr ⟨cur,rfl,h,hl,hp,hm,by rw[hs];exact(ZA8 _).symm,?_⟩⟩;rw[show List.length (α:=iT.den) ys*Ty.size iT=ys.length from ZA8 _];apply ZAZ;intro k;rw[zP,ZAI];split;·rename_i h1;rw[ZAR];exact hk k h1
 ·rename_i h1;rw[ZAW (by omega)];rfl
set_option maxHeartbeats 6400000 in
set_option maxRecDepth 100000 in theorem qP(L:Lays2.n21 P ρ)(a:Option Addr)(n c i:Nat)(a':Option Addr)(c':Nat)(w:World)(hi:i≤n)(hn:n≤c)(hc:c≤9223372036854775807)(MG:a=none→n=0∧c=0):Calls P (ρ.f 21) #[.slice a n c,.int .i64 i,.slice a' 0 c'] w λe w'=>e=.returned (.slice a n c)∧w'=w:=by have t0:=L.t0;have a0:=L.a0;have z0:=L.z0;have v0:=L.v0;have t3:=L.t3;have a3:=L.a3;have z3:=L.z3;have v3:=L.v3;have t4:=L.t4;have a4:=L.a4;have z4:=L.z4;have v4:=L.v4;have t22:=L.t22;have a22:=L.a22;have z22:=L.z22;have v22:=L.v22;have u0:=zI L.t0;have u3:=zI L.t3;have u4:=zI L.t4;have u22:=zI L.t22;have mixed:=L.mixed;have hz1:((0:Nat):Int)=0:=rfl;go_enter L.f21,Body2.n21_ntmps ρ;cases a with
 |none=>
  obtain⟨rfl,rfl⟩:=MG rfl;obtain rfl:i=0:=by omega
  go_wp2;go_ret;exact⟨rfl,rfl⟩|some a=>obtain⟨ab,ao,asp⟩:=a;go_wp2;all_goals(go_ret;exact⟨rfl,rfl⟩)
theorem qQ(L:Lays2.n21 P ρ)(hc:Bz P (ρ.f 21)):J0 P (ρ.f 21):=by
 refine⟨hc,λE objs l k Lc Kc xs zs i g hl hk MD hL hK h0 h1 h2=>?_⟩;obtain⟨i',rfl⟩:∃n:Nat,i=(n:Int):=⟨i.toNat,(ZBV h0).symm⟩;have hi:i'≤xs.length:=Int.ofNat_le.1 h1;rw[yQ];obtain⟨L',hL',hat⟩:=g.at_ _ _ hl;rw[hL]at hL';cases hL';obtain⟨K',hK',mM⟩:=g.at_ _ _ hk;rw[hK]at hK';cases hK';obtain⟨C7,Ag,IK,e,cs,hcs,A9⟩:=id hat;obtain⟨xS,_,oA,eK,csK,mY,oC⟩:=id mM;have Na:=PK hcs;subst Na;have mZ:=PK mY;subst mZ;have C6:xs.length≤Lc.cap∧Lc.cap≤9223372036854775807∧(Lc.a=none→xs.length=0):=by
  rcases A9 with⟨CH,hx⟩|⟨cur,ha,hb,hle,CH,Bq,Ae,JX⟩;·rw[hx];exact⟨ZAl _,by omega,λ_=>rfl⟩
  ·exact⟨hle,Bq,λh=>by rw[ha]at h;cases h⟩
 have hv:Lc.v=.slice Lc.a xs.length Lc.cap:=by unfold AU.v;rw[IK]
 have pP:Kc.v=.slice Kc.a zs.length Kc.cap:=by unfold AU.v;rw[oA]
 rw[hv,pP];have Lu:∀w2 M row,M=Lc∨True→E.w.grownBy w2 row→(∀b,row=some b→(Obj.row iT xs).has Lc∧b=Lc.b)→(∀lo,Aj P ⟨w2,E.S,lo⟩ M (.row iT (xs.take i'++zs++xs.drop i')))→((Obj.row iT (xs.take i'++zs++xs.drop i')).has M→(Obj.row iT xs).has Lc∧M.b=Lc.b∨E.w.heap.size≤M.b)→E.w.drawn≤w2.drawn→Bb P E Lc iT xs w2 M (xs.take i'++zs++xs.drop i'):=λw2 M row _ h1 h2 h3 h4 h5=>⟨row,h1,h2,h3,h4,h5⟩;by_cases hz:zs=[]
 ·subst hz;refine ZAh (qP L Lc.a xs.length Lc.cap i' Kc.a Kc.cap E.w hi C6.1 C6.2.1 λh=>⟨C6.2.2 h,?_⟩) ?_
  ·rcases A9 with⟨CH,_⟩|⟨cur,ha,_⟩;·exact CH
   ·rw[ha]at h;cases h
  ·rintro e' w2⟨rfl,rfl⟩;have hx:xs.take i'++[]++xs.drop i'=xs:=by rw[ZAT,ZAx]
   refine⟨Lc,by rw[hv],Lu _ Lc none (.inr trivial) ⟨rfl,rfl,rfl,zB _,λ_ _ _=>rfl⟩ (λb hb=>by cases hb) (λlo=>?_) (λh=>.inl ⟨h,rfl⟩) (zB _)⟩;rw[hx];exact hat
 have hm:0<zs.length:=List.length_pos_iff.2 hz;rcases oC with⟨_,hz'⟩|⟨curK,mG,Py,yC,xK,xM,yH,pL⟩;·exact absurd hz' hz
 have hlen:(xs.take i'++zs++xs.drop i').length=xs.length+zs.length:=by simp only[yU,zG,ZAF];omega
 have Ey:(zs.map (Value.int .i64)).length=zs.length:=zL _;have GR:(xs.map (Value.int .i64)).length=xs.length:=zL _;have KQ:∀(l:List Int),∀v∈l.map (Value.int .i64),v.oneCell'=true:=λl v hv=>by obtain⟨n,_,rfl⟩:=List.mem_map.1 hv;rfl
 have cells:∀{b:Nat}{cur:Array Value}{e:TypeId}{ys:List Int},E.w.heap[b]?=some (.cells cur e (0,0))→cur.toList.take (ys.length*1)=ys.map (Value.int .i64)→∀j v,(ys.map (Value.int .i64))[j]?=some v→E.w.cell? ⟨b,0+j,none⟩=some v:=by
  intro b cur e ys hb ht j v hj;rw[←ht,zP]at hj;split at hj;·rw[G3 hb,ZAJ];simpa using hj
  ·cases hj
 have Km:=cells (ys:=zs) Py pL;rw[mG];have A4:=λk=>qO (zs:=zs) hi k;have hfz:∀{b:Nat}{cur:Array Value}{e:TypeId}(_:E.w.heap[b]?=some (.cells cur e (0,0)))(o:Nat),E.w.frozen? ⟨b,o,none⟩=false:=by intro b cur e hb o;simp[World.frozen?,hb]
 rcases A9 with⟨CH,hx⟩|⟨cur,ha,hb,hle,CH,Bq,Ae,JX⟩;·
  subst hx;obtain rfl:i'=0:=by simpa using hi
  refine ZAh (ZCd L Lc.a 0 Lc.cap Kc.b 0 zs.length Kc.cap [] (zs.map (Value.int .i64)) E.w hm (ZAl _) (by omega) (by simpa using h2) rfl Ey (λ_=>rfl) (λa _ j v hj=>by cases hj) Km (KQ zs)) ?_;rintro e' w2⟨rfl,rfl⟩;have Dc:=ZCx E.w (0+zs.length) Lc.cap (ρ.t 3);have De:=ZB1 E.w (0+zs.length) Lc.cap (ρ.t 3) (by unfold maxLen;simp at h2;omega);refine⟨⟨E.w.heap.size,some ⟨E.w.heap.size,0,none⟩,(List.take 0 []++zs++List.drop 0 []).length,grownCap E.w (0+zs.length) Lc.cap (ρ.t 3),1⟩,by unfold AU.v;rw[hlen];rfl,Lu _ _ none (.inr trivial) ⟨rfl,rfl,rfl,by simp,λj hj _=>heap_alloc_old E.w.drew _ hj⟩ (λb hb=>by cases hb) (λlo=>?_) (λ_=>.inr (zB _)) (ZBR _)⟩;refine N8 (ZA7 E.w.drew _) ?_ (by rw[hlen];exact Dc) (by omega) De (λk hk=>?_) lo;·revert Dc;generalize grownCap E.w (0+zs.length) Lc.cap (ρ.t 3)=G;intro Dc;simp only[ZBU,ZAy,ZAk,Ey,ZBE,Value.cells];simp;omega
  ·rw[hlen]at hk;rw[ZBB (by simp at hk⊢;omega)];simp
 ·have pG:cur.size=Lc.cap:=by rw[Ae];exact ZA8 _
  have CI:(Obj.row iT xs).has Lc:=by show Lc.cap≠0;omega
  have nM:(Obj.row iT zs).has Kc:=by show Kc.cap≠0;omega
  have E5:Kc.b≠Lc.b:=λe=>MD (g.inj l k _ _ Lc Kc hl hk hL hK CI nM e.symm);have JQ:=cells (ys:=xs) hb JX;have KS:∀k,k<xs.length→cur[k]?=xs[k]?.map (Value.int .i64):=λk hk=>by have :=JQ k (.int .i64 xs[k]) (by rw[ZAI,zK hk];rfl);rw[G3 hb,ZAJ]at this;rw[this,zK hk];rfl
  have HQ:∀j,j<Lc.cap→(E.w.cell? ⟨Lc.b,0+j,none⟩).isSome=true:=λj hj=>by rw[G3 hb,ZAJ,ZAN (by omega)];rfl
  rw[ha];rcases ZAn Lc.cap (xs.length+zs.length)with Ki|Ki
  ·have Dc:=ZCx E.w (xs.length+zs.length) Lc.cap (ρ.t 3);have De:=ZB1 E.w (xs.length+zs.length) Lc.cap (ρ.t 3) (by unfold maxLen;omega);by_cases hin:i'=xs.length
   ·subst hin;refine ZAh (ZCd L (some ⟨Lc.b,0,none⟩) xs.length Lc.cap Kc.b 0 zs.length Kc.cap (xs.map (Value.int .i64)) (zs.map (Value.int .i64)) E.w hm hle Ki h2 GR Ey (λh=>by cases h) (λa ha j v hj=>by cases ha;rw[ZAi];exact JQ j v hj) Km (KQ zs)) ?_;rintro e' w2⟨rfl,rfl⟩;refine⟨⟨E.w.heap.size,some ⟨E.w.heap.size,0,none⟩,(xs.take xs.length++zs++xs.drop xs.length).length,grownCap E.w (xs.length+zs.length) Lc.cap (ρ.t 3),1⟩,by unfold AU.v;rw[hlen],Lu _ _ none (.inr trivial) ⟨rfl,rfl,rfl,by simp,λj hj _=>heap_alloc_old E.w.drew _ hj⟩ (λb hb=>by cases hb) (λlo=>?_) (λ_=>.inr (zB _)) (ZBR _)⟩;refine N8 (ZA7 E.w.drew _) ?_ (by rw[hlen];exact Dc) (by omega) De (λk hk=>?_) lo;·simp only[ZBU,ZAy,yU,Ey,GR,ZBE,Value.cells];simp;omega
    ·rw[hlen]at hk;rw[ZBB (by simp;omega),zA,ZA2,ZAT,←ZAa,ZCa,ZAI]
   ·have AY:i'<xs.length:=by omega
    refine ZAh (Any2.slices_Insert_int_grow L Lc.b 0 xs.length Lc.cap i' Kc.b 0 zs.length Kc.cap (xs.map (Value.int .i64)) (zs.map (Value.int .i64)) E.w AY hm hle Ki h2 GR Ey JQ Km (KQ xs) (KQ zs)) ?_;rintro e' w2⟨rfl,rfl⟩;revert Dc De;generalize grownCap E.w (xs.length+zs.length) Lc.cap (ρ.t 3)=G;intro Dc De;obtain⟨row,B2⟩:∃row:Array Value,row=((xs.map (Value.int .i64)).take i').toArray++Builtin.zeroCells (Value.int .i64 0).cells (xs.length+zs.length-i')++Builtin.zeroCells (Value.int .i64 0).cells (G-(xs.length+zs.length)):=⟨_,rfl⟩;rw[←B2];have yG:row.size=G:=by rw[B2];simp only[ZBU,ZAy,zG,GR,ZBE,Value.cells];simp;omega
    obtain⟨c1,k1,k2,k3,k4,k5⟩:=Md (zs.map (Value.int .i64)) i' (E.w.alloc (.cells row (ρ.t 3))).drew row (ZA7 E.w _) (by rw[Ey];omega);obtain⟨c2,m1,m2,m3,m4,m5⟩:=Md ((xs.map (Value.int .i64)).drop i') (i'+zs.length) (((E.w.alloc (.cells row (ρ.t 3))).drew).setCells E.w.heap.size i' (zs.map (Value.int .i64))).drew c1 k1 (by rw[ZAF,GR];omega);refine⟨⟨E.w.heap.size,some ⟨E.w.heap.size,0,none⟩,(xs.take i'++zs++xs.drop i').length,G,1⟩,by unfold AU.v;rw[hlen],Lu _ _ none (.inr trivial) ⟨m4.os.trans k4.os,m4.tape.trans k4.tape,m4.output.trans k4.output,zV (by simp) (zV k4.size m4.size),λj hj _=>?_⟩ (λb hb=>by cases hb) (λlo=>?_) (λ_=>.inr (zB _)) ?_⟩
    ·have FP:j<(E.w.alloc (.cells row (ρ.t 3))).drew.heap.size:=by simp;omega
     have Ab:some j≠some E.w.heap.size:=λe=>by cases e;omega
     rw[m4.block j (ZA0 FP k4.size) Ab];exact(k4.block j FP Ab).trans (heap_alloc_old E.w _ hj)
    ·refine N8 m1 (by omega) (by rw[hlen];exact Dc) (by omega) De (λk hk=>?_) lo;rw[hlen]at hk;rw[A4,m3,k3,ZAF,GR,Ey];by_cases q1:k<i';·rw[yP (by omega),yP (by omega),yS q1,B2,Array.append_assoc,ZBB (by simp;omega)];simp[q1]
     ·by_cases q2:k<i'+zs.length;·rw[yP (by omega),yS (by omega),yP q1,yS q2,ZAI]
      ·rw[yS (by omega),yP q1,yP q2,ZAs,ZAI,show i'+(k-(i'+zs.length))=k-zs.length by omega]
    ·rw[m5];show E.w.drawn≤_+1;rw[k5];exact Nat.le_succ_of_le (ZBR _)
  ·by_cases hin:i'=xs.length
   ·subst hin;refine ZAh (Any2.slices_Insert_int_end_room L Lc.b 0 xs.length Lc.cap Kc.b 0 zs.length Kc.cap (zs.map (Value.int .i64)) E.w hm Ki Bq Ey (λj hj=>by rw[ZC0];exact HQ _ (by omega)) (λj hj=>hfz hb _) Km (KQ zs)) ?_;rintro e' w2⟨rfl,rfl⟩;obtain⟨c1,k1,k2,k3,k4,k5⟩:=Md (zs.map (Value.int .i64)) (0+xs.length) E.w cur hb (by rw[Ey];omega);refine⟨⟨Lc.b,some ⟨Lc.b,0,none⟩,(xs.take xs.length++zs++xs.drop xs.length).length,Lc.cap,1⟩,by unfold AU.v;rw[hlen],Lu _ _ (some Lc.b) (.inr trivial) k4 (λb hb=>by cases hb;exact⟨CI,rfl⟩) (λlo=>?_) (λ_=>.inl ⟨CI,rfl⟩) (ZDr k5.symm)⟩;refine N8 k1 (by omega) (by rw[hlen];exact Ki) (by omega) Bq (λk hk=>?_) lo;rw[hlen]at hk;rw[A4,k3,Ey];by_cases q1:k<xs.length;·rw[yP (by omega),yS q1];exact KS k q1
    ·rw[yS (by omega),yP q1,yS (by omega),ZAI,ZAJ]
   ·have AY:i'<xs.length:=by omega
    refine ZAh (Any2.slices_Insert_int_shift L Lc.b 0 xs.length Lc.cap i' Kc.b 0 zs.length Kc.cap (xs.map (Value.int .i64)) (zs.map (Value.int .i64)) E.w AY hm Ki Bq E5 GR Ey JQ (λj hj=>HQ j (by omega)) (λj hj=>hfz hb _) Km (KQ xs) (KQ zs) eK e curK.size cur.size (by simp[World.shape?,Py]) (by simp[World.shape?,hb]) (by omega) (hfz Py _) (hfz Py _)) ?_;rintro e' w2⟨rfl,rfl⟩;obtain⟨c1,k1,k2,k3,k4,k5⟩:=Md ((xs.map (Value.int .i64)).drop i') (0+(i'+zs.length)) E.w.drew cur hb (by rw[ZAF,GR];omega);obtain⟨c2,m1,m2,m3,m4,m5⟩:=Md (zs.map (Value.int .i64)) (0+i') (E.w.drew.setCells Lc.b (0+(i'+zs.length)) ((xs.map (Value.int .i64)).drop i')) c1 k1 (by rw[Ey];omega);refine⟨⟨Lc.b,some ⟨Lc.b,0,none⟩,(xs.take i'++zs++xs.drop i').length,Lc.cap,1⟩,by unfold AU.v;rw[hlen],Lu _ _ (some Lc.b) (.inr trivial) ⟨m4.os.trans k4.os,m4.tape.trans k4.tape,m4.output.trans k4.output,zV k4.size m4.size,λj hj hn=>?_⟩ (λb hb=>by cases hb;exact⟨CI,rfl⟩) (λlo=>?_) (λ_=>.inl ⟨CI,rfl⟩) ?_⟩;·rw[m4.block j (ZA0 hj k4.size) hn];exact k4.block j hj hn
    ·refine N8 m1 (by omega) (by rw[hlen];exact Ki) (by omega) Bq (λk hk=>?_) lo;rw[hlen]at hk;rw[A4,m3,k3,ZAF,GR,Ey];by_cases q1:k<i';·rw[yP (by omega),yP (by omega),yS q1];exact KS k (by omega)
     ·by_cases q2:k<i'+zs.length;·rw[yS (by omega),yP q1,yS q2,ZAI,ZAJ]
      ·rw[yP (by omega),yS (by omega),yP q1,yP q2,ZAs,ZAI,show i'+(k-(0+(i'+zs.length)))=k-zs.length by omega]
    ·rw[m5,k5];exact ZBR _
theorem qN{n m:Nat}(h:n=m)(hc:Bz P m)(k:Bz P n→J0 P n):J0 P m:=by subst h;exact k hc
end
end Go.Proofs.YtldikbpclaeajaaGreatDoor
