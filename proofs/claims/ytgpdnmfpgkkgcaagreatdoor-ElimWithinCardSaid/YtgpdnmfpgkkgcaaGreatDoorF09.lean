/- Part of a proof that a law of the program holds for every input: how abstract states follow the program. No conditions. -/
import Derived.Shelf.Slices.Clone
import Derived.Shelf.Slices.Delete
import Derived.Test.YtgpdnmfpgkkgcaaGreatDoorK08
namespace Go.Proofs.YtgpdnmfpgkkgcaaGreatDoor
open Go Go.Lib Go.Proofs Go.RowKit Go.Shelf Go.Sort
set_option linter.defProp false
def ZIp:=@List.getElem_append_left
def ZKy:=@Int.le_trans
set_option linter.unusedSimpArgs false
set_option linter.unusedVariables false
section
variable {P : Program} {ρ : Ren}
abbrev iT:Ty:=.int .i64
def WU:JF:=⟨iT,false,[.d (.sl iT)],λ_ ys=>ys.1.length*8≤140737488355328,λ_ ys=>ys.1⟩
def ND:JF:=⟨iT,true,[.d iT,.d iT],λxs ys=>xs≠[]∧0≤ys.1∧ys.1≤ys.2.1∧ys.2.1≤(xs.length:Int),λxs ys=>xs.take ys.1.toNat++xs.drop ys.2.1.toNat⟩
theorem ZCt:BQ P λ_=>none:=λ_ _ h=>by cases h
theorem rY{n m:Nat}{r:JF}(h:n=m)(hc:DK P m)(k:DK P n→LC P n r):LC P m r:=by subst h;exact k hc
theorem eL(w:World)(S:Nat→Prop):∀l:List Int,A8 w S iT l (l.map (Value.int .i64))|[]=>rfl|n::l=>⟨[.int .i64 n],l.map (Value.int .i64),rfl,rfl,eL w S l⟩
theorem eN{w:World}{S:Nat→Prop}:∀{l:List Int}{cs:List Value},A8 w S iT l cs→cs=l.map (Value.int .i64)|[],cs,h=>h|n::l,cs,⟨c1,c2,h,h1,h2⟩=>by rw[h,show c1=[Value.int .i64 n]from h1,eN h2];rfl
set_option maxHeartbeats 6400000 in
set_option maxRecDepth 100000 in theorem yD(L:Lays2.n15 P ρ)(a:Addr)(c:Nat)(xs:List Int){w:World}{S:Nat→Prop}(hS:FN P w S)(hc:BZ w S (.sl iT) xs [.slice (some a) xs.length c])(ZFh:xs.length*8≤140737488355328):Calls P (ρ.f 15) #[.slice (some a) xs.length c] w λe w2=>∃K,e=.returned K.v∧w.grownBy w2 none∧w.drawn≤w2.drawn∧(∀lo,Ay P ⟨w2,S,lo⟩ K (.row iT xs))∧((Obj.row iT xs).has K→w.heap.size≤K.b):=by
 have mixed:=L.mixed;have t3:=L.t3;have a3:=L.a3;have z3:=L.z3;have v3:=L.v3;have t4:=L.t4;have a4:=L.a4;have z4:=L.z4;have v4:=L.v4;have t22:=L.t22;have a22:=L.a22;have z22:=L.z22;have v22:=L.v22;obtain⟨i0,hi,B6,hz1,HP⟩:=ZKl L.i3;have q22:∀(w:World)(a:Option Addr)(n c n' c':Nat),(binOp .eql (ρ.t 22) (.slice a n c) (.slice none n' c')).run P w=.ok (.bool a.isNone) w:=λw a n c n' c'=>Lib.run_eql_slice_nil w _ _ a n c n' c' L.t22;have u22:∀w,Sem.run P (underlying (ρ.t 22)) w=.ok (TypeDesc.slice (ρ.t 3)) w:=ZGX t22;obtain⟨K0,Fy⟩:∃K0:Ai,K0=⟨w.heap.size,some ⟨w.heap.size,0,none⟩,0,0,1⟩:=⟨_,rfl⟩;have HB:Hid (∀o:Go.Obj,∃E:AF,E.w=w.alloc o∧E.S=S∧E.loc 0=some K0∧AE P E [(0,.row iT [])]∧∃cs,A8 E.w E.S iT xs cs∧Ef E.w iT.size xs.length cs (.slice (some a) xs.length c)):=by
  intro o;obtain⟨g,_⟩:=AE.push (P:=P) (E:=⟨w,S,λ_=>none⟩) (objs:=[]) (Qg hS) (w:=w.alloc o) (l:=0) (L:=K0) (o:=.row iT []) rfl (ZHV w o none) (by rw[Fy];exact⟨rfl,by decide,rfl,0,[],rfl,.inl ⟨rfl,rfl⟩⟩) λh=>by rw[Fy]at h;exact absurd rfl h
  refine⟨_,rfl,rfl,CJ _ _ _ _,g,?_⟩;refine sQ (E:=(⟨w,S,λ_=>none⟩:AF).setL (w.alloc o) 0 K0) (T:=iT) (hc.mono λb hb=>⟨hb,?_⟩);exact(ZHV w o none).block b (hS.lt b hb) (by simp)
 have HK:Hid (K0=⟨w.heap.size,some ⟨w.heap.size,0,none⟩,0,0,1⟩):=Fy;have HG:Hid (∀(o:Go.Obj)(E:AF)(w1:World)(K:Ai),E.w=w.alloc o→E.S=S→CE P E K0 iT [] w1 K ([]++xs)→w.grownBy w1 none∧w.drawn≤w1.drawn∧(∀lo,Ay P ⟨w1,S,lo⟩ K (.row iT xs))∧((Obj.row iT xs).has K→w.heap.size≤K.b)):=by
  rintro o⟨Ew,ES,Elo⟩w1 K e1 e2⟨row,h1,h2,h3,h4,h5⟩;simp only at e1 e2 h1 h3 h4 h5;subst e1 e2;have hr:row=none:=by cases row with|none=>rfl|some b=>obtain⟨h,_⟩:=h2 b rfl;rw[Fy]at h;exact absurd rfl h
  subst hr;have ga:=ZHV w o none;refine⟨⟨h1.os.trans ga.os,h1.tape.trans ga.tape,h1.output.trans ga.output,ZGd ga.size h1.size,λj hj hn=>?_⟩,h5,h3,λhh=>?_⟩;·have :=ga.size;rw[h1.block j (by omega) hn,ga.block j hj hn]
  ·rcases h4 hh with⟨h,_⟩|h;·rw[Fy]at h;exact absurd rfl h
   ·exact ZGd ga.size h
 have HS:Hid (Value.slice (some ⟨w.heap.size,0,none⟩) 0 0=K0.v):=(by rw[Fy];rfl:Value.slice (some ⟨w.heap.size,0,none⟩) 0 0=K0.v);clear hc hS Fy;go_enter L.f15,Body2.n15_ntmps ρ;obtain⟨E,O5,Tj,kD,kE,cs,kF,kG⟩:=HB.out (.cells #[] (ρ.t 3));have HE:Hid (E.w=w.alloc (.cells #[] (ρ.t 3))∧E.S=S∧E.loc 0=some K0∧AE P E [(0,.row iT [])]∧A8 E.w E.S iT xs cs∧Ef E.w iT.size xs.length cs (.slice (some a) xs.length c)):=⟨O5,Tj,kD,kE,kF,kG⟩;clear O5 Tj kD kE kF kG;go_wp2_with(at_builtin;(rw[←HE.out.1]);refine Vn (E:=E) (objs:=[(0,.row iT [])]) (l:=0) (L:=K0) (xs:=[]) (T:=iT) (ZCt (P:=P)) rfl _ _ rfl t22 (.inl ⟨_,rfl⟩) t22 hi B6 hz1 HP rfl (by decide) HE.out.2.2.2.2.1 ?c1 HE.out.2.2.2.1 rfl HE.out.2.2.1 ?c2 ?c3 HS.out rfl ?c4);case c1=>rw[hz1];exact HE.out.2.2.2.2.2
 case c2=>simp;omega
 case c3=>simp;omega
 case c4=>intro w1 K hK;have JU:=HG.out _ E w1 K HE.out.1 HE.out.2.1 hK;have HF:Hid (w.grownBy w1 none∧w.drawn≤w1.drawn∧(∀lo,Ay P ⟨w1,S,lo⟩ K (.row iT xs))∧((Obj.row iT xs).has K→w.heap.size≤K.b)):=JU;clear JU hK;go_wp2;go_ret;exact⟨K,rfl,HF.out⟩
theorem ZDu{E:AF}{v:V}{cs:Array Value}(r:AZ P E [v] cs.toList):∃c,cs=#[c]∧AC P E v c:=by obtain⟨l⟩:=cs;match l,r with|[c],r=>exact⟨c,rfl,r.head⟩|[],r=>exact absurd r.1 (by simp)|_::_::_,r=>exact absurd r.1 (by simp)
theorem yC(L:Lays2.n15 P ρ)(hc:DK P (ρ.f 15)):LC P (ρ.f 15) WU:=by
 refine⟨hc,λw S ys hS hpre args ra=>?_⟩;obtain⟨c,rfl,rc⟩:=ZDu (show AZ P ⟨w,S,λ_=>none⟩ [.d (.sl iT) ys.1] args.toList from ra);have Tr:=Mr (E:=⟨w,S,λ_=>none⟩) rc;obtain⟨a,cap,h1,h2,h3⟩:=id Tr;obtain rfl:c=.slice a (List.length (α:=Int) ys.1) cap:=by simpa using h1
 cases a with|some a=>exact yD L a cap ys.1 hS Tr hpre|none=>
  have PM:ys.1=[]:=ZHW λhn=>by obtain⟨b,off,h,_⟩:=h3 hn;cases h
  refine ZH1 (Any.slices_Clone_int_nil L _ _ w) ?_;rintro e w2⟨rfl,rfl⟩;refine⟨⟨0,none,0,0,1⟩,rfl,⟨rfl,rfl,rfl,ZGR _,λ_ _ _=>rfl⟩,ZGR _,λlo=>?_,λh=>absurd rfl h⟩;show Ay P _ _ (.row iT ys.1);rw[PM];exact⟨rfl,by decide,rfl,0,[],rfl,.inl ⟨rfl,rfl⟩⟩
theorem zI(L:Lays2.n23 P ρ){E:AF}{objs:AH}{l:Nat}{Lc:Ai}{xs:List Int}(g:AE P E objs)(Al:AB l objs=some (.row iT xs))(hL:E.loc l=some Lc)(hne:xs≠[])(i j:Nat)(hij:i≤j)(hjn:j≤xs.length):Calls P (ρ.f 23) #[Lc.v,.int .i64 i,.int .i64 j] E.w λe w2=>∃K,e=.returned K.v∧CE P E Lc iT xs w2 K (xs.take i++xs.drop j):=by
 obtain⟨L',hL',hat⟩:=g.at_ _ _ Al;rw[hL]at hL';cases hL';obtain⟨ER,AU,MP,e,cs,hcs,A4⟩:=hat;rcases A4 with⟨_,h'⟩|⟨cur,ha,hb,hle,Be,Cd,Am,Lf⟩;·exact absurd h' hne
 have X2:=eN hcs;subst X2;have ZF4:cur.size=Lc.cap:=by rw[Am];show Lc.cap*1=_;omega
 have ZBz:cur.toList.take xs.length=xs.map (Value.int .i64):=by have :=Lf;rw[show xs.length*Ty.size iT=xs.length from ZIM _]at this;exact this
 have hH:Holds (Value.int .i64) E.w Lc.b 0 xs.toArray:=by
  intro k hk;have hk':k<xs.length:=by simpa using hk
  have NW:cur[k]?=some (Value.int .i64 xs[k]):=by
   have :(cur.toList.take xs.length)[k]?=(xs.map (Value.int .i64))[k]?:=by rw[ZBz]
   rw[ZGg,ZGE hk',ZHG,ZHO,ZGU hk']at this;exact this
  refine⟨?_,by simp[World.frozen?,hb]⟩;simp only[World.cell?,hb,ZGu];rw[ZIt _ k hk];simpa using NW
 have hv:Lc.v=.slice (some ⟨Lc.b,0,none⟩) xs.length Lc.cap:=by unfold Ai.v;rw[MP,ha]
 have D6:(Obj.row iT xs).has Lc:=by show Lc.cap≠0;omega
 rw[hv];refine ZH1 (Any.slices_Delete_int L Lc.b 0 Lc.cap i j xs E.w hH hle (by simpa[maxLen]using Cd) hij hjn) ?_;rintro e' w2⟨rfl,q,rfl⟩;obtain⟨zs,Da⟩:∃zs:List Int,zs=xs.take i++xs.drop j:=⟨_,rfl⟩;have DO:zs.length=xs.length-(j-i):=by rw[Da];simp;omega
 obtain⟨F,hF⟩:∃F:List Int,F=zs++List.replicate (j-i) 0:=⟨_,rfl⟩;have hFl:F.length=xs.length:=by rw[hF,ZGI,DO,ZGj];omega
 rw[←Da,←hF];refine⟨{Lc with len:=zs.length},by rw[←DO];unfold Ai.v;rw[ha],some Lc.b,⟨rfl,rfl,rfl,?_,λk hk hn=>?_⟩,λb h=>by cases h;exact⟨D6,rfl⟩,λlo=>?_,λh=>.inl ⟨D6,rfl⟩,?_⟩;·simp[putRow,mapBlock]
 ·simp only[putRow,mapBlock,Sort.ahead,ZJa];rw[ZGA λe=>hn (by rw[e])]
 ·have hlz:zs.length≤xs.length:=by omega
  refine⟨ER,AU,rfl,e,zs.map (Value.int .i64),eL _ _ _,.inr ⟨Sort.putCells (Value.int .i64) 0 F.toArray cur,ha,?_,ZGd hlz hle,Be,Cd,?_,?_⟩⟩;·simp only[putRow,mapBlock,Sort.ahead,ZJa,ZGE,hb];rfl
  ·simp[Sort.putCells,Am]
  ·rw[show zs.length*Ty.size iT=zs.length from ZIM _];apply ZHX;intro k;rw[ZGg,ZHO];split
   ·rename_i hk;have lU:k<F.length:=by omega
    have hkc:k<cur.size:=by omega
    rw[ZHG];simp only[Sort.putCells,ZKW];rw[ZHF hkc];have hsF:(F.toArray).size=F.length:=by simp
    simp only[ZJm,ZHu,ZGu,ZKn,hsF,ZGE lU,ZIs];rw[ZIt F.toArray k (by simpa using lU),ZGU hk];simp[hF,ZIp hk]
   ·rename_i hk;rw[ZHL (by omega)];rfl
 ·show E.w.drawn≤E.w.drawn+q;omega
theorem zJ(L:Lays2.n23 P ρ)(hc:DK P (ρ.f 23)):LC P (ρ.f 23) ND:=by refine⟨hc,λE objs l Lc xs ys g Al hL hpre args ra=>?_⟩;obtain⟨i,j,u⟩:=ys;obtain⟨hne,h0,hij,hjn⟩:xs≠[]∧@LE.le Int _ 0 i∧@LE.le Int _ i j∧@LE.le Int _ j ((List.length (α:=Int) xs:Nat):Int):=hpre;obtain⟨i',hi⟩:∃n:Nat,i=(n:Int):=⟨Int.toNat i,(ZHD h0).symm⟩;obtain⟨j',hj⟩:∃n:Nat,j=(n:Int):=⟨Int.toNat j,(ZHD (ZKy h0 hij)).symm⟩;subst hi hj;match args,ra with|[c,d],ra=>have e1:c=.int .i64 (i':Int):=RX (show AC P ⟨E.w,E.S,λ_=>none⟩ (.d iT (i':Int)) c from ra.head);have e2:d=.int .i64 (j':Int):=RX (show AC P ⟨E.w,E.S,λ_=>none⟩ (.d iT (j':Int)) d from ra.tail.head);subst e1 e2;have h:=zI L (xs:=xs) g Al hL hne i' j' (Int.ofNat_le.1 hij) (Int.ofNat_le.1 hjn);have e:ND.fn xs ((i':Int),(j':Int),u)=List.take i' (xs:List Int)++List.drop j' (xs:List Int):=rfl;rw[e];exact h|[],ra=>exact absurd ra.1 (by simp[DR,ND])|[_],ra=>exact absurd ra.1 (by simp[DR,ND])|_::_::_::_,ra=>exact absurd ra.1 (by simp[DR,ND])
end
end Go.Proofs.YtgpdnmfpgkkgcaaGreatDoor
