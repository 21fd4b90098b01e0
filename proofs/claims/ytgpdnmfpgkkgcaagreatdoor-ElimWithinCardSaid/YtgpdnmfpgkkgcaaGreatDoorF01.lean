/- Part of a proof that a law of the program holds for every input: how abstract states follow the program. No conditions. -/
import Derived.Laws.BytesString
import Derived.MapKept
import Derived.RangeFuncIn
import Derived.RangeFuncOwn
import Derived.RangeFuncRecord
import Derived.Test.YtgpdnmfpgkkgcaaGreatDoorF00
namespace Go.Proofs.YtgpdnmfpgkkgcaaGreatDoor
open Go
set_option linter.defProp false
def ZF9:=@cond_false
def ZGC:=@cond_true
def ZGK:=@List.mem_cons_of_mem
def ZGT:=@List.mem_singleton
def ZGZ:=@List.append_nil
def ZGe:=@List.mem_cons
def ZGp:=@List.map_append
def ZHA:=@List.map_congr_left
def ZHD:=@Int.toNat_of_nonneg
def ZHU:=@List.mem_append_right
def ZHY:=@List.mem_append_left
def ZH0:=@Bool.or_eq_false_iff
def ZH1:=@Go.Calls.mono
def ZIA:=@List.map_nil
def ZId:=@Nat.lt_of_not_le
def ZIs:=@Nat.sub_zero
def ZIu:=@List.getD_cons_succ
def ZIx:=@Go.Oper.semAt_eq
def ZI1:=@List.mem_cons_self
def ZJG:=@Array.toList_map
def ZJI:=@Array.getElem?_append_left
def ZJQ:=@Nat.lt_or_gt_of_ne
def ZJk:=@List.getElem?_modify
def ZJo:=@Array.toList_modify
def ZJq:=@Array.getElem?_setIfInBounds
def ZJ8:=@Go.Oper.uponIn_enter
def ZKG:=@Go.run_convert_bytes_string
def ZKJ:=@List.getElem?_cons_succ
def ZKK:=@List.getElem?_cons_zero
def ZKR:=@Go.grownBy_putObj'
def ZKU:=@Go.fenced_calm
def ZKa:=@List.getElem?_toArray
def ZK2:=@Nat.beq_refl
set_option linter.unusedSimpArgs false
set_option linter.unusedVariables false
section
variable {P : Program} {τ : Ap} {E : AF} {os objs : AH} {n : Nat}
theorem ZAG(hτ:BQ P τ){t ty:TypeId}{x:V}{out:Av}(h:Wx τ os t x=some out)(hs:DL os objs)(g:AE P E objs){c:Value}(r:AC P E x c):Bl P (Builtin.len_ #[t] ty #[c]) E objs out:=by
 have key:∀{e:TypeId}{a:Option Addr}{m cap:Nat}{p:Option Prop},P.underlying t=some (.slice e)→c=.slice a m cap→Bl P (Builtin.len_ #[t] ty #[c]) E objs ⟨p,.d (.int .i64) (m:Int),none⟩:=by intro e a m cap p ht hc;subst hc;exact .same g (v:=.int .i64 m) (by simp[Builtin.len_,ZGX ht,goInt]) (.mk_int _ _)
 unfold Wx at h;split at h
 ·rename_i e sz by_ zero co BX;have ht:P.underlying t=some (.slice e):=(hτ t _ BX).kind;split at h;·cases h;obtain⟨a,cap,hc,_⟩:=Mr r;exact key ht (by simpa using hc)
  ·cases h;cases r;exact key ht rfl
  ·split at h;·rename_i T xs hcs;cases h;obtain⟨L,hL,_,hat⟩:=g.get hs hcs;obtain⟨K,hK,rfl⟩:=GQ r;rw[hL]at hK;cases hK;rw[←hat.2.2.1];exact key ht rfl
   ·cases h
  ·cases h;obtain⟨K,hK,a,rfl,_⟩:=KJ r;exact key ht rfl
  ·cases h;obtain⟨K,hK,rfl⟩:=eG r;exact key ht rfl
  ·cases h
 ·rename_i sz by_ zero co BX;have ht:P.underlying t=some .string:=(hτ t _ BX).kind;split at h;·rename_i s;cases h;rw[r.str_inv];exact .same g (v:=.int .i64 (ByteArray.size s)) (by simp[Builtin.len_,ZGX ht,goInt]) (.mk_int _ _)
  ·cases h
 ·rename_i m e sz by_ zero co BX;cases h;have ht:P.underlying t=some (.array m e):=(hτ t _ BX).kind.1;exact .same g (v:=.int .i64 m) (by simp[Builtin.len_,ZGX ht,goInt]) (.mk_int _ _)
 ·cases h
theorem ZEO{w:World}{size m k:Nat}{news:List Value}{c:Value}(h:Ef w size m news c)(Kn:∃a m' cap,c=.slice a m' cap)(hk:k≤m):(Builtin.firstCells size k c).run P w=.ok (news.take (k*size)).toArray w:=by
 obtain⟨h1,⟨a,cap,rfl,hx⟩|⟨s,rfl,_⟩⟩:=h
 ·have hm:k*size≤m*size:=ZHB _ hk;have :Ef w size k (news.take (k*size)) (.slice a k cap):=⟨by rw[ZGP,h1];omega,.inl ⟨a,cap,rfl,λhp=>by
  obtain⟨ad,h2,h3⟩:=hx (by omega);refine⟨ad,h2,λj v hj=>h3 j v ?_⟩;rw[ZGg]at hj;split at hj;·exact hj
  ·cases hj⟩⟩;have h4:=this.run (P:=P) (w':=w) rfl;cases a<;>simpa[Builtin.firstCells]using h4
 ·obtain⟨_,_,_,h⟩:=Kn;cases h
theorem fY{td tx ty e:TypeId}{info:TypeInfo}{T:Ty}{ys:List T.den}{news:List Value}{c':Value}(ht:P.underlying td=some (.slice e))(hi:P.info? e=some info)(hsT:info.size=T.size)(hn1:A8 E.w E.S T ys news)(hn2:Ef E.w T.size ys.length news c')(Kn:∃a m' cap,c'=.slice a m' cap)(g:AE P E objs){l lo k:Nat}{xs:List T.den}{L:Ai}(Al:AB l objs=some (.row T xs))(hL:E.loc l=some L)(hat:Ay P E L (.row T xs))(EK:lo+k≤xs.length){p:Option Prop}{c0:Value}(Be:L.Part lo k c0):Bl P (Builtin.copy_ #[td,tx] ty #[c0,c']) E objs ⟨p,.d (.int .i64) (min ys.length k:Nat),some (l,.row T (QL xs ys lo k),false)⟩:=by
 have IM:=hn1.length;have J9:Nat.min ys.length k=min ys.length k:=rfl;have MI:=ZEO (P:=P) hn2 Kn (Nat.min_le_left ys.length k);have hlen:=λw=>hn2.lenOf (P:=P) w;by_cases h0:min ys.length k=0;·
  have ZBA:QL xs ys lo k=xs:=by simp only[QL,h0,ZJu,ZGZ,ZHw,ZHv]
  rw[ZBA];have hp:=AE.put g (mv:=false) (L':=L) (o':=.row T xs) (w:=E.w) (row:=none) Al hL ⟨rfl,rfl,rfl,ZGR _,λ_ _ _=>rfl⟩ (λb hb=>by cases hb) (λ_=>rfl) (by
   refine hat.keep (⟨λb hb=>⟨hb,rfl⟩,λj K _ hK=>?_⟩:CK E (E.setL E.w l L) []) λ_=>rfl;by_cases e:j=l;·subst e;rw[hL]at hK;cases hK;exact CJ _ _ _ _
   ·rw[B4 _ _ _ e];exact hK) λhh=>.inl ⟨hh,rfl⟩;refine⟨E.setL E.w l L,.int .i64 (0:Nat),?_,hp.1,hp.2,by rw[h0];exact .mk_int _ _⟩;rw[h0]at MI;simp only[ZJR,ZJu]at MI;rw[←hsT]at MI;obtain⟨ad,rfl,_⟩:=Be;have Tx:(Builtin.firstCells info.size 0 c').run P E.w=.ok #[] E.w:=by simpa using MI
  show(Builtin.copy_ #[td,tx] ty #[.slice ad k (L.cap-lo),c']).run P E.w=.ok _ E.w;simp only[Builtin.copy_,ZKa,ZKK,ZKJ,ZG7,ZGX ht,ZGm,hlen,I8 hi];show((Builtin.firstCells info.size (Nat.min ys.length k) c').run P E.w).andThen _=_;rw[J9,h0,Tx];cases ad<;>simp[storeCells,goInt];all_goals(rw[show min k ys.length=0 by omega];rfl)
 ·have hk:0<k:=by omega
  obtain⟨w,BO,g1,g2⟩:=aZ (lo:=lo) (ys:=ys.take (min ys.length k)) (vs:=news.take (min ys.length k*T.size)) g Al hL hat (by rw[ZGP];omega) (.inl (by rw[ZGP];omega)) (hn1.take _);have Dv:(ys.take (min ys.length k)).length=min ys.length k:=by rw[ZGP];omega
  rw[Dv]at g1 g2;refine⟨E.setL w l L,.int .i64 (min ys.length k:Nat),?_,g1,g2,.mk_int _ _⟩;rw[U9 hat EK hk Be];rw[←hsT]at MI;simp only[Builtin.copy_,ZKa,ZKK,ZKJ,ZG7,ZGX ht,ZGm,hlen,I8 hi];show((Builtin.firstCells info.size (Nat.min ys.length k) c').run P E.w).andThen _=_;rw[J9,MI,hsT];simp only[ZGm];show((storeCells _ _).run P E.w).andThen _=_;rw[BO];rfl
theorem ZAC(hτ:BQ P τ){td tx ty:TypeId}{d x:V}{out:Av}(h:Wt τ os td tx d x=some out)(hs:DL os objs)(ho:BM out.ob)(g:AE P E objs){c c':Value}(rd:AC P E d c)(rx:AC P E x c'):Bl P (Builtin.copy_ #[td,tx] ty #[c,c']) E objs out:=by
 unfold Wt at h;split at h
 ·rename_i e sz by_ zero co BX;have ht:P.underlying td=some (.slice e):=(hτ td _ BX).kind;split at h
  ·rename_i e2 sz2 by2 zero2 co2 ZBy;have Bf:P.underlying tx=some (.slice e2):=(hτ tx _ ZBy).kind;split at h
   ·rename_i k size bytes zero' T hei;have hei:=hτ e _ hei;obtain⟨hTs,AU,B6⟩:=hei.code T rfl;obtain⟨info,z,hi,Am,_⟩:=hei.info;have hsT:info.size=T.size:=by rw[Am];exact hTs.symm
    split at h
    ·rename_i ys p FY;have src:=λhp:BM p=>tD FY hs hp g rx;have conj_inv:∀{q:Prop},Im q p→BM p∧q:=λ{q}h=>by cases p with|none=>exact⟨trivial,h⟩|some r=>exact h
     split at h
     ·split at h
      ·rename_i l t xs hcs;split at h;·rename_i hT';subst hT';cases h;obtain⟨⟨cs,It,Kd⟩,Kn⟩:=src ho;obtain⟨L,hL,Al,hat⟩:=g.get hs hcs;obtain⟨K,hK,rfl⟩:=GQ rd;rw[hL]at hK;cases hK;exact fY (ty:=ty) ht hi hsT It Kd Kn g Al hL hat (by omega) (N9 hat)
       ·cases h
      ·cases h
     ·split at h
      ·rename_i l lo k t xs hcs;split at h;·rename_i hT';subst hT';cases h;obtain⟨hp,hle⟩:=conj_inv ho;obtain⟨⟨cs,It,Kd⟩,Kn⟩:=src hp;obtain⟨L,hL,Al,hat⟩:=g.get hs hcs;obtain⟨K,hK,Fz⟩:=KJ rd;rw[hL]at hK;cases hK;exact fY (ty:=ty) ht hi hsT It Kd Kn g Al hL hat hle Fz
       ·cases h
      ·cases h
     ·cases h
    ·cases h
   ·cases h
  ·cases h
 ·cases h
end
section
variable {P : Program} {τ : Ap} {E : AF} {os objs : AH} {n : Nat}
def LB(P:Program)(E:AF)(v:Option V)(c:Option Value):Prop:=match v,c with|none,none=>True|some v,some c=>AC P E v c|_,_=>False
def Ob(m:Nat)(lo hi:Option V):Option (Option Prop×Nat×Nat):=match lo,hi with|none,none=>some (none,0,m)|none,some (.d (.int _) h)=>some (some (0≤h∧h≤(m:Int)),0,Int.toNat h)|some (.d (.int _) a),none=>some (some (0≤a∧a≤(m:Int)),Int.toNat a,m)|some (.d (.int _) a),some (.d (.int _) h)=>some (some (0≤a∧a≤h∧h≤(m:Int)),Int.toNat a,Int.toNat h)|_,_=>none
theorem LH{k:IntKind}{i:Int}{y:Nat}{code:BoundsCode}(h0:0≤i)(h1:i≤(y:Int))(w:World):(Instr.sliceBound (.int k i) y code).run P w=.ok i.toNat w:=by simp[Instr.sliceBound,asIntOf,h0,h1]
theorem S0{m cap:Nat}{lo hi:Option V}{lo' hi':Option Value}{ob:Option Prop}{l h:Nat}(hb:Ob m lo hi=some (ob,l,h))(ho:BM ob)(FU:m≤cap)(rl:LB P E lo lo')(rh:LB P E hi hi')(w:World):l≤h∧h≤m∧(Instr.sliceBounds true m cap lo' hi' none).run P w=.ok (l,h,cap) w:=by
 unfold Ob at hb;split at hb
 ·cases hb;cases lo'<;>cases hi'<;>first|exact rl.elim|exact rh.elim|skip
  exact⟨ZHu _,ZGR _,by simp[Instr.sliceBounds]⟩
 ·rename_i k h0;obtain⟨h1,hh⟩:∃h1:Int,h1=h0:=⟨h0,rfl⟩;subst hh;cases hb;obtain⟨h2,h3⟩:0≤h1∧h1≤(m:Int):=ho;cases lo'<;>cases hi'<;>first|exact rl.elim|exact rh.elim|skip
  rename_i u;have :=AC.int_inv (show AC P E (.d (.int k) h1) u from rh);subst this;exact⟨ZHu _,by omega,by simp[Instr.sliceBounds,LH h2 (show h1≤(cap:Int)by omega)]⟩
 ·rename_i k a0;obtain⟨a,hh⟩:∃a:Int,a=a0:=⟨a0,rfl⟩;subst hh;cases hb;obtain⟨h2,h3⟩:0≤a∧a≤(m:Int):=ho;cases lo'<;>cases hi'<;>first|exact rl.elim|exact rh.elim|skip
  rename_i u;have :=AC.int_inv (show AC P E (.d (.int k) a) u from rl);subst this;exact⟨by omega,ZGR _,by simp[Instr.sliceBounds,LH h2 h3]⟩
 ·rename_i k a0 k2 h0;obtain⟨a,hh⟩:∃a:Int,a=a0:=⟨a0,rfl⟩;subst hh;obtain⟨h1,hh⟩:∃h1:Int,h1=h0:=⟨h0,rfl⟩;subst hh;cases hb;obtain⟨h2,h3,h4⟩:0≤a∧a≤h1∧h1≤(m:Int):=ho;cases lo'<;>cases hi'<;>first|exact rl.elim|exact rh.elim|skip
  rename_i u u2;have :=AC.int_inv (show AC P E (.d (.int k) a) u from rl);subst this;have :=AC.int_inv (show AC P E (.d (.int k2) h1) u2 from rh);subst this;have e2:((h1.toNat:Nat):Int)=h1:=ZHD (by omega);exact⟨by omega,by omega,by simp[Instr.sliceBounds,LH (show(0:Int)≤h1 by omega) (show h1≤(cap:Int)by omega),LH h2 (show a≤((h1.toNat:Nat):Int)by omega)]⟩
 ·cases hb
theorem W4{mk:Nat→Nat→V}{base m:Nat}{lo hi:Option V}{out:Av}(h:QU mk base m lo hi=some out):∃ob l k,Ob m lo hi=some (ob,l,k)∧out.ob=ob∧out.ed=none∧out.v=mk (base+l) (k-l):=by
 unfold QU at h;split at h
 ·split at h;·cases h;exact⟨_,_,_,rfl,rfl,rfl,rfl⟩
  ·split at h;·cases h;exact⟨_,_,_,rfl,rfl,rfl,rfl⟩
   ·cases h
 ·split at h
  ·split at h;·cases h;exact⟨_,_,_,rfl,rfl,rfl,rfl⟩
   ·split at h;·cases h;exact⟨_,_,_,rfl,rfl,rfl,rfl⟩
    ·cases h
  ·cases h
theorem eR{T:Ty}{l:List T.den}{a:Option Addr}{n cap:Nat}(h:BZ E.w E.S (.sl T) l [.slice a n cap])(AU:0<T.size)(lo hi:Nat)(h1:lo≤hi)(h2:hi≤l.length):BZ E.w E.S (.sl T) ((l.take hi).drop lo) [.slice (if cap=lo then a else a.map (·.add (lo*T.size))) (hi-lo) (cap-lo)]:=by
 obtain⟨a',cap',hc,FU,hl⟩:=h;simp only[ZIh,Value.slice.injEq,and_true]at hc;obtain⟨rfl,rfl,rfl⟩:=hc;have hlen:((l.take hi).drop lo).length=hi-lo:=by simp;omega
 refine⟨_,_,by rw[hlen],by rw[hlen];omega,λhne=>?_⟩;have Ab:lo<hi:=by
  rcases ZHj lo hi with h|h;·exact h
  ·exact absurd (ZGY (by rw[hlen];omega)) hne
 obtain⟨b,off,rfl,hS,hx⟩:=hl λe=>by rw[e]at h2;simp at h2;omega
 refine⟨b,off+lo*T.size,?_,hS,λi x hi'=>?_⟩;·rw[ZGA (by omega)];simp[ZHd]
 ·rw[ZHy,ZGg]at hi';split at hi';·obtain⟨cs,h3,h4⟩:=hx (lo+i) x hi';refine⟨cs,h3,λj u hj=>?_⟩;rw[show off+lo*T.size+i*T.size+j=off+(lo+i)*T.size+j from by rw[ZIP];omega];exact h4 j u hj
  ·cases hi'
theorem Pv{t e:TypeId}{ei:TI}{a:Option Addr}{m cap l h c:Nat}{lo' hi' mx':Option Value}(ht:P.underlying t=some (.slice e))(hei:ei.Ok P e)(w:World)(hb:(Instr.sliceBounds true m cap lo' hi' mx').run P w=.ok (l,h,c) w):(Instr.sliceAt t (.slice a m cap) lo' hi' mx').run P w=.ok (.slice (if c=l then a else a.map (·.add (l*ei.size))) (h-l) (c-l)) w:=by obtain⟨info,z,T4,hs,_⟩:=hei.info;simp[Instr.sliceAt,ZGX ht,Instr.slice,hb,I8 T4,hs]
theorem ZCf{m cap:Nat}{lo hi mx:Option V}{lo' hi' mx':Option Value}{ob p:Option Prop}{l h:Nat}(hb:Ob m lo hi=some (ob,l,h))(hne:∃q,mx=some q)(hm:Rj mx m=some p)(ho:BM ob)(hp:BM p)(FU:m≤cap)(rl:LB P E lo lo')(rh:LB P E hi hi')(rm:LB P E mx mx')(w:World)(J0:∃q,hi=some q):∃c,(Instr.sliceBounds true m cap lo' hi' mx').run P w=.ok (l,h,c) w:=by
 obtain⟨q,rfl⟩:=hne;unfold Rj at hm;split at hm;·cases‹some q=none›
 ·rename_i k x0 hq;obtain⟨x,hh⟩:∃x:Int,x=x0:=⟨x0,rfl⟩;subst hh;cases hq;cases hm;have hx:x=(m:Int):=hp;cases mx' with|none=>exact rm.elim|some u=>
  have :=AC.int_inv (show AC P E (.d (.int k) x) u from rm);subst this;have DZ:(Instr.sliceBound (.int k x) cap .slice3Acap).run P w=.ok m w:=by rw[LH (by omega) (by omega),hx];rfl
  unfold Ob at hb;split at hb;·obtain⟨_,h⟩:=J0;cases h
  ·rename_i k2 h0;obtain⟨h1,hh⟩:∃h1:Int,h1=h0:=⟨h0,rfl⟩;subst hh;cases hb;obtain⟨h2,h3⟩:0≤h1∧h1≤(m:Int):=ho;cases lo'<;>cases hi'<;>first|exact rl.elim|exact rh.elim|skip
   rename_i u2;have :=AC.int_inv (show AC P E (.d (.int k2) h1) u2 from rh);subst this;exact⟨m,by simp[Instr.sliceBounds,DZ,LH h2 h3]⟩
  ·obtain⟨_,h⟩:=J0;cases h
  ·rename_i k1 a0 k2 h0;obtain⟨a,hh⟩:∃a:Int,a=a0:=⟨a0,rfl⟩;subst hh;obtain⟨h1,hh⟩:∃h1:Int,h1=h0:=⟨h0,rfl⟩;subst hh;cases hb;obtain⟨h2,h3,h4⟩:0≤a∧a≤h1∧h1≤(m:Int):=ho;cases lo'<;>cases hi'<;>first|exact rl.elim|exact rh.elim|skip
   rename_i u1 u2;have :=AC.int_inv (show AC P E (.d (.int k1) a) u1 from rl);subst this;have :=AC.int_inv (show AC P E (.d (.int k2) h1) u2 from rh);subst this;have e2:((h1.toNat:Nat):Int)=h1:=ZHD (by omega);exact⟨m,by simp[Instr.sliceBounds,DZ,LH (show(0:Int)≤h1 by omega) h4,LH h2 (show a≤((h1.toNat:Nat):Int)by omega)]⟩
  ·cases hb
 ·cases hm
theorem aX{L:Ai}{T:Ty}{xs:List T.den}(h:Ay P E L (.row T xs)):xs.length≤L.cap:=by
 obtain⟨_,_,_,_,_,_,⟨h1,rfl⟩|⟨cur,_,_,h3,_⟩⟩:=h;·simp
 ·exact h3
theorem ZAN(hτ:BQ P τ){t:TypeId}{x:V}{lo hi mx:Option V}{out:Av}(h:W6 τ os t x lo hi mx=some out)(hs:DL os objs)(ho:BM out.ob)(g:AE P E objs){c:Value}{lo' hi' mx':Option Value}(rx:AC P E x c)(rl:LB P E lo lo')(rh:LB P E hi hi')(rm:LB P E mx mx'):Bl P (Instr.sliceAt t c lo' hi' mx') E objs out:=by
 unfold W6 at h;split at h
 ·rename_i e sz by_ zero co BX;have ht:P.underlying t=some (.slice e):=(hτ t _ BX).kind;split at h
  ·rename_i ei hei;have hei:=hτ e _ hei;split at h
   ·rename_i T l;split at h
    ·rename_i Am;simp only[ZGW,Nat.blt_eq]at Am;obtain⟨Am,AU⟩:=Am;have Am:=ZGJ Am;have hc:=Mr rx;obtain⟨a,cap,hc',FU,_⟩:=id hc;have hc'':c=.slice a (List.length (α:=T.den) l) cap:=by simpa using hc'
     subst hc'';split at h;·cases mx' with|some _=>exact rm.elim|none=>
      have key:∀{ob:Option Prop}{lo1 hi1:Nat},Ob (List.length (α:=T.den) l) lo hi=some (ob,lo1,hi1)→BM ob→Bl P (Instr.sliceAt t (.slice a (List.length (α:=T.den) l) cap) lo' hi' none) E objs ⟨ob,.d (.sl T) ((List.take (α:=T.den) hi1 l).drop lo1),none⟩:=by intro ob lo1 hi1 hb ho;obtain⟨h1,h2,h3⟩:=S0 hb ho FU.1 rl rh E.w;have hp:=eR hc AU lo1 hi1 h1 h2;rw[Am]at hp;exact .same g (Pv ht hei E.w h3) (.d hp)
      split at h
      ·split at h;·cases h;have :=key rfl trivial;simpa using this
       ·split at h;·cases h;have :=key rfl ho;simpa using this
        ·cases h
      ·split at h
       ·split at h;·cases h;have :=key rfl ho;rw[ZGN]at this;exact this
        ·split at h;·cases h;exact key rfl ho
         ·cases h
       ·cases h
     ·split at h
      ·rename_i m hz;cases h;unfold uV at hz;split at hz
       ·split at hz
        ·split at hz;·rename_i k1 _ k2 GF;cases GF;cases lo' with|some _=>exact rl.elim|none=>cases hi' with|none=>exact rh.elim|some u=>cases mx' with|none=>exact rm.elim|some u2=>have :=AC.int_inv (show AC P E (.d (.int k1) (0:Int)) u from rh);subst this;have :=AC.int_inv (show AC P E (.d (.int k2) (0:Int)) u2 from rm);subst this;have Du:∀(k:IntKind)(y:Nat)code,(Instr.sliceBound (.int k 0) y code).run P E.w=.ok 0 E.w:=λk y code=>LH (by omega) (by omega) E.w;exact .same g (Pv ht hei E.w (l:=0) (h:=0) (c:=0) (by simp[Instr.sliceBounds,Du])) (.nils _)
         ·cases hz
        ·cases hz
       ·cases hz
      ·cases h
    ·cases h
   ·rename_i l;split at h
    ·rename_i T xs hcs;split at h
     ·rename_i Am;have Am:=ZGJ Am;obtain⟨L,hL,_,hat⟩:=g.get hs hcs;obtain⟨K,hK,rfl⟩:=GQ rx;rw[hL]at hK;cases hK;have FU:=aX hat;split at h
      ·rename_i m hm;split at h
       ·rename_i ob v ed hp;obtain⟨ob',l1,k1,hb,h1,h2,h3⟩:=W4 hp;simp only at h1 h2 h3;subst h1 h2 h3;split at h
        ·cases h;have GF:mx=none:=by
          unfold Rj at hm;split at hm;·rfl
          ·cases hm
          ·cases hm
         subst GF;cases mx' with|some _=>exact rm.elim|none=>obtain⟨h4,h5,h6⟩:=S0 (cap:=L.cap) hb ho FU rl rh E.w;rw[Ai.v,hat.2.2.1];refine .same g (Pv ht hei E.w h6) ?_;rw[ZGu];refine .osp hL ⟨_,rfl,λhne=>?_⟩;rw[ZGA hne,hat.1,Am]
        ·rename_i m';split at h
         ·rename_i hi0;cases h;have X1:∀{q:Prop}{p:Option Prop},Im q p→BM p∧q:=λ{q p}h=>by cases p with|none=>exact⟨trivial,h⟩|some r=>exact h
          obtain⟨ho1,ho2⟩:=X1 ho;have GF:∃q,mx=some q:=by
           unfold Rj at hm;split at hm;·cases hm
           ·exact⟨_,rfl⟩
           ·cases hm
          obtain⟨c,h6⟩:=ZCf (cap:=L.cap) hb GF hm ho1 ho2 FU rl rh rm E.w ⟨_,rfl⟩;rw[Ai.v,hat.2.2.1];exact .same g (Pv ht hei E.w h6) (.any _)
         ·cases h
       ·cases h
      ·cases h
     ·cases h
    ·cases h
   ·rename_i l base m;split at h
    ·rename_i T xs hcs;split at h
     ·rename_i Am;have Am:=ZGJ Am;obtain⟨L,hL,_,hat⟩:=g.get hs hcs;obtain⟨K,hK,a,rfl,ha⟩:=KJ rx;rw[hL]at hK;cases hK;have FU:=aX hat;split at h;·cases mx' with|some _=>exact rm.elim|none=>
       split at h
       ·rename_i ob v ed hp;obtain⟨ob',l1,k1,hb,h1,h2,h3⟩:=W4 hp;simp only at h1 h2 h3;subst h1 h2 h3;cases h;have X1:∀{q:Prop}{p:Option Prop},Im q p→BM p∧q:=λ{q p}h=>by cases p with|none=>exact⟨trivial,h⟩|some r=>exact h
        obtain⟨ho1,ho2⟩:=X1 ho;have hle:qN m (xs.length-base) hi≤xs.length-base:=by cases hi with|none=>show m≤_;omega|some _=>exact ZGR _
        obtain⟨h4,h5,h6⟩:=S0 (cap:=L.cap-base) hb ho1 (by omega) rl rh E.w;replace h6:(Instr.sliceBounds true m (L.cap-base) lo' hi' none).run P E.w=.ok (l1,k1,L.cap-base) E.w:=by cases hi with|none=>exact h6|some q=>cases hi' with|none=>exact rh.elim|some u=>exact h6
        refine .same g (Pv ht hei E.w h6) (.osp hL ⟨_,by rw[Nat.sub_sub],λhne=>?_⟩);rw[ZGA (by omega),ha (by omega),←Am,←hat.1];obtain⟨ER,AU,hlen,e',cs,h9,Bx⟩:=hat;rcases Bx with⟨FC,rfl⟩|⟨cur,Bk,_⟩;·simp at ho2;omega
        ·simp[Bk,ZHd,ZIP]
       ·cases h
      ·cases h
     ·cases h
    ·cases h
   ·split at h;·cases mx' with|some _=>exact rm.elim|none=>
     split at h;·rename_i o hp;cases h;obtain⟨ob',l1,k1,hb,h1,h2,h3⟩:=W4 hp;cases rx with|nils a=>
      obtain⟨h4,h5,h6⟩:=S0 (cap:=0) hb (h1▸ho) (ZGR 0) rl rh E.w;have EJ:l1=0:=by omega
      have hk1:k1=0:=by omega
      subst EJ hk1;exact .same' g h2 (Pv ht hei E.w h6) (by rw[h3];exact .nils _)
     ·cases h
    ·cases h
   ·cases h
  ·cases h
 ·cases h
end
section
variable {P : Program} {τ : Ap} {E : AF} {os objs : AH} {n : Nat}
def Mq(w:World)(b:Nat)(o:Go.Obj):World:={w with heap:=w.heap.setIfInBounds b o}
theorem jQ{w:World}{b clock:Nat}{es:Array MapEntry}(hb:w.heap[b]?=some (.map es clock)):(getObj b).run P w=.ok (.map es clock) w:=by simp[getObj,Sem.run,hb]
theorem ZD1{w:World}{b clock:Nat}{es:Array MapEntry}(hb:w.heap[b]?=some (.map es clock))(o:Go.Obj):(setObj b o).run P w=.ok () (Mq w b o):=by simp only[setObj,Sem.run,hb,Mq]
section
variable {κ : Type} [DecidableEq κ] {f : κ → Value} {d : TypeDesc} {kt : TypeId}
theorem iU(hs:∀a b,Instr.sameNow d (f a) (f b)=some (decide (a=b)))(a:κ):∀(l:List MapEntry)(i:Nat),(∀e∈l,∃k,e.key=f k)→(∃j e,l[j]?=some e∧e.key=f a∧Instr.findNow d (f a) l i=some (some (i+j,e.val)))∨(∀e∈l,∀k,e.key=f k→k≠a)∧Instr.findNow d (f a) l i=some none
 |[],i,_=>.inr ⟨λe he=>by simp at he,rfl⟩|e::l,i,h=>by
  obtain⟨k,hk⟩:=h e (by simp);by_cases J1:a=k;·subst J1;exact .inl ⟨0,e,rfl,hk,by simp[Instr.findNow,hk,hs]⟩
  ·rcases iU hs a l (i+1) λe he=>h e (by simp[he])with⟨j,e',h1,h2,h3⟩|⟨h1,h2⟩;·exact .inl ⟨j+1,e',by simpa using h1,h2,by simp[Instr.findNow,hk,hs,J1,h3];omega⟩
   ·refine .inr ⟨λx hx k' hk'=>?_,by simp[Instr.findNow,hk,hs,J1,h2]⟩;rcases List.mem_cons.1 hx with rfl|hx
    ·intro e';subst e';have :Instr.sameNow d (f k') (f k)=some true:=by rw[←hk,hk',hs];simp
     rw[hs]at this;simp at this;exact J1 this
    ·exact h1 x hx k' hk'
theorem iS(hd:P.underlying kt=some d)(hs:∀a b,Instr.sameNow d (f a) (f b)=some (decide (a=b)))(a:κ)(l:List MapEntry)(h:∀e∈l,∃k,e.key=f k):(∃j e,l[j]?=some e∧e.key=f a∧∀w,(Instr.findKey kt (f a) l).run P w=.ok (some (j,e.val)) w)∨(∀e∈l,∀k,e.key=f k→k≠a)∧∀w,(Instr.findKey kt (f a) l).run P w=.ok none w:=by
 rcases iU hs a l 0 h with⟨j,e,h1,h2,h3⟩|⟨h1,h2⟩;·exact .inl ⟨j,e,h1,h2,λw=>by simp[Instr.findKey,ZGX hd,h3]⟩
 ·exact .inr ⟨h1,λw=>by simp[Instr.findKey,ZGX hd,h2]⟩
theorem ZE(hs:∀a b,Instr.sameNow d (f a) (f b)=some (decide (a=b))){a b:κ}(h:f a=f b):a=b:=by have h1:=hs a b;rw[h,hs b b]at h1;simp at h1;exact h1
theorem oG{t e:TypeId}{T:Ty}{m:κ→Option T.den}{es:Array MapEntry}{w:World}{clock b:Nat}{z:Value}(ht:P.underlying t=some (.map kt e))(hd:P.underlying kt=some d)(hs:∀a b,Instr.sameNow d (f a) (f b)=some (decide (a=b)))(NU:∀a w b n,(Instr.checkKey b (n+1) kt (f a)).run P w=.ok () w)(hz:(zeroValue e).run P w=.ok z w)(hz1:BZ w E.S T T.dflt [z])(hb:w.heap[b]?=some (.map es clock))(h:Lj f w E.S T m es)(a:κ):∃v,BZ w E.S T ((m a).getD T.dflt) [v]∧∀ok,(Instr.lookup t (.map (some b)) (f a) ok).run P w=.ok (if ok then .tuple #[v,.bool (m a).isSome]else v) w:=by
 obtain⟨h1,h2,h3⟩:=h;have Qw:∀b,(Instr.checkKey b 10000 kt (f a)).run P w=.ok () w:=λb=>NU a w b 9999;have hg:=jQ (P:=P) hb;rcases iS (P:=P) hd hs a es.toList λe he=>let⟨k,_,hk,_⟩:=h1 e he;⟨k,hk⟩with⟨j,e0,h4,h5,h6⟩|⟨h4,h5⟩;·obtain⟨k,x,h7,h8,h9⟩:=h1 e0 (ZHf h4);have hk:=ZE hs (h5.symm.trans h7);subst hk;refine⟨e0.val,by rw[h8];exact h9,λok=>?_⟩;cases ok<;>simp[Instr.lookup,ZGX ht,hg,Qw,h6,h8]
 ·have hn:m a=none:=by cases hm:m a with|none=>rfl|some x=>obtain⟨e0,he0,hk⟩:=h2 a x hm;exact absurd rfl (h4 e0 he0 a hk)
  refine⟨z,by rw[hn];exact hz1,λok=>?_⟩;cases ok<;>simp[Instr.lookup,ZGX ht,hg,Qw,h5,hz,hn]
theorem oH{t e:TypeId}{T:Ty}{m:κ→Option T.den}{es:Array MapEntry}{w:World}{clock b:Nat}{v:Value}{x:T.den}(ht:P.underlying t=some (.map kt e))(hd:P.underlying kt=some d)(hs:∀a b,Instr.sameNow d (f a) (f b)=some (decide (a=b)))(NU:∀a w b n,(Instr.checkKey b (n+1) kt (f a)).run P w=.ok () w)(ZA2:∀a,Instr.sameBits 10000 (f a) (f a)=true)(hv:BZ w E.S T x [v])(hb:w.heap[b]?=some (.map es clock))(h:Lj f w E.S T m es)(a:κ):∃es' clock',(Instr.mapUpdate t (.map (some b)) (f a) v).run P w=.ok () (Mq w b (.map es' clock'))∧Lj f w E.S T (Bu m a x) es':=by
 obtain⟨h1,h2,h3⟩:=h;have Qw:(Instr.checkKey false 10000 kt (f a)).run P w=.ok () w:=NU a w false 9999;have hg:=jQ (P:=P) hb;have Gw:=ZD1 (P:=P) hb;rcases iS (P:=P) hd hs a es.toList λe he=>let⟨k,_,hk,_⟩:=h1 e he;⟨k,hk⟩with⟨j,e0,h4,h5,h6⟩|⟨h4,h5⟩
 ·have hj:es[j]?=some e0:=by simpa using h4
  have IJ:j<es.toList.length:=(List.getElem?_eq_some_iff.1 h4).1;refine⟨es.modify j λe=>{e with key:=f a,val:=v},clock,?_,λe1 FV=>?_,λk y hk=>?_,?_⟩;·simp[Instr.mapUpdate,ZGX ht,hg,Qw,h6,hj,Instr.keyThatStays,h5,ZA2,Gw]
  ·simp only[ZJo]at FV;obtain⟨i,hi⟩:=List.mem_iff_getElem?.1 FV;rw[ZJk]at hi;by_cases hij:j=i;·subst hij;simp[hj]at hi;subst hi;exact⟨a,x,rfl,by simp[Bu],hv⟩
   ·have hi2:es.toList[i]?=some e1:=by simpa[hij]using hi
    clear hi;obtain⟨k,y,h7,h8,h9⟩:=h1 e1 (ZHf hi2);refine⟨k,y,h7,?_,h9⟩;unfold Bu;rw[ZGA ?_];·exact h8
    ·intro hk;subst hk;have Ek:i<es.toList.length:=(List.getElem?_eq_some_iff.1 hi2).1;have hk1:(es.toList.map λe=>e.key)[j]?=some (f k):=by rw[ZHO,h4];simp[h5]
     have hk2:(es.toList.map λe=>e.key)[i]?=some (f k):=by rw[ZHO,hi2];simp[h7]
     obtain⟨Ix,hj2⟩:=List.getElem?_eq_some_iff.1 hk1;obtain⟨lM,hi4⟩:=List.getElem?_eq_some_iff.1 hk2;rcases ZJQ hij with Ab|YO;·exact List.pairwise_iff_getElem.1 h3 j i Ix lM Ab (hj2.trans hi4.symm)
     ·exact List.pairwise_iff_getElem.1 h3 i j lM Ix YO (hi4.trans hj2.symm)
  ·unfold Bu at hk;by_cases J1:k=a;·subst J1;exact⟨{e0 with key:=f k,val:=v},ZHf (i:=j) (by simp[hj]),rfl⟩
   ·rw[ZGA J1]at hk;obtain⟨e1,FV,hk1⟩:=h2 k y hk;obtain⟨i,hi⟩:=List.mem_iff_getElem?.1 FV;refine⟨e1,ZHf (i:=i) ?_,hk1⟩;simp only[ZJo,ZJk];by_cases hij:j=i;·subst hij;rw[h4]at hi;cases hi;exact absurd (ZE hs (hk1.symm.trans h5)) J1
    ·simp[hij];simpa using hi
  ·have :(es.modify j λe=>{e with key:=f a,val:=v}).toList.map (λe=>e.key)=es.toList.map λe=>e.key:=by
    apply ZHX;intro i;simp only[ZJo,ZHO,ZJk];by_cases hij:j=i;·subst hij;simp[hj,h5]
    ·simp[hij]
   rw[this];exact h3
 ·refine⟨es.push {key:=f a,val:=v,born:=clock},clock+1,?_,λe1 FV=>?_,λk y hk=>?_,?_⟩;·simp[Instr.mapUpdate,ZGX ht,hg,Qw,h5,Gw]
  ·simp only[Array.toList_push,ZGa,ZGT]at FV;rcases FV with FV|rfl;·obtain⟨k,y,h7,h8,h9⟩:=h1 e1 FV;refine⟨k,y,h7,?_,h9⟩;unfold Bu;rw[ZGA (h4 e1 FV k h7)];exact h8
   ·exact⟨a,x,rfl,by simp[Bu],hv⟩
  ·unfold Bu at hk;by_cases J1:k=a;·subst J1;exact⟨{key:=f k,val:=v,born:=clock},by simp,rfl⟩
   ·rw[ZGA J1]at hk;obtain⟨e1,FV,hk1⟩:=h2 k y hk;exact⟨e1,by simp[Array.mem_toList_iff.1 FV],hk1⟩
  ·simp only[Array.toList_push,ZGp,ZGi,ZIA];rw[List.nodup_append];refine⟨h3,by simp,λu hu v' hv'=>?_⟩;simp only[ZGT]at hv';subst hv';obtain⟨e1,FV,rfl⟩:=List.mem_map.1 hu;obtain⟨k,y,h7,_⟩:=h1 e1 FV;intro he;exact h4 e1 FV k h7 (ZE hs (h7.symm.trans he))
end
theorem rD(g:AE P E objs)(hf:E.loc n=none){κ:Type}{f:κ→Value}{T:Ty}(o:Obj)(Al:∀(E':AF)(L:Ai),(∃es clock,E'.w.heap[L.b]?=some (.map es clock)∧Lj f E'.w E'.S T (λ_=>none) es)→Ay P E' L o):∃E',E'.w=E.w.alloc (.map #[] 0)∧AE P E' ((n,o)::objs)∧BL E objs E' ((n,o)::objs) []∧AC P E' (.map n) (.map (some E.w.heap.size)):=by have hw:=ZHV E.w (.map #[] 0) none;let L:Ai:={b:=E.w.heap.size};have h:=AE.push g (L:=L) (o:=o) hf hw (Al _ _ ⟨#[],0,ZIG _ _,λe he=>by simp at he,λk x hk=>by simp at hk,by simp⟩) λ_=>ZGR _;exact⟨_,rfl,h.1,h.2,.map (CJ _ _ _ _)⟩
theorem ZAJ(hτ:BQ P τ){t:TypeId}{out:Av}(h:W0 τ n t=some out)(g:AE P E objs)(hf:E.loc n=none):Bl P (Instr.makeMap t none) E objs out:=by
 unfold W0 at h;split at h
 ·split at h
  ·rename_i T _;split at h
   ·split at h;·cases h;obtain⟨E',hw,h1,h2,h3⟩:=rD g hf (f:=Value.string) (T:=T) (.smap T λ_=>none) λE' L h=>h;exact⟨E',_,by rw[hw];simp[Instr.makeMap],h1,h2,h3⟩
    ·cases h;obtain⟨E',hw,h1,h2,h3⟩:=rD g hf (f:=Value.int .i64) (T:=T) (.imap T λ_=>none) λE' L h=>h;exact⟨E',_,by rw[hw];simp[Instr.makeMap],h1,h2,h3⟩
    ·cases h
   ·cases h
  ·cases h
 ·cases h
theorem uX{e:TypeId}{ei:TI}{T:Ty}(hei:ei.Ok P e)(hT:ei.code=some T)(h1:T.size=1)(hz:∃ie ze,P.info? e=some ie∧ie.zero=some ze∧ze.oneCell'=true):∃z,(∀w,(zeroValue e).run P w=.ok z w)∧∀w S,BZ w S T T.dflt [z]:=by obtain⟨ie,ze,hi,hz1,HP⟩:=hz;obtain⟨info,z,T4,hs,hb,nF,DO,Da⟩:=hei.info;rw[hi]at T4;cases T4;rw[hz1]at nF;cases nF;refine⟨ze,λw=>M1 hi hz1 w,λw S=>?_⟩;have :=(hei.code T hT).2.2 w S;rw[←DO,WT HP]at this;exact this
theorem eA(a b:ByteArray):(a==b)=decide (a=b):=by
 obtain⟨a⟩:=a;obtain⟨b⟩:=b;show(a==b)=_;by_cases h:a=b;·subst h;simp
 ·have h2:¬ByteArray.mk a=ByteArray.mk b:=λe=>h (by cases e;rfl);simp[h]
theorem sE:∀a b:ByteArray,Instr.sameNow .string (.string a) (.string b)=some (decide (a=b)):=λa b=>by simp only[Instr.sameNow,eA]
theorem sD(q:IntKind):∀a b:Int,Instr.sameNow (.int q) (.int .i64 a) (.int .i64 b)=some (decide (a=b)):=λa b=>by
 by_cases h:a=b;·subst h;simp[Instr.sameNow]
 ·simp[Instr.sameNow,h]
theorem jG{T:Ty}{x:Option T.den}{ok:Bool}{v:Value}(h:BZ E.w E.S T (x.getD T.dflt) [v]):AC P E (XU ok T x) (if ok then .tuple #[v,.bool x.isSome]else v):=by cases ok with|false=>exact .d h|true=>refine .tup rfl λj hj=>?_;match j,hj with|0,_=>exact .d h|1,_=>exact .mk_bool _
theorem ZAI(hτ:BQ P τ){t:TypeId}{m k:V}{ok:Bool}{out:Av}(h:Wz τ os t m k ok=some out)(hs:DL os objs)(g:AE P E objs){c d:Value}(rm:AC P E m c)(rk:AC P E k d):Bl P (Instr.lookup t c d ok) E objs out:=by
 unfold Wz at h;split at h
 ·rename_i kt e _ _ _ _ BX;obtain⟨ht,hz⟩:=(hτ t _ BX).kind;split at h
  ·rename_i l;obtain⟨K,hK,rfl⟩:=pJ rm;split at h
   ·rename_i k0 sz by_ zero T h2;split at h
    ·rename_i h1;have J3:P.underlying kt=some .string:=(hτ kt _ h1).kind;split at h
     ·rename_i T' f h3;split at h
      ·rename_i s;split at h
       ·rename_i hT;subst hT;split at h;·rename_i Am;cases h;obtain⟨L,hL,_,es,clock,hb,hm⟩:=g.get hs h3;rw[hL]at hK;cases hK;rw[rk.str_inv];obtain⟨z,hz1,HP⟩:=uX (hτ e _ h2) rfl (ZGJ Am) hz;obtain⟨v,Bk,CA⟩:=oG (P:=P) ht J3 sE λa w b n=>by simp[Instr.checkKey,ZGX J3] (hz1 E.w) (HP _ _) hb hm s;exact .same g (CA ok) (jG Bk)
        ·cases h
       ·cases h
      ·cases h
     ·cases h
    ·rename_i h1;have J3:P.underlying kt=some (.int .i64):=(hτ kt _ h1).kind;split at h
     ·rename_i T' f h3;split at h
      ·rename_i s;split at h
       ·rename_i hT;subst hT;split at h;·rename_i Am;cases h;obtain⟨L,hL,_,es,clock,hb,hm⟩:=g.get hs h3;rw[hL]at hK;cases hK;rw[rk.int_inv];obtain⟨z,hz1,HP⟩:=uX (hτ e _ h2) rfl (ZGJ Am) hz;obtain⟨v,Bk,CA⟩:=oG (P:=P) ht J3 (sD _) λa w b n=>by simp[Instr.checkKey,ZGX J3] (hz1 E.w) (HP _ _) hb hm s;exact .same g (CA ok) (jG Bk)
        ·cases h
       ·cases h
      ·cases h
     ·cases h
    ·cases h
   ·cases h
  ·cases h
 ·cases h
theorem rF(g:AE P E objs){l:Nat}{L:Ai}{o o':Obj}{es':Array MapEntry}{clock':Nat}(hl:AB l objs=some o)(hL:E.loc l=some L)(hh:o.has L)(ho:∀E':AF,E'.w.heap[L.b]?=some (.map es' clock')→CK E E' []→Ay P E' L o'):∃E',E'.w=Mq E.w L.b (.map es' clock')∧AE P E' ((l,o')::objs)∧BL E objs E' ((l,o')::objs) []:=by have Ab:=g.own_lt ⟨l,o,L,hl,hL,hh,rfl⟩;have hgr:E.w.grownBy (Mq E.w L.b (.map es' clock')) (some L.b):=⟨rfl,rfl,rfl,by simp[Mq],λk _ hk=>by simp only[Mq];rw[Array.getElem?_setIfInBounds_ne λe=>hk (by rw[e])]⟩;have DN:∀b,some L.b=some b→o.has L∧b=L.b:=λb e=>⟨hh,by cases e;rfl⟩;have hx:=OC g (M:=[]) (L':=L) hl hL hgr DN λ_=>rfl;have h:=AE.put g (mv:=false) (o':=o') hl hL hgr DN (λ_=>rfl) (ho _ (by simp[AF.setL,Mq,Ab]) hx) λ_=>.inl ⟨hh,rfl⟩;exact⟨_,rfl,h.1,h.2⟩
theorem ZAL(hτ:BQ P τ){t:TypeId}{m k x:V}{out:Av}(h:W3 τ os t m k x=some out)(hs:DL os objs)(g:AE P E objs){c d v:Value}(rm:AC P E m c)(rk:AC P E k d)(rx:AC P E x v):dG P (Instr.mapUpdate t c d v) E objs out∧out.v=.tup []:=by
 unfold W3 at h;split at h
 ·rename_i kt e _ _ _ _ BX;obtain⟨ht,hz⟩:=(hτ t _ BX).kind;split at h
  ·rename_i l;obtain⟨K,hK,rfl⟩:=pJ rm;split at h
   ·rename_i h1;have J3:P.underlying kt=some .string:=(hτ kt _ h1).kind;split at h
    ·rename_i T f h3;split at h
     ·rename_i s;split at h;·rename_i y hy;cases h;have hc:=IW hy (AZ.cons rx .nil);obtain⟨L,hL,Al,es,clock,hb,hm⟩:=g.get hs h3;rw[hL]at hK;cases hK;rw[rk.str_inv];obtain⟨es',clock',h4,h5⟩:=oH (P:=P) ht J3 sE λa w b n=>by simp[Instr.checkKey,ZGX J3] λa=>by simp[Instr.sameBits,eA] hc hb hm s;obtain⟨E',hw,g',st⟩:=rF g (o':=.smap T (Bu f s y)) Al hL trivial λE' hb' hx=>⟨es',clock',hb',h5.mono hx.S⟩;exact⟨⟨E',by rw[hw];exact h4,g',st⟩,rfl⟩
      ·cases h
     ·cases h
    ·cases h
   ·rename_i h1;have J3:P.underlying kt=some (.int .i64):=(hτ kt _ h1).kind;split at h
    ·rename_i T f h3;split at h
     ·rename_i s;split at h;·rename_i y hy;cases h;have hc:=IW hy (AZ.cons rx .nil);obtain⟨L,hL,Al,es,clock,hb,hm⟩:=g.get hs h3;rw[hL]at hK;cases hK;rw[rk.int_inv];obtain⟨es',clock',h4,h5⟩:=oH (P:=P) ht J3 (sD _) λa w b n=>by simp[Instr.checkKey,ZGX J3] λa=>by simp[Instr.sameBits] hc hb hm s;obtain⟨E',hw,g',st⟩:=rF g (o':=.imap T (Bu f s y)) Al hL trivial λE' hb' hx=>⟨es',clock',hb',h5.mono hx.S⟩;exact⟨⟨E',by rw[hw];exact h4,g',st⟩,rfl⟩
      ·cases h
     ·cases h
    ·cases h
   ·cases h
  ·cases h
 ·cases h
theorem ZAm(l:List Int):∀s:ByteArray,l.foldl (λr n=>r.push (UInt8.ofNat n.toNat)) s=⟨s.data++(l.map λn=>UInt8.ofNat n.toNat).toArray⟩:=by induction l with|nil=>intro s;simp|cons n l ih=>intro s;rw[ZG3,ih];simp[ByteArray.push]
theorem eS{w:World}{S:Nat→Prop}:∀{l:List Int}{cs:List Value},A8 w S (.int .u8) l cs→cs=l.map (Value.int .u8)|[],_,h=>h|n::l,_,⟨c1,c2,h,h1,h2⟩=>by rw[h,show c1=[.int .u8 n]from h1,eS h2];rfl
theorem ZAB(hτ:BQ P τ){a b:TypeId}{x:V}{out:Av}(h:Ws τ os a b x=some out)(hs:DL os objs)(ho:BM out.ob)(g:AE P E objs){c:Value}(rx:AC P E x c):Bl P (convert a b c) E objs out:=by
 unfold Ws at h;split at h
 ·rename_i k1 _ _ _ _ h1;have ha:P.underlying a=some (.int k1):=(hτ a _ h1).kind;split at h
  ·rename_i k2 _ _ _ _ h2;have hb:P.underlying b=some (.int k2):=(hτ b _ h2).kind;split at h;·cases h;rw[rx.int_inv];obtain⟨c,rfl,hc⟩:=Sd (P:=P) ho;exact .same' g (Vo _ _) (by simp[convert,ZGX ha,ZGX hb,Conv.intToInt]) (hc E)
   ·cases h
  ·cases h
 ·rename_i e _ _ _ _ h1;have ha:P.underlying a=some (.slice e):=(hτ a _ h1).kind;split at h
  ·rename_i h2;have hb:P.underlying b=some .string:=(hτ b _ h2).kind;split at h
   ·rename_i h3;have he:P.underlying e=some (.int .u8):=(hτ e _ h3).kind;split at h
    ·rename_i l;split at h
     ·rename_i xs hcs;cases h;obtain⟨L,hL,_,hat⟩:=g.get hs hcs;obtain⟨K,hK,rfl⟩:=GQ rx;rw[hL]at hK;cases hK;obtain⟨cs,It,hl,ZBv⟩:=sB hat;rcases ZBv with⟨ad,cap,hv,hx⟩|⟨s,hv,_⟩;·rw[hv];have X2:=eS It;have hrun:=ZKG (P:=P) E.w a b e ad (List.length (α:=Int) xs) cap ha he hb;cases ad with
       |none=>
        have h0:xs=[]:=by cases xs with|nil=>rfl|cons x xs=>obtain⟨ad,h,_⟩:=hx (by simp);cases h
        subst h0;exact .same g (v:=.string ByteArray.empty) (by have :=hrun;simp only[ZGS]at this⊢;rw[this];simp[Conv.bytesToString]) (.mk_str _)|some ad=>
        have hld:(loadCells ad (List.length (α:=Int) xs)).run P E.w=.ok (List.map (Value.int .u8) xs).toArray E.w:=by
         have :=run_loadCells_list (P:=P) E.w ad (List.map (Value.int .u8) xs) λj v hj=>by
          have AU:0<List.length (α:=Int) xs:=by have :=(List.getElem?_eq_some_iff.1 hj).1;rw[ZGM]at this;omega
          obtain⟨ad',h,hx'⟩:=hx AU;cases h;exact hx' j v (by rw[X2];exact hj)
         rw[ZGM]at this;exact this
        refine .same g (v:=.string (CP xs)) ?_ (.mk_str _);refine hrun.trans ?_;rw[run_bytesToString E.w ad (List.length (α:=Int) xs) cap xs hld,ZAm];simp[CP,ByteArray.empty,ByteArray.emptyWithCapacity];rfl
      ·cases hv
     ·cases h
    ·cases h;cases rx with|nils a'=>have hrun:=ZKG (P:=P) E.w a b e a' 0 0 ha he hb;exact .same g (v:=.string ByteArray.empty) (by rw[hrun];cases a'<;>simp[Conv.bytesToString,loadCells,loadCellsFrom]) (.mk_str _)
    ·cases h
   ·cases h
  ·cases h
 ·cases h
theorem ZAA(hτ:BQ P τ){t ty:TypeId}{x:V}{out:Av}(h:Wr τ os t x=some out)(hs:DL os objs)(ho:BM out.ob)(g:AE P E objs){c:Value}(rx:AC P E x c):Bl P (Builtin.clear_ #[t] ty #[c]) E objs out:=by
 unfold Wr at h;split at h
 ·rename_i e sz by_ zero co BX;have ht:P.underlying t=some (.slice e):=(hτ t _ BX).kind;split at h
  ·rename_i l lo m;split at h
   ·rename_i k2 sz2 by2 zero2 T he;have hei:=hτ e _ he;obtain⟨hTs,AU,JR⟩:=hei.code _ rfl;obtain⟨info,z,hi,Am,hb,hz,DO,Da⟩:=hei.info;have hTs:T.size=sz2:=hTs;have AU:0<T.size:=by rw[hTs];exact AU
    have DO:z.cells.toList=zero2:=DO;have Da:z.cells.size=sz2:=Da;split at h
    ·rename_i t' xs hcs;split at h
     ·rename_i hT;subst hT;cases h;have hle:lo+m≤xs.length:=ho;obtain⟨L,hL,Al,hat⟩:=g.get hs hcs;obtain⟨K,hK,Fz⟩:=KJ rx;rw[hL]at hK;cases hK;by_cases hm:m=0
      ·subst hm;have Lh:xs.take lo++List.replicate 0 t'.dflt++xs.drop (lo+0)=xs:=by simp
       rw[Lh];have hp:=AE.put g (mv:=false) (L':=L) (o':=.row t' xs) (w:=E.w) (row:=none) Al hL ⟨rfl,rfl,rfl,ZGR _,λ_ _ _=>rfl⟩ (λb hb=>by cases hb) (λ_=>rfl) (by
        refine hat.keep (⟨λb hb=>⟨hb,rfl⟩,λj K _ hK=>?_⟩:CK E (E.setL E.w l L) []) λ_=>rfl;by_cases e:j=l;·subst e;rw[hL]at hK;cases hK;exact CJ _ _ _ _
        ·rw[B4 _ _ _ e];exact hK) λhh=>.inl ⟨hh,rfl⟩;obtain⟨a,rfl,_⟩:=Fz;refine⟨E.setL E.w l L,.tuple #[],?_,hp.1,hp.2,.tup rfl λj hj=>by simp at hj⟩;show _=Result.ok _ E.w;cases a<;>simp[Builtin.clear_,ZGX ht]
      ·have hzc:(Builtin.zeroCells z.cells m).toList=(List.replicate m zero2).flatten:=by
        have B6:0<z.cells.size:=by rw[Da,←hTs];exact AU
        have :=Zb (z:=z.cells) (n:=m) (c:=m) B6 (ZGR _);rw[DO]at this;rw[←this];show _=((Builtin.zeroCells z.cells m).toList).take _;rw[ZHt (by simp[ZIf])]
       obtain⟨w,BO,g1,g2⟩:=aZ (ys:=List.replicate m t'.dflt) (lo:=lo) g Al hL hat (by simpa using hle) (by simp;omega) (Pp (JR E.w E.S) m);rw[ZGj]at g1 g2;refine⟨E.setL w l L,.tuple #[],?_,g1,g2,.tup rfl λj hj=>by simp at hj⟩;rw[U9 hat hle (by omega) Fz];cases m with|zero=>exact absurd rfl hm|succ m=>simp[Builtin.clear_,ZGX ht,M1 hi hz,hzc,BO];rfl
     ·cases h
    ·cases h
   ·cases h
  ·cases h
 ·cases h
end
section
variable {P : Program} {τ : Ap} {E : AF} {os objs : AH} {n : Nat}
def M4(P:Program)(o:Oper)(ρ:Operand→Value)(E:AF)(objs:AH)(out:Av):Prop:=∃E' n v,(execOp ρ o).run P E.w=.ok n E'.w∧(n=.value v∨n=.skip∧v=undef)∧AE P E' (edit objs out.ed)∧BL E objs E' (edit objs out.ed) (moved out.ed)∧AC P E' out.v v
theorem Bl.ran{o:Oper}{ρ:Operand→Value}{out:Av}{s:Sem Value}(h:Bl P s E objs out)(he:execOp ρ o=do let v←s;pure (Next.value v)):M4 P o ρ E objs out:=by obtain⟨E',v,h1,h2,h3,h4⟩:=h;exact⟨E',.value v,v,by rw[he];simp[h1],.inl rfl,h2,h3,h4⟩
theorem Mg{tmps:List (Nat×V)}{ρ:Operand→Value}:∀{xs:List Operand},(∀x∈xs,AC P E (Au tmps x) (ρ x))→AZ P E (B3 tmps xs) (xs.map ρ)|[],_=>.nil|x::xs,h=>.cons (h x (by simp)) (Mg λy hy=>h y (by simp[hy]))
theorem Zc{tmps:List (Nat×V)}:∀{xs:List (Nat×Operand)},(Ll tmps xs).map (·.1)=xs.map (·.1)|[]=>rfl|(i,x)::xs=>by simp only[Ll,ZGi,Zc]
theorem Zd{tmps:List (Nat×V)}:∀{xs:List (Nat×Operand)}(j:Nat),(Ll tmps xs)[j]?=(xs[j]?).map λp=>(p.1,Au tmps p.2)|[],j=>by simp[Ll]|(i,x)::xs,0=>by simp[Ll]|(i,x)::xs,j+1=>by simpa[Ll]using Zd j
theorem Ze{tmps:List (Nat×V)}{xs:List Operand}{v:V}(h:B3 tmps xs=[v]):∃x,xs=[x]∧Au tmps x=v:=by match xs,h with|[x],h=>exact⟨x,rfl,by simpa[B3]using h⟩|[],h=>simp[B3]at h|_::_::_,h=>simp[B3]at h
theorem Ri{tmps:List (Nat×V)}{xs:List Operand}{u v:V}(h:B3 tmps xs=[u,v]):∃x y,xs=[x,y]∧Au tmps x=u∧Au tmps y=v:=by match xs,h with|[x,y],h=>exact⟨x,y,rfl,by simpa[B3]using h⟩|[],h=>simp[B3]at h|[_],h=>simp[B3]at h|_::_::_::_,h=>simp[B3]at h
set_option maxHeartbeats 1000000 in
theorem ZAQ(hτ:BQ P τ){o:Oper}{tmps:List (Nat×V)}{out:Av}(h:QR τ o.op tmps os n=some out)(hs:DL os objs)(ho:BM out.ob)(g:AE P E objs)(hf:E.loc n=none){ρ:Operand→Value}(hρ:∀x∈o.op.operands,AC P E (Au tmps x) (ρ x))(hc:∀v,ρ (.const v)=v):M4 P o ρ E objs out:=by
 obtain⟨dst,op,type,pos,after,guard⟩:=o;cases op<;>simp only[QR]at h<;>try(cases h;done)
 case move x=>cases h;exact(Bl.same g (s:=pure (ρ x)) (by simp) (hρ x (by simp[Op.operands]))).ran rfl
 case assign x=>cases h;exact(Bl.same g (s:=pure (ρ x)) (by simp) (hρ x (by simp[Op.operands]))).ran rfl
 case pick c a b=>
  have :=ZAM (P:=P) h ho g (hρ c (by simp[Op.operands])) (hρ a (by simp[Op.operands])) (hρ b (by simp[Op.operands])) (λv e=>by subst e;exact hc _) λv e=>by subst e;exact hc _
  exact this.ran (by simp[execOp])
 case alloc t=>exact(zT hτ h g hf).ran rfl
 case box t x=>exact(zX h g hf (hρ x (by simp[Op.operands]))).ran rfl
 case build t parts=>refine(zZ (vals:=parts.map λ(i,x)=>(i,ρ x)) hτ h g (by rw[Zc];simp) λj p q hp hq=>?_).ran rfl;rw[Zd,ZGo]at hp;simp only[ZJG,ZHO,ZGo]at hq;obtain⟨x,hx1,rfl⟩:=hp;obtain⟨y,KI,rfl⟩:=hq;rw[hx1]at KI;cases KI;exact hρ _ (by simp only[Op.operands];exact List.mem_toArray.2 (List.mem_map.2 ⟨x,ZHf hx1,rfl⟩))
 case buildSlice t m parts=>refine(zY (vals:=parts.map λ(i,x)=>(i,ρ x)) hτ h g hf (by rw[Zc];simp) λj p q hp hq=>?_).ran rfl;rw[Zd,ZGo]at hp;simp only[ZJG,ZHO,ZGo]at hq;obtain⟨x,hx1,rfl⟩:=hp;obtain⟨y,KI,rfl⟩:=hq;rw[hx1]at KI;cases KI;exact hρ _ (by simp only[Op.operands];exact List.mem_toArray.2 (List.mem_map.2 ⟨x,ZHf hx1,rfl⟩))
 case load t a=>exact(ZAH hτ h hs ho g (hρ a (by simp[Op.operands]))).ran rfl
 case store t a x=>obtain⟨⟨E',h1,h2,h3⟩,hv⟩:=ZAO hτ h hs ho g (hρ a (by simp[Op.operands])) (hρ x (by simp[Op.operands]));exact⟨E',.skip,undef,by simp[execOp,h1],.inr ⟨rfl,rfl⟩,h2,h3,by rw[hv];exact .tup rfl λj hj=>by simp at hj⟩
 case nilCheck x=>
  have r:=hρ x (by simp[Op.operands]);split at h;·rename_i l o e;cases h;rw[e]at r;obtain⟨L,hL,hq⟩:=Po r;exact(Bl.same g (s:=pure (ρ x)) (by simp) r).ran (by simp[execOp,hq])
  ·rename_i cs e;cases h;rw[e]at r;obtain⟨b,off,vals,hq,_⟩:=QX r;exact(Bl.same g (s:=pure (ρ x)) (by simp) r).ran (by simp[execOp,hq])
  ·rename_i b cs e;cases h;rw[e]at r;cases r with|opt h1 h2=>have r':=h1 ho;obtain⟨b,off,vals,hq,_⟩:=QX r';exact(Bl.same g (s:=pure (ρ x)) (by simp) r').ran (by simp[execOp,hq])
  ·rename_i f a b e;cases h;rw[e]at r;cases hq:ρ x with|func fn fs cs=>rw[hq]at r;have r2:=r;cases r2;exact(Bl.same g (s:=pure (.func (.func f) fs cs)) (by simp) r).ran (by simp[execOp,hq])|_=>rw[hq]at r;cases r
  ·cases h
 case binOp op xt x y yt=>exact(zW (ox:=x) (oy:=y) hτ h ho g (hρ x (by simp[Op.operands])) (hρ y (by simp[Op.operands]))).ran rfl
 case unOp op xt x=>exact(ZAP h ho g (hρ x (by simp[Op.operands]))).ran rfl
 case convert a b x=>exact(ZAB hτ h hs ho g (hρ x (by simp[Op.operands]))).ran rfl
 case makeFunc f a b=>
  cases h;have h1:AZ P E (B3 tmps a.toList) (a.toList.map ρ):=Mg λx hx=>hρ x (by simp[Op.operands,Array.mem_toList_iff.1 hx]);have h2:AZ P E (B3 tmps b.toList) (b.toList.map ρ):=Mg λx hx=>hρ x (by simp[Op.operands,Array.mem_toList_iff.1 hx]);refine(Bl.same g (s:=Instr.makeFunc f (a.map ρ) (b.map ρ)) (v:=.func f (a.map ρ) (b.map ρ)) (by simp[Instr.makeFunc]) (.fn (by simpa using h1.1) (by simpa using h2.1) (λj hj=>?_) λj hj=>?_)).ran rfl;·have :=h1.2 j hj;simpa[ZGV,ZGG]using this
  ·have :=h2.2 j hj;simpa[ZGV,ZGG]using this
 case makeSlice t l c=>exact(ZAK hτ h ho g hf (hρ l (by simp[Op.operands])) (hρ c (by simp[Op.operands]))).ran rfl
 case slice t x lo hi mx=>
  have Ym:∀y:Option Operand,(∀z,y=some z→AC P E (Au tmps z) (ρ z))→LB P E (U4 tmps y) (y.map ρ):=by intro y hy;cases y with|none=>trivial|some z=>exact hy z rfl
  exact(ZAN (lo':=lo.map ρ) (hi':=hi.map ρ) (mx':=mx.map ρ) hτ h hs ho g (hρ x (by simp[Op.operands])) (Ym lo λz e=>hρ z (by subst e;simp[Op.operands])) (Ym hi λz e=>hρ z (by subst e;simp[Op.operands])) (Ym mx λz e=>hρ z (by subst e;simp[Op.operands]))).ran rfl
 case fieldAddr t x f=>exact(ZAD hτ h g (hρ x (by simp[Op.operands]))).ran rfl
 case indexAddr t x i=>exact(ZAE hτ h hs ho g (hρ x (by simp[Op.operands])) (hρ i (by simp[Op.operands]))).ran rfl
 case index t x i=>exact(gY hτ h g (hρ x (by simp[Op.operands])) (hρ i (by simp[Op.operands]))).ran rfl
 case makeMap t r=>cases r with|some _=>cases h|none=>exact(ZAJ hτ h g hf).ran (by simp[execOp])
 case lookup t m k ok=>exact(ZAI hτ h hs g (hρ m (by simp[Op.operands])) (hρ k (by simp[Op.operands]))).ran rfl
 case mapUpdate t m k x=>obtain⟨⟨E',h1,h2,h3⟩,hv⟩:=ZAL hτ h hs g (hρ m (by simp[Op.operands])) (hρ k (by simp[Op.operands])) (hρ x (by simp[Op.operands]));exact⟨E',.skip,undef,by simp[execOp,h1],.inr ⟨rfl,rfl⟩,h2,h3,by rw[hv];exact .tup rfl λj hj=>by simp at hj⟩
 case extract x i=>
  have r:=hρ x (by simp[Op.operands]);split at h
  ·rename_i vs e;split at h;·rename_i v hv;cases h;rw[e]at r;cases hq:ρ x with
    |tuple us=>rw[hq]at r;cases r with|tup h1 h2=>
     have hi:i<vs.length:=(List.getElem?_eq_some_iff.1 hv).1;have :=h2 i hi;rw[ZGG,hv]at this;have hu:us[i]?=some (us.getD i undef):=by rw[ZGV,ZHF (by omega)];rfl
     exact(Bl.same g (s:=Instr.extract (ρ x) i) (v:=us.getD i undef) (by rw[hq];simp only[Instr.extract,hu];rfl) this).ran rfl
    |_=>rw[hq]at r;cases r
   ·cases h
  ·cases h
 case call c=>
  obtain⟨callee,args,argTypes⟩:=c;cases callee<;>simp only at h<;>try(cases h;done)
  rename_i b;have hargs:∀x∈args.toList,AC P E (Au tmps x) (ρ x):=λx hx=>hρ x (by simp[Op.operands,Call.operands,Array.mem_toList_iff.1 hx]);obtain⟨al⟩:=args;obtain⟨tl⟩:=argTypes;unfold Wq at h;cases b<;>simp only at h<;>try(cases h;done)
  case len=>
   split at h
   ·split at h;·rename_i t _ x e2;obtain⟨y,rfl,rfl⟩:=Ze e2;exact(ZAG (ty:=type) hτ h hs g (hargs y (by simp))).ran (by simp[execOp,resolve,invoke,builtin])
    ·cases h
   ·cases h
  case append=>
   split at h
   ·split at h;·rename_i t u _ x y e2;obtain⟨a,b,rfl,rfl,rfl⟩:=Ri e2;exact(zV (ty:=type) hτ h hs ho g hf (hargs a (by simp)) (hargs b (by simp))).ran (by simp[execOp,resolve,invoke,builtin])
    ·cases h
   ·cases h
  case copy=>
   split at h
   ·split at h;·rename_i t u _ x y e2;obtain⟨a,b,rfl,rfl,rfl⟩:=Ri e2;exact(ZAC (ty:=type) hτ h hs ho g (hargs a (by simp)) (hargs b (by simp))).ran (by simp[execOp,resolve,invoke,builtin])
    ·cases h
   ·cases h
  case min=>
   split at h;·rename_i x y e2;obtain⟨a,b,rfl,rfl,rfl⟩:=Ri e2;exact(hU (mx:=false) h g (hargs a (by simp)) (hargs b (by simp)) ⟨_⟩ type).ran (by simp[execOp,resolve,invoke,builtin];rfl)
   ·cases h
  case max=>
   split at h;·rename_i x y e2;obtain⟨a,b,rfl,rfl,rfl⟩:=Ri e2;exact(hU (mx:=true) h g (hargs a (by simp)) (hargs b (by simp)) ⟨_⟩ type).ran (by simp[execOp,resolve,invoke,builtin];rfl)
   ·cases h
  case clear=>
   split at h
   ·split at h;·rename_i t _ x e2;obtain⟨y,rfl,rfl⟩:=Ze e2;exact(ZAA (ty:=type) hτ h hs ho g (hargs y (by simp))).ran (by simp[execOp,resolve,invoke,builtin])
    ·cases h
   ·cases h
  case cap=>
   split at h
   ·split at h
    ·rename_i t _ e2;obtain⟨y,rfl,hy⟩:=Ze e2;split at h;·rename_i e _ _ _ _ BX;have ht:P.underlying t=some (.slice e):=(hτ t _ BX).kind;cases h;have r:=hargs y (by simp);rw[hy]at r;cases hq:ρ y with
      |slice a n c=>rw[hq]at r;cases r with|nils=>exact(Bl.same g (s:=Builtin.cap_ #[t] type #[.slice a 0 0]) (v:=.int .i64 0) (by simp[Builtin.cap_,ZGX ht,goInt]) (.mk_int _ _)).ran (by simp[execOp,resolve,invoke,builtin,hq])
      |_=>rw[hq]at r;cases r
     ·cases h
    ·cases h
   ·cases h
end
section
def fz(r:Option Nat):Fence:={Fence.wide with round:=r}
theorem Tc{P:Program}{r:Option Nat}{n:Nat}{f:FuncId}{args:Array Value}{w:World}{R:Ending→World→Prop}(h:Calls P f args w R):CallsIn (fz r) n P f args w R:=(callsIn_wide (n:=n)).2 h
inductive Df where|mark(l:Nat)|fn(g:FuncId)(cs:List V)
structure St where
 nt:Nat
 tmps:List (Nat×V)
 objs:AH
 nx:Nat
 df:List Df
 wr:List Nat
 di:List Nat
 mv:List Nat
structure Cx where
 E:AF
 imp:AH
def E5(P:Program)(E:AF):List Df→List Deferred→Prop|[],ds=>ds=[]|.mark l::r,ds=>∃L rest,ds=⟨.collected L,#[]⟩::rest∧(∃K,E.loc l=some K∧K.b=L)∧E5 P E r rest|.fn g cs::r,ds=>∃q rest,ds=⟨.fn (.func g) q,#[]⟩::rest∧AZ P E cs q.toList∧E5 P E r rest
structure BS(P:Program)(cx:Cx)(s:St)(a:Act)(E:AF):Prop where
 good:AE P E s.objs
 fresh:∀l,s.nx≤l→E.loc l=none
 step:BL cx.E cx.imp E s.objs s.mv
 drawn:cx.E.w.drawn≤E.w.drawn
 size:a.tmps.size=s.nt
 df:E5 P E s.df a.defers
 rep:∀t,AC P E (Ag t s.tmps) (a.tmps.getD t undef)
def BG(P:Program)(cx:Cx)(s:St)(a:Act)(w:World):Prop:=∃E,E.w=w∧BS P cx s a E
def Wk(P:Program)(cx:Cx)(s s':St):Prop:=∀a w,BG P cx s a w→BG P cx s' a w
theorem Wk.refl{P:Program}{cx:Cx}(s:St):Wk P cx s s:=λ_ _ h=>h
theorem Wk.trans{P:Program}{cx:Cx}{s s' s'':St}(h:Wk P cx s s')(k:Wk P cx s' s''):Wk P cx s s'':=λa w r=>k a w (h a w r)
abbrev Ee:=Exit→Act→World→Prop
section rules
variable {P : Program} {r : Option Nat} {cx : Cx} {R : Ee} {s : St} {a : Act} {w : World}
theorem xF{c:Code}(h:c.wpIn (fz r) 0 P (λe a w=>match e with|.goto _=>False|e=>R e a w) a w):(Code.scope c).wpIn (fz r) 0 P R a w:=by
 intro b k cs MT hb hr;obtain⟨e,a₁,w₁,hq,Hs⟩:=h b (.inScope c::k) cs MT hb hr;have s1:StepsIn (Machine.fenced P (fz r)) P (lone (b.atR a (.code (.scope c)::k)) cs w) (lone (b.atR a (.code c::.inScope c::k)) cs w):=.one (ZKU hb hr rfl) (step_lone_go (by simp[stepG,stepG.exec,Frame.atR]));have s2:∀a w,StepsIn (Machine.fenced P (fz r)) P (lone (b.atR a (.inScope c::k)) cs w) (lone (b.atR a k) cs w):=λa w=>.one (ZKU (fr:=b.atR a (.inScope c::k)) hb hr rfl) (step_lone_go (by simp[stepG,stepG.exec,Frame.atR]));have hx:∀id,exitTo id (.inScope c::k)=exitTo id k:=λid=>by simp[exitTo]
 cases e with|normal=>exact⟨.normal,a₁,w₁,hq,s1.trans (StepsIn.trans Hs (s2 _ _))⟩|exit id=>exact⟨.exit id,a₁,w₁,hq,λk' hk=>s1.trans (Hs.1 k' (by rw[hx];exact hk)),λh1 h2=>let⟨k₁,h3,h4⟩:=Hs.2 h1 (by rw[hx];exact h2);⟨k₁,h3,s1.trans h4⟩⟩|goto l=>exact hq.elim|ret=>exact⟨_,a₁,w₁,hq,.of_steps s1 Hs⟩|panic ch=>exact⟨_,a₁,w₁,hq,.of_steps s1 Hs⟩|outgrown=>exact⟨_,a₁,w₁,hq,.of_steps s1 Hs⟩
def KP(F:Fence)(P:Program)(c:Code)(R:Ee)(a:Act)(w:World):Prop:=∀(b:Frame)(k:List Item)(cs:List Frame),b.roundOf=F.round→F.fn b.fn→F.room (cs.length+1+0)→∃e a' w',R e a' w'∧ArrivesIn (Machine.fenced P F) P (lone (b.atR a (.code c::.inLoop c::k)) cs w) b k cs e a' w'
theorem KP.loop{F:Fence}{c:Code}(h:KP F P c R a w):(Code.loop c).wpIn F 0 P R a w:=by intro b k cs MT hb hr;obtain⟨e,a',w',hq,Hs⟩:=h b k cs MT hb hr;exact⟨e,a',w',hq,.of_steps (.one (ZKU hb hr rfl) stepR_loop) Hs⟩
theorem KP.round{F:Fence}{c:Code}(h:c.wpIn F 0 P (Exit.then (KP F P c R) R) a w):KP F P c R a w:=by intro b k cs MT hb hr;obtain⟨e,a₁,w₁,hq,Hs⟩:=h b (.inLoop c::k) cs MT hb hr;cases e with|normal=>obtain⟨e₂,a₂,w₂,hq₂,harr₂⟩:=hq b k cs MT hb hr;exact⟨e₂,a₂,w₂,hq₂,.of_steps (StepsIn.trans Hs (.one (ZKU hb hr rfl) stepR_inLoop)) harr₂⟩|exit id=>exact⟨_,a₁,w₁,hq,.pass (x:=.inLoop c) rfl (λ_ _=>.inl (by simp)) Hs⟩|goto l=>exact⟨_,a₁,w₁,hq,.pass (x:=.inLoop c) rfl (λ_ _=>.inl (by simp)) Hs⟩|ret=>exact⟨_,a₁,w₁,hq,.pass (x:=.inLoop c) rfl (λ_ _=>.inl (by simp)) Hs⟩|panic ch=>exact⟨_,a₁,w₁,hq,.pass (x:=.inLoop c) rfl (λ_ _=>.inl (by simp)) Hs⟩|outgrown=>exact⟨_,a₁,w₁,hq,.pass (x:=.inLoop c) rfl (λ_ _=>.inl (by simp)) Hs⟩
theorem LK{E:AF}{tmps:List (Nat×V)}(h:∀t,AC P E (Ag t tmps) (a.tmps.getD t undef))(x:Operand):AC P E (Au tmps x) (a.eval x):=by cases x with|tmp t=>exact h t|const v=>exact Vm v|global g=>exact .any _|func f=>exact .fn rfl rfl (λj hj=>by simp at hj) λj hj=>by simp at hj
end rules
mutual
def V.has(l:Nat):V→Bool|.fn _ a b=>Kb l a||Kb l b|.agg cs=>Kb l cs|.tup cs=>Kb l cs|.er cs=>Kb l cs|.when _ v=>V.has l v|.opt _ v=>V.has l v|.ref k _=>Nat.beq k l|.rref k _ _=>Nat.beq k l|.osl k=>Nat.beq k l|.osp k _ _=>Nat.beq k l|.map k=>Nat.beq k l|.yl k=>Nat.beq k l|.bsl k _=>Nat.beq k l|_=>false
def Kb(l:Nat):List V→Bool|[]=>false|v::r=>V.has l v||Kb l r
end
mutual
theorem SQ{l:Nat}{f:V→V}(hf:∀v,v.isRef=true→v.has l=false→f v=v):∀{v:V},v.has l=false→v.subst f=v|.fn g a b,h=>by simp only[V.has,ZH0]at h;simp only[V.subst,Lr hf h.1,Lr hf h.2]|.agg cs,h=>by simp only[V.has]at h;simp only[V.subst,Lr hf h]|.tup cs,h=>by simp only[V.has]at h;simp only[V.subst,Lr hf h]|.er cs,h=>by simp only[V.has]at h;simp only[V.subst,Lr hf h]|.when b v,h=>by simp only[V.has]at h;simp only[V.subst,SQ hf h]|.opt b v,h=>by simp only[V.has]at h;simp only[V.subst,SQ hf h]|.ref k o,h=>hf _ rfl h|.rref k i o,h=>hf _ rfl h|.osl k,h=>hf _ rfl h|.osp k lo n,h=>hf _ rfl h|.map k,h=>hf _ rfl h|.yl k,h=>hf _ rfl h|.bsl k n,h=>hf _ rfl h|.any,_=>rfl|.d _ _,_=>rfl|.nilp,_=>rfl|.nilf,_=>rfl|.nils,_=>rfl|.nilm,_=>rfl|.pf _ _ _ _,_=>rfl
theorem Lr{l:Nat}{f:V→V}(hf:∀v,v.isRef=true→v.has l=false→f v=v):∀{cs:List V},Kb l cs=false→DI f cs=cs|[],_=>rfl|v::r,h=>by simp only[Kb,ZH0]at h;simp only[DI,SQ hf h.1,Lr hf h.2]
end
theorem ZCE{l:Nat}(v:V)(hr:v.isRef=true)(h:v.has l=false):Di l v=v:=by cases v<;>simp only[V.isRef,ZGh]at hr<;>simp only[V.has]at h<;>simp only[Di,V.key,h]
def LS(l:Nat):List (Nat×V)→List Nat|[]=>[]|(t,v)::r=>match v.has l with|true=>t::LS l r|false=>LS l r
def Obj.hasR(l:Nat):Obj→Bool
 |.box cs|.vrow _ _ cs _=>Kb l cs|.lrec _ tmps _ _ _ _ _=>match LS l tmps with|[]=>false|_=>true
 |_=>false
def Qs(l:Nat):AH→List Nat|[]=>[]|(k,o)::r=>match o.hasR l with|true=>k::Qs l r|false=>Qs l r
def Df.subst(f:V→V):Df→Df|.mark l=>.mark l|.fn g cs=>.fn g (DI f cs)
def K4(f:V→V):List Df→List Df|[]=>[]|d::r=>d.subst f::K4 f r
def O6(l:Nat):List Df→Bool|[]=>false|.mark _::r=>O6 l r|.fn _ cs::r=>Kb l cs||O6 l r
def F5(f:V→V):List (Nat×V)→List (Nat×V)|[]=>[]|(t,v)::r=>(t,v.subst f)::F5 f r
theorem Mw(f:V→V):∀l,F5 f l=l.map λp=>(p.1,p.2.subst f)|[]=>rfl|(t,v)::r=>by simp only[F5,Mw f r,ZGi]
def St.subst(l:Nat)(f:V→V):St→St|⟨nt,tmps,objs,nx,df,wr,di,mv⟩=>⟨nt,F5 f tmps,substO f objs,nx,K4 f df,match O6 l df with|true=>nt::(LS l tmps++wr)|false=>LS l tmps++wr,Qs l objs++di,mv⟩
def KT(l nx:Nat):Nat:=match Nat.beq l nx with|true=>nx+1|false=>nx
def St.edit(s:St):Option (Nat×Obj×Bool)→St
 |none=>s|some (l,o,false)=>match s with|⟨nt,tmps,objs,nx,df,wr,di,mv⟩=>⟨nt,tmps,(l,o)::objs,KT l nx,df,wr,l::di,mv⟩
 |some (l,o,true)=>match s.subst l (Di l)with|⟨nt,tmps,objs,nx,df,wr,di,mv⟩=>⟨nt,tmps,(l,o)::objs,KT l nx,df,wr,l::di,l::mv⟩
def St.setT(s:St)(dst:Option Nat)(v:V):Option St:=match dst with|none=>some s|some d=>match Nat.blt d s.nt with
 |true=>match s with|⟨nt,tmps,objs,nx,df,wr,di,mv⟩=>some ⟨nt,(d,v)::tmps,objs,nx,df,d::wr,di,mv⟩
 |false=>none
structure Aa(s s':St):Prop where
 nt:s'.nt=s.nt
 nx:s.nx≤s'.nx
 wr:∀t∈s.wr,t∈s'.wr
 di:∀l∈s.di,l∈s'.di
 mv:∀l∈s.mv,l∈s'.mv
 tmp:∀t,t∉s'.wr→Ag t s'.tmps=Ag t s.tmps
 obj:∀l,l∉s'.di→AB l s'.objs=AB l s.objs
 df:s.nt∉s'.wr→s'.df=s.df
theorem Aa.refl(s:St):Aa s s:=⟨rfl,ZGR _,λ_ h=>h,λ_ h=>h,λ_ h=>h,λ_ _=>rfl,λ_ _=>rfl,λ_=>rfl⟩
theorem Aa.trans{s s' s'':St}(h:Aa s s')(k:Aa s' s''):Aa s s'':=⟨k.nt.trans h.nt,ZGd h.nx k.nx,λt ht=>k.wr t (h.wr t ht),λt ht=>k.di t (h.di t ht),λt ht=>k.mv t (h.mv t ht),λt ht=>(k.tmp t ht).trans (h.tmp t λhm=>ht (k.wr t hm)),λl hl=>(k.obj l hl).trans (h.obj l λhm=>hl (k.di l hm)),λhn=>(k.df (h.nt▸hn)).trans (h.df λhm=>hn (k.wr _ hm))⟩
theorem ZY{f:V→V}{l:Nat}(hf:∀v,v.isRef=true→v.has l=false→f v=v){t:Nat}:∀{tmps:List (Nat×V)},t∉LS l tmps→Ag t (F5 f tmps)=Ag t tmps|[],_=>rfl|(u,v)::r,h=>by simp only[LS]at h;rw[F5,DG,DG];cases hv:v.has l with|true=>rw[hv]at h;simp only[ZGe,ZGx]at h;rw[ZGA (ZG6 h.1),ZGA (ZG6 h.1)];exact ZY hf h.2|false=>
 rw[hv]at h;rw[SQ hf hv];split;·rfl
 ·exact ZY hf h
theorem tJ{f:V→V}{l:Nat}(hf:∀v,v.isRef=true→v.has l=false→f v=v):∀{tmps:List (Nat×V)},LS l tmps=[]→F5 f tmps=tmps|[],_=>rfl|(u,v)::r,h=>by simp only[LS]at h;cases hv:v.has l with|true=>rw[hv]at h;simp at h|false=>rw[hv]at h;simp only[F5,SQ hf hv,tJ hf h]
theorem ZCx{f:V→V}{l:Nat}(hf:∀v,v.isRef=true→v.has l=false→f v=v){o:Obj}(h:o.hasR l=false):o.subst f=o:=by cases o with
 |box cs=>simp only[Obj.hasR]at h;simp only[Obj.subst,Lr hf h]|vrow t xs cs m=>simp only[Obj.hasR]at h;simp only[Obj.subst,Lr hf h]|lrec nt tmps ps a b st j=>
  simp only[Obj.hasR]at h;split at h;·rename_i h1;simp only[Obj.subst];rw[←Mw,tJ hf h1]
  ·cases h|_=>rfl
theorem Xc{f:V→V}{l:Nat}(hf:∀v,v.isRef=true→v.has l=false→f v=v){k:Nat}:∀{objs:AH},k∉Qs l objs→AB k (substO f objs)=AB k objs|[],_=>rfl|(u,o)::r,h=>by simp only[Qs]at h;rw[substO,BA,BA];cases hv:o.hasR l with|true=>rw[hv]at h;simp only[ZGe,ZGx]at h;rw[ZGA (ZG6 h.1),ZGA (ZG6 h.1)];exact Xc hf h.2|false=>
 rw[hv]at h;rw[ZCx hf hv];split;·rfl
 ·exact Xc hf h
theorem bU{f:V→V}{l:Nat}(hf:∀v,v.isRef=true→v.has l=false→f v=v):∀{df:List Df},O6 l df=false→K4 f df=df|[],_=>rfl|.mark _::r,h=>by simp only[O6]at h;simp only[K4,Df.subst,bU hf h]|.fn g cs::r,h=>by simp only[O6,ZH0]at h;simp only[K4,Df.subst,Lr hf h.1,bU hf h.2]
theorem Aa.subst{s:St}{l:Nat}{f:V→V}(hf:∀v,v.isRef=true→v.has l=false→f v=v):Aa s (s.subst l f):=by
 obtain⟨nt,tmps,objs,nx,df,wr,di,mv⟩:=s;simp only[St.subst];refine⟨rfl,ZGR _,λt ht=>?_,λt ht=>ZHU _ ht,λ_ h=>h,λt ht=>ZY hf λhm=>ht ?_,λk hk=>Xc hf λhm=>hk (ZHY _ hm),λhn=>?_⟩
 ·dsimp only;split;·exact ZGK _ (ZHU _ ht)
  ·exact ZHU _ ht
 ·dsimp only;split;·exact ZGK _ (ZHY _ hm)
  ·exact ZHY _ hm
 ·dsimp only at hn⊢;split at hn;·simp at hn
  ·rename_i h;exact bU hf h
theorem oP(l nx:Nat):nx≤KT l nx:=by unfold KT;split<;>omega
theorem Aa.edit(s:St)(ed:Option (Nat×Obj×Bool)):Aa s (s.edit ed):=by match ed with|none=>exact .refl s|some (l,o,false)=>obtain⟨nt,tmps,objs,nx,df,wr,di,mv⟩:=s;exact⟨rfl,oP _ _,λ_ h=>h,λ_ h=>ZGK _ h,λ_ h=>h,λ_ _=>rfl,λk hk=>by simp only[St.edit,ZGe,ZGx]at hk;simp only[St.edit];rw[BA,ZGA (ZG6 hk.1)],λ_=>rfl⟩|some (l,o,true)=>have h:=Aa.subst (s:=s) (l:=l) (f:=Di l) ZCE;have e:s.edit (some (l,o,true))=match s.subst l (Di l)with|⟨nt,tmps,objs,nx,df,wr,di,mv⟩=>⟨nt,tmps,(l,o)::objs,KT l nx,df,wr,l::di,l::mv⟩:=rfl;rw[e];generalize s.subst l (Di l)=s1 at h;refine h.trans ?_;obtain⟨nt,tmps,objs,nx,df,wr,di,mv⟩:=s1;exact⟨rfl,oP _ _,λ_ h=>h,λ_ h=>ZGK _ h,λ_ h=>ZGK _ h,λ_ _=>rfl,λk hk=>by simp only[ZGe,ZGx]at hk;simp only;rw[BA,ZGA (ZG6 hk.1)],λ_=>rfl⟩
theorem Aa.setT{s s':St}{dst:Option Nat}{v:V}(h:s.setT dst v=some s'):Aa s s':=by
 unfold St.setT at h;split at h;·cases h;exact .refl s
 ·split at h;·rename_i d hd;obtain⟨nt,tmps,objs,nx,df,wr,di,mv⟩:=s;cases h;exact⟨rfl,ZGR _,λ_ h=>ZGK _ h,λ_ h=>h,λ_ h=>h,λt ht=>by simp only[ZGe,ZGx]at ht;simp only;rw[DG,ZGA (ZG6 ht.1)],λ_ _=>rfl,λ_=>rfl⟩
  ·cases h
end
section
variable {P : Program} {τ : Ap} {E : AF} {objs : AH}
def frz(l:Nat)(o:Obj)(v:V):V:=match v with
 |.osl k=>match Nat.beq k l with|false=>v|true=>match o with|.row T xs=>.d (.sl T) xs|_=>.any
 |.ref k off=>match Nat.beq k l with|false=>v|true=>match o with|.box cs=>.er (Jr off cs)|_=>.any
 |v=>Di l v
theorem ZAn{l:Nat}{o:Obj}(v:V)(hr:v.isRef=true)(h:v.has l=false):frz l o v=v:=by cases v<;>simp only[V.isRef,ZGh]at hr<;>simp only[V.has]at h<;>simp only[frz,Di,V.key,h]
theorem A8.cell{w:World}{S:Nat→Prop}{b:Nat}{cur:Array Value}{e:TypeId}(hb:w.heap[b]?=some (.cells cur e (0,0))){T:Ty}{xs:List T.den}(h:A8 w S T xs (cur.toList.take (xs.length*T.size)))(i:Nat)(x:T.den)(hx:xs[i]?=some x):∃c,BZ w S T x c∧∀j u,c[j]?=some u→w.cell? ⟨b,0+i*T.size+j,none⟩=some u:=by
 obtain⟨c,h1,h2⟩:=h.get i x hx;refine⟨c,h1,λj u hj=>?_⟩;have h3:=h2 j u hj;rw[KU hb,ZGu];rw[ZGg]at h3;split at h3;·simpa using h3
 ·cases h3
theorem Qb(g:AE P E objs){l:Nat}{o:Obj}(hl:AB l objs=some o){L:Ai}(hL:E.loc l=some L){E2:AF}(h2:E2=E.still L.b (o.has L)){v:V}{c:Value}(hr:v.isRef=true)(r:AC P E v c):AC P E2 (frz l o v) c:=by
 subst h2;have hx:CK E (E.still L.b (o.has L)) []:=⟨λb hs=>⟨.inl hs,rfl⟩,λj K _ hK=>hK⟩;have hat:Ay P E L o:=by obtain⟨K,hK,ha⟩:=g.at_ l o hl;rw[hL]at hK;cases hK;exact ha
 have hinv:∀v,AC P E v c→AC P (E.still L.b (o.has L)) (Di l v) c:=λv r=>by
  unfold Di;split
  ·split;·exact .any _
   ·exact r.mono hx
  ·exact r.mono hx
 cases v<;>simp only[V.isRef,ZGh]at hr<;>simp only[frz];case osl k=>
  split;·exact r.mono hx
  ·rename_i hk;have :=ZGJ hk;subst this;split
   ·rename_i T xs;obtain⟨K,hK,rfl⟩:=GQ r;rw[hL]at hK;cases hK;have Xt:=hat.keep hx λ_=>rfl;obtain⟨h1,h2,h3,e,cs,h4,h5|⟨cur,h5,h6,h7,h8,h9,Bx,FC⟩⟩:=Xt;·obtain⟨h5,rfl⟩:=h5;refine .d ⟨L.a,L.cap,by simp[Ai.v,h3],⟨by simp,by rw[h5];simp[maxLen]⟩,λh=>absurd rfl h⟩
    ·refine .d ⟨L.a,L.cap,by simp[Ai.v,h3],⟨h7,h9⟩,λ_=>⟨L.b,0,h5,.inr ⟨by simp only[Obj.has];omega,rfl⟩,λi x hx=>?_⟩⟩;subst FC;exact h4.cell h6 i x hx
   ·exact .any _
 case ref k off=>
  split;·exact r.mono hx
  ·rename_i hk;have :=ZGJ hk;subst this;split
   ·rename_i cs;obtain⟨K,hK,rfl⟩:=Po r;rw[hL]at hK;cases hK;obtain⟨vals,t,h1,h2,h3⟩:=hat;have hlen:(Jr off cs).length=cs.length-off:=by rw[NG];simp
    refine .er (λj=>vals.getD (off+j) undef) (.inr ⟨trivial,rfl⟩) (λj hj=>?_) λj hj=>?_;·rw[show(E.still L.b ((Obj.box cs).has L)).w=E.w from rfl,KU h1];rw[ZGV,ZHF (by omega)];rfl
    ·have :=(h3 (off+j) (by omega)).mono hx;rw[NG,ZGG,ZHy,←ZGG];exact this
   ·exact .any _
 all_goals exact hinv _ r
theorem AE.substO{f:V→V}(g:AE P E objs)(hf:∀v c,v.isRef=true→AC P E v c→AC P E (f v) c):AE P E (substO f objs):=by
 have BR:∀{l o},AB l (YtgpdnmfpgkkgcaaGreatDoor.substO f objs)=some o→∃q,AB l objs=some q∧o=q.subst f:=by intro l o h;rw[JN,ZGo]at h;obtain⟨q,hq,rfl⟩:=h;exact⟨q,hq,rfl⟩
 refine⟨λl o h=>?_,λb h=>g.ns b (qQ.1 h),g.sl,g.tab,λi j p q K K' h1 h2 h3 h4 h5 h6 h7=>?_⟩;·obtain⟨q,hq,rfl⟩:=BR h;obtain⟨L,hL,ha⟩:=g.at_ l q hq;exact⟨L,hL,ha.keepS (λv c r=>K6 (λb hb=>⟨hb,rfl⟩) hf r) (λb hb=>⟨hb,rfl⟩) λ_=>rfl⟩
 ·obtain⟨p',k1,rfl⟩:=BR h1;obtain⟨q',k2,rfl⟩:=BR h2;exact g.inj i j p' q' K K' k1 k2 h3 h4 (Obj.has_subst.1 h5) (Obj.has_subst.1 h6) h7
theorem BL.substO{E0 E:AF}{imp objs:AH}{M:List Nat}{f:V→V}(h:BL E0 imp E objs M):BL E0 imp E (substO f objs) M:=⟨h.ext,h.os,h.tape,h.output,h.size,h.frame,λb hb=>h.own b (qQ.1 hb),h.st,λl hl=>h.keys l (by rw[JN]at hl;simpa using hl),λl hl=>h.dom l (by rw[JN]at hl;simpa using hl)⟩
theorem E5.mono{E E':AF}{f:V→V}(hf:∀v c,AC P E v c→AC P E' (v.subst f) c)(hl:∀l L,E.loc l=some L→∃L',E'.loc l=some L'∧L'.b=L.b):∀{df:List Df}{ds:List Deferred},E5 P E df ds→E5 P E' (K4 f df) ds|[],_,h=>h|.mark l::r,_,⟨L,rest,h1,⟨K,hK,h2⟩,h3⟩=>by obtain⟨K',hK',e⟩:=hl l K hK;exact⟨L,rest,h1,⟨K',hK',e.trans h2⟩,h3.mono hf hl⟩|.fn g cs::r,_,⟨q,rest,h1,h2,h3⟩=>⟨q,rest,h1,⟨by rw[h2.1,Jf];simp,λj hj=>by rw[Jf,ZGM]at hj;have :=hf _ _ (h2.2 j hj);rw[K5 hj];exact this⟩,h3.mono hf hl⟩
theorem VW:∀{df:List Df},K4 (λv=>v) df=df|[]=>rfl|.mark _::r=>by simp only[K4,Df.subst,VW]|.fn g cs::r=>by have h:∀v:V,v.subst (λv=>v)=v:=λv=>subst_none v;simp only[K4,Df.subst,VW,Jf,ZHA λv _=>h v,List.map_id']where subst_none:∀v:V,v.subst (λv=>v)=v|.fn g a b=>by simp only[V.subst,list a,list b]|.agg cs=>by simp only[V.subst,list cs]|.tup cs=>by simp only[V.subst,list cs]|.er cs=>by simp only[V.subst,list cs]|.when b v=>by simp only[V.subst,subst_none v]|.opt b v=>by simp only[V.subst,subst_none v]|.ref ..|.rref ..|.osl _|.osp ..|.map _|.yl _|.bsl ..|.any|.d ..|.nilp|.nilf|.nils|.nilm|.pf ..=>rfl;list:∀l:List V,DI (λv=>v) l=l|[]=>rfl|v::l=>by simp only[DI,subst_none v,list l]
theorem E5.ext{E E':AF}(hx:CK E E' []){df:List Df}{ds:List Deferred}(h:E5 P E df ds):E5 P E' df ds:=by have :=h.mono (f:=λv=>v) (E':=E') (λv c r=>by rw[VW.subst_none];exact r.mono hx) λl L hl=>⟨L,hx.loc l L (by simp) hl,rfl⟩;rwa[VW]at this
theorem BS.subst{cx:Cx}{s:St}{a:Act}{E E':AF}{l:Nat}{f:V→V}(r:BS P cx s a E)(hf:∀v c,v.isRef=true→AC P E v c→AC P E' (f v) c)(hw:E'.w=E.w)(EK:E'.loc=E.loc)(hS:∀b,E.S b→E'.S b)(g:AE P E' (substO f s.objs))(st:BL cx.E cx.imp E' (substO f s.objs) s.mv):BS P cx (s.subst l f) a E':=by obtain⟨nt,tmps,objs,nx,df,wr,di,mv⟩:=s;have hr:∀v c,AC P E v c→AC P E' (v.subst f) c:=λv c h=>K6 (λb hb=>⟨hS b hb,by rw[hw]⟩) hf h;refine⟨g,λk hk=>by rw[EK];exact r.fresh k hk,st,by rw[hw];exact r.drawn,r.size,r.df.mono hr λk K hK=>⟨K,by rw[EK];exact hK,rfl⟩,λt=>?_⟩;show AC P E' (Ag t (F5 f tmps)) _;rw[Mw,N1];exact hr _ _ (r.rep t)
def St.freeze(l:Nat)(s:St):St:=match AB l s.objs with
 |some o=>match s.subst l (frz l o)with|⟨nt,tmps,objs,nx,df,wr,di,mv⟩=>⟨nt,tmps,(l,.dead)::objs,nx,df,wr,l::di,mv⟩
 |none=>s
theorem uP{cx:Cx}{s:St}{a:Act}{E:AF}{o:Obj}{L:Ai}(l:Nat)(ho:AB l s.objs=some o)(hL:E.loc l=some L)(r:BS P cx s a E):BS P cx (s.freeze l) a (E.still L.b (o.has L)):=by
 unfold St.freeze;split
 ·rename_i o' ho';rw[ho]at ho';cases ho';obtain⟨g1,s1⟩:=r.good.still ho hL;have hf:∀v c,v.isRef=true→AC P E v c→AC P (E.still L.b (o.has L)) (frz l o v) c:=λv c hr h=>Qb r.good ho hL rfl hr h;have hx:CK E (E.still L.b (o.has L)) []:=⟨λb hs=>⟨.inl hs,rfl⟩,λj K _ hK=>hK⟩;have LV:∀v c,v.isRef=true→AC P (E.still L.b (o.has L)) v c→AC P (E.still L.b (o.has L)) (frz l o v) c:=λv c hr h=>by
   refine hf v c hr ?_;cases h<;>simp only[V.isRef,ZGh]at hr;·rename_i h;exact .ref h
   ·rename_i h;exact .rref h
   ·rename_i h;exact .osl h
   ·rename_i h hp;exact .osp h hp
   ·rename_i h;exact .map h
   ·rename_i h;exact .yl h
   ·rename_i h;exact .bsl h
  have g2:=g1.substO LV;obtain⟨nt,tmps,objs,nx,df,wr,di,mv⟩:=s;have hr:∀v c,AC P E v c→AC P (E.still L.b (o.has L)) (v.subst (frz l o)) c:=λv c h=>K6 hx.S hf h;refine⟨g2,r.fresh,?_,r.drawn,r.size,r.df.mono hr λk K hK=>⟨K,hK,rfl⟩,λt=>?_⟩;·exact(r.step.trans s1).substO (f:=frz l o)
  ·show AC P _ (Ag t (F5 _ tmps)) _;rw[Mw,N1];exact hr _ _ (r.rep t)
 ·rename_i hn;rw[ho]at hn;cases hn
theorem Sa{cx:Cx}{s:St}(l:Nat):Wk P cx s (s.freeze l):=by rintro a w⟨E,rfl,r⟩;cases h:AB l s.objs with|none=>exact⟨E,rfl,by unfold St.freeze;rw[h];exact r⟩|some o=>obtain⟨L,hL,_⟩:=r.good.at_ l o h;exact⟨E.still L.b (o.has L),rfl,uP l h hL r⟩
theorem Aa.freeze(l:Nat)(s:St):Aa s (s.freeze l):=by
 unfold St.freeze;split;·rename_i o ho;have h:=Aa.subst (s:=s) (l:=l) (f:=frz l o) ZAn;generalize s.subst l (frz l o)=s1 at h;refine h.trans ?_;obtain⟨nt,tmps,objs,nx,df,wr,di,mv⟩:=s1;exact⟨rfl,ZGR _,λ_ h=>h,λ_ h=>ZGK _ h,λ_ h=>h,λ_ _=>rfl,λk hk=>by simp only[ZGe,ZGx]at hk;simp only;rw[BA,ZGA (ZG6 hk.1)],λ_=>rfl⟩
 ·exact .refl s
end
section
variable {P : Program} {τ : Ap} {E : AF} {objs : AH}
def Ij:(T:Ty)→T.den→V|.pair a b,x=>.agg (flat (.pair a b) x)|.int k,x=>.d (.int k) x|.bool,x=>.d .bool x|.str,x=>.d .str x|.sl t,x=>.d (.sl t) x|.unit,x=>.d .unit x
def OY:(ts:List Ty)→Bq ts→List V|[],_=>[]|[t],x=>[Ij t x]|t::u::l,x=>Ij t x.1::OY (u::l) x.2
def AO:(rs:List Ty)→Bq rs→V|[],_=>.tup []|[t],x=>Ij t x|t::u::l,x=>.tup (OY (t::u::l) x)
def getD:(T:Ty)→V→Option T.den
 |.pair a b,v=>match v with|.agg cs=>GU (.pair a b) cs|_=>none
 |.int k,v=>Pg k [v]|.bool,v=>Zv [v]|.str,v=>Zw [v]|.sl t,v=>QC t v|.unit,_=>none
def NO:(ts:List Ty)→List V→Option (Bq ts)
 |[],vs=>match vs with|[]=>some ()|_=>none
 |[t],vs=>match vs with|[v]=>getD t v|_=>none
 |t::u::l,vs=>match vs with
  |v::r=>match getD t v with
   |some x=>match NO (u::l) r with|some y=>some (x,y)|none=>none
   |none=>none
  |_=>none
def OO:(rs:List Ty)→V→Option (Bq rs)
 |[],v=>match v with|.tup []=>some ()|_=>none
 |[t],v=>getD t v|t::u::l,v=>match v with|.tup vs=>NO (t::u::l) vs|_=>none
def TJ:(rs:List Ty)→Bq rs|[]=>()|[t]=>t.dflt|t::u::l=>(t.dflt,TJ (u::l))
theorem QB{w:World}{S:Nat→Prop}{lo:Nat→Option Ai}:∀{T:Ty}{x:T.den}{c:Value},M2 w S T x c→AC P ⟨w,S,lo⟩ (Ij T x) c|.pair a b,x,c,⟨cs,h1,h2⟩=>by subst h1;have :=MC (P:=P) (E:=⟨w,S,lo⟩) h2;exact .agg (by simpa using this.1) λj hj=>by have :=this.2 j hj;simpa[ZGV,ZGG]using this|.int k,x,c,h=>.d h|.bool,x,c,h=>.d h|.str,x,c,h=>.d h|.sl t,x,c,h=>.d h|.unit,x,c,h=>.d h
theorem Su{w:World}{S:Nat→Prop}{lo:Nat→Option Ai}:∀{ts:List Ty}{x:Bq ts}{cs:List Value},OQ w S ts x cs→AZ P ⟨w,S,lo⟩ (OY ts x) cs|[],_,_,h=>by rw[show _=_ from h];exact .nil|[t],_,_,⟨v,h1,h2⟩=>by rw[h1];exact .cons (QB h2) .nil|t::u::l,_,_,⟨v,r,h1,h2,h3⟩=>by rw[h1];exact .cons (QB h2) (Su h3)
theorem V2{cs:List V}{c:Value}(r:AC P E (.agg cs) c):∃a:Array Value,c=.agg a∧AZ P E cs a.toList:=by cases r with|agg h1 h2=>rename_i a;exact⟨a,rfl,by simpa using h1,λj hj=>by simpa[ZGV,ZGG]using h2 j hj⟩
theorem uA{cs:List V}{c:Value}(r:AC P E (.tup cs) c):∃a:Array Value,c=.tuple a∧AZ P E cs a.toList:=by cases r with|tup h1 h2=>rename_i a;exact⟨a,rfl,by simpa using h1,λj hj=>by simpa[ZGV,ZGG]using h2 j hj⟩
theorem Ow{f:Fn}{fs cs:List V}{c:Value}(r:AC P E (.fn f fs cs) c):∃a b:Array Value,c=.func f a b∧AZ P E fs a.toList∧AZ P E cs b.toList:=by cases r with|fn h1 h2 h3 h4=>rename_i a b;exact⟨a,b,rfl,⟨by simpa using h1,λj hj=>by simpa[ZGV,ZGG]using h3 j hj⟩,⟨by simpa using h2,λj hj=>by simpa[ZGV,ZGG]using h4 j hj⟩⟩
theorem MD:∀{T:Ty}{v:V}{x:T.den}{c:Value},getD T v=some x→AC P E v c→M2 E.w E.S T x c
 |.pair a b,v,x,c,h,r=>by
  simp only[getD]at h;split at h;·obtain⟨ca,rfl,rs⟩:=V2 r;exact⟨ca,rfl,IW h rs⟩
  ·cases h|.int k,v,x,c,h,r=>IW (t:=.int k) (vs:=[v]) h (.cons r .nil)|.bool,v,x,c,h,r=>IW (t:=.bool) (vs:=[v]) h (.cons r .nil)|.str,v,x,c,h,r=>IW (t:=.str) (vs:=[v]) h (.cons r .nil)|.sl t,v,x,c,h,r=>IW (t:=.sl t) (vs:=[v]) h (.cons r .nil)|.unit,v,x,c,h,r=>by cases h
theorem XZ:∀{ts:List Ty}{vs:List V}{x:Bq ts}{cs:List Value},NO ts vs=some x→AZ P E vs cs→OQ E.w E.S ts x cs
 |[],vs,x,cs,h,r=>by
  simp only[NO]at h;split at h;·exact ZGY (by simpa using r.1)
  ·cases h|[t],vs,x,cs,h,r=>by
  simp only[NO]at h;split at h;·obtain⟨c,rfl,r1⟩:=r.single;exact⟨c,rfl,MD h r1⟩
  ·cases h|t::u::l,vs,x,cs,h,r=>by
  simp only[NO]at h;split at h
  ·rename_i v r';split at h
   ·rename_i x' hx;split at h;·rename_i y hy;cases h;match cs,r with|c::cs,r=>exact⟨c,cs,rfl,MD hx r.head,XZ hy r.tail⟩|[],r=>exact absurd r.1 (by simp)
    ·cases h
   ·cases h
  ·cases h
theorem aU{w:World}{S:Nat→Prop}{lo:Nat→Option Ai}:∀{rs:List Ty}{x:Bq rs}{c:Value},Vv w S rs x c→AC P ⟨w,S,lo⟩ (AO rs x) c|[],_,_,h=>by rw[show _=_ from h];exact .tup rfl λj hj=>by simp at hj|[t],_,_,h=>QB h|t::u::l,x,_,⟨vs,h1,h2⟩=>by have :=Su (P:=P) (lo:=lo) h2;rw[h1];exact .tup (by simpa using this.1) λj hj=>by have :=this.2 j hj;simpa[ZGV,ZGG]using this
theorem cF:∀{rs:List Ty}{v:V}{x:Bq rs}{c:Value},OO rs v=some x→AC P E v c→Vv E.w E.S rs x c
 |[],v,x,c,h,r=>by
  simp only[OO]at h;split at h
  ·obtain⟨a,rfl,hr⟩:=uA r;have :a=#[]:=by have :=hr.1;simpa using this
   subst this;rfl
  ·cases h|[t],v,x,c,h,r=>MD h r|t::u::l,v,x,c,h,r=>by
  simp only[OO]at h;split at h;·obtain⟨a,rfl,hr⟩:=uA r;exact⟨a,rfl,XZ h hr⟩
  ·cases h
mutual
def V.fk:V→Option Nat
 |.fn _ a b=>match Dh a with|some l=>some l|none=>Dh b
 |.agg cs=>Dh cs|.tup cs=>Dh cs|.er cs=>Dh cs|.when _ v=>V.fk v|.opt _ v=>V.fk v|.ref k _=>some k|.rref k _ _=>some k|.osl k=>some k|.osp k _ _=>some k|.map k=>some k|.yl k=>some k|.bsl k _=>some k|_=>none
def Dh:List V→Option Nat|[]=>none|v::r=>match V.fk v with|some l=>some l|none=>Dh r
end
theorem NL:∀{l:List V},Dh l=none→∀j,(l.getD j .any).fk=none
 |[],_,j=>by simp[V.fk]|v::r,h,j=>by
  simp only[Dh]at h;split at h;·cases h
  ·rename_i h1;cases j with|zero=>simpa using h1|succ j=>simpa using NL h j
theorem eU{E E':AF}(hS:∀b,E.S b→E'.S b∧E'.w.heap[b]?=E.w.heap[b]?){v:V}{c:Value}(r:AC P E v c):v.fk=none→AC P E' v c:=by induction r with
 |any v=>exact λ_=>.any v|d hc=>exact λ_=>.d (hc.mono hS)|nilp=>exact λ_=>.nilp|nilf=>exact λ_=>.nilf|nils a=>exact λ_=>.nils a|nilm=>exact λ_=>.nilm|fn h1 h2 _ _ i1 i2=>
  intro h;simp only[V.fk]at h;split at h;·cases h
  ·rename_i h0;exact .fn h1 h2 (λj hj=>i1 j hj (NL h0 j)) λj hj=>i2 j hj (NL h j)|agg h1 _ i1=>exact λh=>.agg h1 λj hj=>i1 j hj (NL h j)|tup h1 _ i1=>exact λh=>.tup h1 λj hj=>i1 j hj (NL h j)|er c hb hc _ i=>exact λh=>.er c (hS _ hb).1 (λj hj=>(S7 (hS _ hb).2 _).trans (hc j hj)) λj hj=>i j hj (NL h j)|ref k=>intro h;cases h|rref k=>intro h;cases h|osl k=>intro h;cases h|osp k kp=>intro h;cases h|map k=>intro h;cases h|when _ h2 i1=>exact λh=>.when (λe=>i1 e h) h2|opt _ h2 i1=>exact λh=>.opt (λe=>i1 e h) h2|pf k=>exact λ_=>.pf (k.mono hS)|yl k=>intro h;cases h|bsl k=>intro h;cases h
theorem QJ{E E':AF}(hS:∀b,E.S b→E'.S b∧E'.w.heap[b]?=E.w.heap[b]?){vs:List V}{cs:List Value}(r:AZ P E vs cs)(h:Dh vs=none):AZ P E' vs cs:=⟨r.1,λj hj=>eU hS (r.2 j hj) (NL h j)⟩
def Ty.plain:Ty→Bool
 |.sl _=>false|.pair a b=>match a.plain with|true=>b.plain|false=>false
 |_=>true
mutual
def V.plain:V→Bool|.d t _=>t.plain|.agg cs=>Rt cs|.tup cs=>Rt cs|_=>false
def Rt:List V→Bool|[]=>true|v::r=>match V.plain v with|true=>Rt r|false=>false
end
theorem Z7:∀{l:List V},Rt l=true→∀j,j<l.length→(l.getD j .any).plain=true
 |[],_,j,hj=>by simp at hj|v::r,h,j,hj=>by
  simp only[Rt]at h;split at h;·rename_i h1;cases j with|zero=>simpa using h1|succ j=>simpa using Z7 h j (by simpa using hj)
  ·cases h
theorem Z8{w w':World}{S S':Nat→Prop}:∀{t:Ty}{x:t.den}{cs:List Value},t.plain=true→BZ w S t x cs→BZ w' S' t x cs
 |.int _,_,_,_,h=>h|.bool,_,_,_,h=>h|.str,_,_,_,h=>h|.sl _,_,_,h,_=>by cases h|.pair a b,_,_,h,⟨c1,c2,e,h1,h2⟩=>by
  simp only[Ty.plain]at h;split at h;·rename_i ha;exact⟨c1,c2,e,Z8 ha h1,Z8 h h2⟩
  ·cases h|.unit,_,_,_,h=>h
theorem ZDI{E E':AF}{v:V}{c:Value}(r:AC P E v c):v.plain=true→AC P E' v c:=by induction r with|d hc=>exact λh=>.d (Z8 h hc)|agg h1 _ i1=>exact λh=>.agg h1 λj hj=>i1 j hj (Z7 h j hj)|tup h1 _ i1=>exact λh=>.tup h1 λj hj=>i1 j hj (Z7 h j hj)|_=>intro h;cases h
inductive PS where|d(T:Ty)|e(T:Ty)|f(ts rs:List Ty)
@[reducible]def PS.den:PS→Type|.d T=>T.den|.e T=>T.den|.f ts rs=>(Bq ts→Prop)×(Bq ts→Bq rs)
@[reducible]def Cz:List PS→Type|[]=>Unit|p::l=>p.den×Cz l
def PS.toV:(p:PS)→p.den→V|.d T,x=>Ij T x|.e T,x=>.er (flat T x)|.f ts rs,x=>.pf ts rs x.1 x.2
def DR:(ps:List PS)→Cz ps→List V|[],_=>[]|p::l,x=>p.toV x.1::DR l x.2
structure AP where
 ps:List PS
 pre:Option (Cz ps→Prop)
 res:Cz ps→V
def AP.ob(c:AP)(xs:Cz c.ps):Option Prop:=match c.pre with|none=>none|some p=>some (p xs)
def AQ(P:Program)(f:FuncId)(c:AP):Prop:=DK P f∧∀(w:World)(S:Nat→Prop)(xs:Cz c.ps),FN P w S→BM (c.ob xs)→∀args:Array Value,AZ P ⟨w,S,λ_=>none⟩ (DR c.ps xs) args.toList→Calls P f args w λe w2=>∃v S2,e=.returned v∧JE w S w2 S2∧AC P ⟨w2,S2,λ_=>none⟩ (c.res xs) v
def CE(P:Program)(E:AF)(L:Ai)(T:Ty)(xs:List T.den)(w:World)(K:Ai)(zs:List T.den):Prop:=∃row:Option Nat,E.w.grownBy w row∧(∀b,row=some b→(Obj.row T xs).has L∧b=L.b)∧(∀lo,Ay P ⟨w,E.S,lo⟩ K (.row T zs))∧((Obj.row T zs).has K→(Obj.row T xs).has L∧K.b=L.b∨E.w.heap.size≤K.b)∧E.w.drawn≤w.drawn
structure JF where
 T:Ty
 own:Bool
 ps:List PS
 pre:List T.den→Cz ps→Prop
 fn:List T.den→Cz ps→List T.den
def LC(P:Program)(f:FuncId)(r:JF):Prop:=DK P f∧match r.own with|false=>∀(w:World)(S:Nat→Prop)(ys:Cz r.ps),FN P w S→r.pre [] ys→∀args:Array Value,AZ P ⟨w,S,λ_=>none⟩ (DR r.ps ys) args.toList→Calls P f args w λe w2=>∃K,e=.returned K.v∧w.grownBy w2 none∧w.drawn≤w2.drawn∧(∀lo,Ay P ⟨w2,S,lo⟩ K (.row r.T (r.fn [] ys)))∧((Obj.row r.T (r.fn [] ys)).has K→w.heap.size≤K.b)|true=>∀(E:AF)(objs:AH)(l:Nat)(L:Ai)(xs:List r.T.den)(ys:Cz r.ps),AE P E objs→AB l objs=some (.row r.T xs)→E.loc l=some L→r.pre xs ys→∀args:List Value,AZ P ⟨E.w,E.S,λ_=>none⟩ (DR r.ps ys) args→Calls P f (L.v::args).toArray E.w λe w2=>∃K,e=.returned K.v∧CE P E L r.T xs w2 K (r.fn xs ys)
def dB(P:Program)(f:FuncId):Prop:=DK P f∧∀(E:AF)(objs:AH)(l k:Nat)(L K:Ai)(xs zs:List Int)(i:Int),AE P E objs→AB l objs=some (.row (.int .i64) xs)→AB k objs=some (.row (.int .i64) zs)→l≠k→E.loc l=some L→E.loc k=some K→0≤i→i≤(xs.length:Int)→(xs.length+zs.length)*8≤140737488355328→Calls P f #[L.v,.int .i64 i,K.v] E.w λe w2=>∃M,e=.returned M.v∧CE P E L (.int .i64) xs w2 M (xs.take i.toNat++zs++xs.drop i.toNat)
def Sh(P:Program)(f h:FuncId):Prop:=DK P f∧∀(E:AF)(objs:AH)(v:V)(c:Value),AE P E objs→v.solid=true→AC P E v c→Calls P f #[c] E.w λe w2=>∃u E',e=.returned u∧E'.w=w2∧AE P E' objs∧BL E objs E' objs []∧E.w.drawn≤w2.drawn∧AC P E' (.fn (.func h) [] [.er [v]]) u
structure Sj where
 ps:List PS
 pre:Cz ps→Prop
 fn:Cz ps→List Int×Int
def P7(P:Program)(f:FuncId)(c:Sj):Prop:=DK P f∧∀(E:AF)(objs:AH)(n:Nat)(ys:Cz c.ps),AE P E objs→E.loc n=none→c.pre ys→∀args:Array Value,AZ P ⟨E.w,E.S,λ_=>none⟩ (DR c.ps ys) args.toList→Calls P f args E.w λe w2=>∃u E',e=.returned u∧E'.w=w2∧AE P E' ((n,.row (.int .i64) (c.fn ys).1)::objs)∧BL E objs E' ((n,.row (.int .i64) (c.fn ys).1)::objs) []∧E.w.drawn≤w2.drawn∧AC P E' (.agg [.osl n,.d (.int .i64) (c.fn ys).2]) u
inductive CX where|con(c:AP)|row(r:JF)|ins|clo(h:Nat)|lin(c:Sj)
def CX.Ok(P:Program)(f:FuncId):CX→Prop|.con c=>AQ P f c|.row r=>LC P f r|.ins=>dB P f|.clo h=>Sh P f h|.lin c=>P7 P f c
abbrev A2:=Nat→Option CX
def BK(P:Program)(κ:A2):Prop:=∀f c,κ f=some c→c.Ok P f
def Z5(κ:A2)(ts rs:List Ty)(get:(ps:List PS)→List V→Option (Cz ps))(g:FuncId)(fst caps:List V)(xs:Bq ts):Prop:=match κ g with
 |some (.con c)=>match get c.ps (fst++(OY ts xs++caps))with|none=>False|some ys=>match OO rs (c.res ys)with|none=>False|some _=>BM (c.ob ys)
 |_=>False
def Z4(κ:A2)(ts rs:List Ty)(get:(ps:List PS)→List V→Option (Cz ps))(g:FuncId)(fst caps:List V)(xs:Bq ts):Bq rs:=match κ g with
 |some (.con c)=>match get c.ps (fst++(OY ts xs++caps))with|none=>TJ rs|some ys=>match OO rs (c.res ys)with|none=>TJ rs|some r=>r
 |_=>TJ rs
abbrev OS:=(ps:List PS)→List V→Option (Cz ps)
def Ju(κ:A2)(rec:OS):OS
 |[],vs=>match vs with|[]=>some ()|_=>none
 |.d T::l,vs=>match vs with
  |v::r=>match getD T v with
   |some x=>match Ju κ rec l r with|some y=>some (x,y)|none=>none
   |none=>none
  |[]=>none
 |.e T::l,vs=>match vs with
  |v::r=>match v with
   |.er cs=>match GU T cs with
    |some x=>match Ju κ rec l r with|some y=>some (x,y)|none=>none
    |none=>none
   |_=>none
  |[]=>none
 |.f ts rs::l,vs=>match vs with
  |v::r=>match v with
   |.pf ts' rs' pre f=>if h:ts'=ts∧rs'=rs then match Ju κ rec l r with|some y=>some ((λx=>pre (h.1.symm▸x),λx=>h.2▸f (h.1.symm▸x)),y)|none=>none else none|.fn (.func g) fst caps=>match κ g with
    |some (.con _)=>match Dh fst with
     |none=>match Dh caps with
      |none=>match Ju κ rec l r with|some y=>some ((Z5 κ ts rs rec g fst caps,Z4 κ ts rs rec g fst caps),y)|none=>none
      |some _=>none
     |some _=>none
    |_=>none
   |_=>none
  |[]=>none
def O0(κ:A2):Nat→OS|0=>Ju κ λ_ _=>none|n+1=>Ju κ (O0 κ n)
def Si(P:Program)(get:OS):Prop:=∀(E:AF)ps vs xs cs,get ps vs=some xs→AZ P E vs cs→AZ P E (DR ps xs) cs
theorem ZDG{κ:A2}(hκ:BK P κ){get:OS}(hg:Si P get){ts rs:List Ty}{g:FuncId}{fst caps:List V}{c:Value}(r:AC P E (.fn (.func g) fst caps) c)(h1:Dh fst=none)(h2:Dh caps=none)(hc:∃k,κ g=some (.con k)):AC P E (.pf ts rs (Z5 κ ts rs get g fst caps) (Z4 κ ts rs get g fst caps)) c:=by
 obtain⟨a,b,rfl,ra,rb⟩:=Ow r;obtain⟨k,hk⟩:=hc;have hok:AQ P g k:=hκ g _ hk;refine .pf ⟨g,a,b,rfl,hok.1,λw1 S1 hS Ab xs hpre cargs hargs=>?_⟩;simp only[Z5,hk]at hpre;simp only[Z4,hk];split at hpre;·exact hpre.elim
 ·rename_i ys FY;split at hpre;·exact hpre.elim
  ·rename_i r' hr';have rs0:AZ P ⟨w1,S1,λ_=>none⟩ (fst++(OY ts xs++caps)) (a++cargs++b).toList:=by have :=(QJ (E':=⟨w1,S1,λ_=>none⟩) hS ra h1).append ((Su (P:=P) (lo:=λ_=>none) hargs).append (QJ (E':=⟨w1,S1,λ_=>none⟩) hS rb h2));simpa using this
   have rs1:=hg _ _ _ _ _ FY rs0;refine ZH1 (hok.2 w1 S1 ys Ab hpre _ rs1) ?_;rintro e w2⟨v,S2,rfl,hgr,hv⟩;exact⟨v,S2,rfl,hgr,cF hr' hv⟩
theorem jS{κ:A2}(hκ:BK P κ){rec:OS}(hr:Si P rec):Si P (Ju κ rec):=by intro E ps;induction ps with
 |nil=>
  intro vs xs cs h r;simp only[Ju]at h;split at h;·cases h;exact r
  ·cases h|cons p l ih=>intro vs xs cs h r;cases p with
  |d T=>
   simp only[Ju]at h;split at h
   ·rename_i v r';split at h
    ·rename_i x hx;split at h;·rename_i y hy;cases h;match cs,r with|c::cs,r=>exact .cons (QB (MD hx r.head)) (ih _ _ _ hy r.tail)|[],r=>exact absurd r.1 (by simp)
     ·cases h
    ·cases h
   ·cases h|e T=>
   simp only[Ju]at h;split at h;·rename_i v r';match cs,r with
    |[],r=>exact absurd r.1 (by simp)|c::cs,r=>
     split at h
     ·rename_i es _;split at h
      ·rename_i x hx;split at h;·rename_i y hy;cases h;refine .cons ?_ (ih _ _ _ hy r.tail);have rh:=r.head;cases rh with|er f hb hc hr=>
        rename_i b off;have rs:AZ P E es ((List.range es.length).map f):=⟨by simp,λj hj=>by have :=hr j hj;simpa[ZGG,hj]using this⟩;have hcells:=IW hx rs;have hlen:=hcells.length;simp only[ZGM,ZG4]at hlen;have rf:=MC (P:=P) (E:=E) hcells;refine .er f hb (λj hj=>hc j ?_) λj hj=>?_;·rw[TX]at hj;omega
        ·have :=rf.2 j hj;rw[TX,←hlen]at hj;simpa[ZGG,hj]using this
       ·cases h
      ·cases h
     ·cases h
   ·cases h|f ts rs=>
   simp only[Ju]at h;split at h;·rename_i v r';match cs,r with
    |[],r=>exact absurd r.1 (by simp)|c::cs,r=>
     split at h
     ·rename_i ts' rs' pre f;split at h
      ·rename_i hh;obtain⟨rfl,rfl⟩:=hh;split at h;·rename_i y hy;cases h;exact .cons r.head (ih _ _ _ hy r.tail)
       ·cases h
      ·cases h
     ·split at h
      ·rename_i k hk;split at h
       ·rename_i h1;split at h
        ·rename_i h2;split at h;·rename_i y hy;cases h;exact .cons (ZDG hκ hr r.head h1 h2 ⟨k,hk⟩) (ih _ _ _ hy r.tail)
         ·cases h
        ·cases h
       ·cases h
      ·cases h
     ·cases h
   ·cases h
theorem Qf{κ:A2}(hκ:BK P κ):∀n,Si P (O0 κ n)|0=>jS hκ λ_ _ _ _ _ h=>by cases h|n+1=>jS hκ (Qf hκ n)
end
section
variable {P : Program} {τ : Ap} {κ : A2} {E : AF} {objs : AH}
def Me:Nat→AH→List V→Option (List V×List Nat)|0,_,_=>none|n+1,os,vs=>match Dh vs with|none=>some (vs,[])|some l=>match AB l os with
 |some o=>match Me n ((l,.dead)::os) (DI (frz l o) vs)with|some (r,ks)=>some (r,l::ks)|none=>none
 |none=>none
theorem rU{E E':AF}{f:V→V}(h:∀v c,AC P E v c→AC P E' (v.subst f) c){vs:List V}{cs:List Value}(r:AZ P E vs cs):AZ P E' (DI f vs) cs:=⟨by rw[Jf,ZGM];exact r.1,λj hj=>by rw[Jf,ZGM]at hj;rw[K5 hj];exact h _ _ (r.2 j hj)⟩
theorem Ul:∀{n:Nat}{os:AH}{vs vs':List V}{ks:List Nat}{E:AF}{cs:List Value},Me n os vs=some (vs',ks)→AE P E os→AZ P E vs cs→∃S',(∀b,E.S b→S' b)∧(∀b,S' b→b<E.w.heap.size)∧(ks=[]→S'=E.S)∧Dh vs'=none∧AZ P ⟨E.w,S',E.loc⟩ vs' cs∧∀b,S' b→E.S b∨Bp E os b
 |0,_,_,_,_,_,_,h,_,_=>by cases h|n+1,os,vs,vs',ks,E,cs,h,g,r=>by
  simp only[Me]at h;split at h;·rename_i hk;cases h;exact⟨E.S,λ_ h=>h,g.sl,λ_=>rfl,hk,r,λ_ h=>.inl h⟩
  ·rename_i l hl;split at h
   ·rename_i o ho;split at h
    ·rename_i r' ks' h';cases h;obtain⟨L,hL,_⟩:=g.at_ l o ho;obtain⟨g1,s1⟩:=g.still ho hL;have hx:CK E (E.still L.b (o.has L)) []:=⟨λb hs=>⟨.inl hs,rfl⟩,λj K _ hK=>hK⟩;have r1:AZ P (E.still L.b (o.has L)) (DI (frz l o) vs) cs:=rU (λv c h=>K6 hx.S (λv c hr h=>Qb g ho hL rfl hr h) h) r;obtain⟨S',k1,k2,_,k3,k4,k5⟩:=Ul h' g1 r1;refine⟨S',λb hb=>k1 b (.inl hb),k2,λh=>by simp at h,k3,k4,λb hb=>?_⟩;rcases k5 b hb with(h|⟨h1,h2⟩)|h;·exact .inl h
     ·exact .inr ⟨l,o,L,ho,hL,h1,h2.symm⟩
     ·rcases s1.own b h with h3|h3;·have :=g1.own_lt h;have h3:E.w.heap.size≤b:=h3;have this:b<E.w.heap.size:=this;omega
      ·exact .inr h3
    ·cases h
   ·cases h
def S4(κ:A2)(f:V)(args:List V):Option (Option Prop×V):=match f with
 |.fn (.func g) fst caps=>match κ g with
  |some (.con c)=>match O0 κ 3 c.ps (fst++(args++caps))with|none=>none|some xs=>some (c.ob xs,c.res xs)
  |_=>none
 |.pf ts rs pre f=>match NO ts args with|none=>none|some xs=>some (some (pre xs),AO rs (f xs))
 |_=>none
inductive CR where|ok(ob:Option Prop)(v:V)|frz(ks:List Nat)|no
def QF(κ:A2)(os:AH)(f:V)(args:List V):CR:=match Me 9 os (f::args)with
 |some (f'::args',ks)=>match S4 κ f' args' with
  |some (ob,v)=>match ks with|[]=>.ok ob v|_=>match v.plain with|true=>.ok ob v|false=>.frz ks
  |none=>.no
 |_=>.no
def K9(P:Program)(r:Option Nat)(o:Oper)(a:Act)(E:AF)(objs:AH)(out:Av):Prop:=∀(next:Act→World→Prop)(Q:Ee),(∀E' v,AE P E' (edit objs out.ed)→BL E objs E' (edit objs out.ed) (moved out.ed)→E.w.drawn≤E'.w.drawn→AC P E' out.v v→next (a.put o.dst v) E'.w)→o.wpIn (fz r) 0 P a E.w next Q
theorem M4.did{r:Option Nat}{o:Oper}{a:Act}{out:Av}(h:M4 P o a.eval E objs out)(hd:∀c,o.op≠.defer c):K9 P r o a E objs out:=by
 intro next Q hn;obtain⟨E',n,v,h1,h2,h3,h4,h5⟩:=h;refine⟨λ_ _=>trivial,?_⟩;rw[ZIx _ _ _ hd,h1];rcases h2 with rfl|⟨rfl,rfl⟩;·exact hn E' v h3 h4 (VJ _ _ _ _ h1) h5
 ·exact hn E' _ h3 h4 (VJ _ _ _ _ h1) h5
theorem WP{f:FuncId}(h:DK P f)(args:Array Value)(w:World):(callFunc f args).run P w=.ok (.enter f args) w:=by
 obtain⟨fn,h1,h2,h3⟩:=h;have h4:fn.body.isNone=false:=by cases hb:fn.body<;>simp_all
 simp only[callFunc,ZG7,run_program,ZGm,h1,h3,h4,ZGh,ZHM,ZHe]
theorem WQ{o:Oper}{x:Operand}{args:Array Operand}{tys:Array TypeId}(Cp:o.op=.call {callee:=.value x,args,argTypes:=tys}){f:FuncId}(hc:DK P f){ρ:Operand→Value}{a b:Array Value}(hx:ρ x=.func (.func f) a b)(w:World):(execOp ρ o).run P w=.ok (.enter f (a++args.map ρ++b)) w:=by simp[execOp,Cp,resolve,hx,Deferred.ofValue,invoke,WP hc]
theorem xQ(hκ:BK P κ){f:V}{args:List V}{ob:Option Prop}{v:V}(h:S4 κ f args=some (ob,v))(ho:BM ob){S':Nat→Prop}(hS:FN P E.w S'){c:Value}{cs:List Value}(hk:Dh (f::args)=none)(r:AZ P ⟨E.w,S',E.loc⟩ (f::args) (c::cs)):∃g a b,c=.func (.func g) a b∧DK P g∧Calls P g (a++cs.toArray++b) E.w λe w2=>∃u S2,e=.returned u∧JE E.w S' w2 S2∧AC P ⟨w2,S2,E.loc⟩ v u:=by
 simp only[S4]at h;split at h
 ·rename_i g fst caps;split at h;case h_2=>cases h
  ·rename_i k hk';split at h;·cases h
   ·rename_i xs Lh;cases h;obtain⟨a,b,rfl,ra,rb⟩:=Ow r.head;have hok:AQ P g k:=hκ g _ hk';refine⟨g,a,b,rfl,hok.1,?_⟩;have hcl:∀vs ds,Dh vs=none→AZ P ⟨E.w,S',E.loc⟩ vs ds→AZ P ⟨E.w,S',λ_=>none⟩ vs ds:=λvs ds hf h=>QJ (E:=⟨E.w,S',E.loc⟩) (E':=⟨E.w,S',λ_=>none⟩) (λb hb=>⟨hb,rfl⟩) h hf;have hf:(V.fn (.func g) fst caps).fk=none:=by
     simp only[Dh]at hk;split at hk;·cases hk
     ·rename_i h;exact h
    have hargs:Dh args=none:=by simp only[Dh,hf]at hk;exact hk
    have lJ:Dh fst=none:=by
     simp only[V.fk]at hf;split at hf;·cases hf
     ·rename_i h;exact h
    have ZA5:Dh caps=none:=by simp only[V.fk,lJ]at hf;exact hf
    have rs:AZ P ⟨E.w,S',λ_=>none⟩ (fst++(args++caps)) (a++cs.toArray++b).toList:=by have :=(hcl _ _ lJ ra).append ((hcl _ _ hargs r.tail).append (hcl _ _ ZA5 rb));simpa using this
    refine ZH1 (hok.2 E.w S' xs hS ho _ (Qf hκ 3 _ _ _ _ _ Lh rs)) ?_;rintro e w2⟨u,S2,rfl,hg,hu⟩;refine⟨u,S2,rfl,hg,?_⟩;exact AC.mono (E:=⟨w2,S2,λ_=>none⟩) (E':=⟨w2,S2,E.loc⟩) ⟨λb hb=>⟨hb,rfl⟩,λl L _ h=>by cases h⟩ hu
 ·rename_i ts rs pre fn;split at h;·cases h
  ·rename_i xs Lh;cases h;have r0:=r.head;cases r0 with|pf hp=>obtain⟨g,a,b,rfl,hc,O9⟩:=hp;refine⟨g,a,b,rfl,hc,ZH1 (O9 E.w S' (λk hk=>⟨hk,rfl⟩) hS xs ho cs.toArray (by simpa using XZ Lh r.tail)) ?_⟩;rintro e w2⟨u,S2,rfl,hg,hu⟩;exact⟨u,S2,rfl,hg,aU hu⟩
 ·cases h
theorem AE.os{E:AF}{os objs:AH}(g:AE P E objs)(hs:DL os objs):AE P E os:=⟨λl o h=>g.at_ l o (hs l o h),λb h=>by obtain⟨l,o,L,h1,h2,h3,h4⟩:=h;exact g.ns b ⟨l,o,L,hs l o h1,h2,h3,h4⟩,g.sl,g.tab,λi j o o' L L' h1 h2 h3 h4 h5 h6 h7=>g.inj i j o o' L L' (hs i o h1) (hs j o' h2) h3 h4 h5 h6 h7⟩
theorem xS(hκ:BK P κ){r:Option Nat}{o:Oper}{a:Act}{x:Operand}{args:Array Operand}{tys:Array TypeId}(Cp:o.op=.call {callee:=.value x,args,argTypes:=tys}){tmps:List (Nat×V)}{ob:Option Prop}{v:V}{os:AH}(h:QF κ os (Au tmps x) (B3 tmps args.toList)=.ok ob v)(ho:BM ob)(hs:DL os objs)(g:AE P E objs)(hx:AC P E (Au tmps x) (a.eval x))(hr:∀y∈args.toList,AC P E (Au tmps y) (a.eval y)):K9 P r o a E objs ⟨ob,v,none⟩:=by
 intro next Q hn;have hargs:AZ P E (Au tmps x::B3 tmps args.toList) (a.eval x::args.toList.map a.eval):=.cons hx (Mg hr);have key:∀f' args' ks,Me 9 os (Au tmps x::B3 tmps args.toList)=some (f'::args',ks)→S4 κ f' args'=some (ob,v)→ks=[]∨v.plain=true→o.wpIn (fz r) 0 P a E.w next Q:=by
  intro f' args' ks h1 h2 h3;obtain⟨S',k1,k2,k3,k4,k5,_⟩:=Ul h1 (g.os hs) hargs;obtain⟨gf,p,q,e1,e2,e3⟩:=xQ (E:=E) hκ h2 ho ⟨k2,g.tab.mono λb hb=>⟨k1 b hb,rfl⟩⟩ k4 k5;refine⟨λ_ _=>trivial,?_⟩;rw[ZIx _ _ _ λc=>by rw[Cp];simp,WQ Cp e2 e1,ZJ8];refine⟨λh=>by simp[fz,Fence.wide]at h,Tc ?_⟩;have e3':Calls P gf (p++args.map a.eval++q) E.w λe w2=>∃u S2,e=.returned u∧JE E.w S' w2 S2∧AC P ⟨w2,S2,E.loc⟩ v u:=by have :(args.toList.map a.eval).toArray=args.map a.eval:=ZJd (by rw[ZJG]);rw[this]at e3;exact e3
  refine ZH1 e3' ?_;rintro e w2⟨u,S2,rfl,hg,hu⟩;rcases h3 with h3|h3;·have e:=k3 h3;subst e;have :=g.grow hg;exact hn ⟨w2,S2,E.loc⟩ u this.1 this.2 hg.drawn hu
  ·have :=g.grow (w:=w2) (S:=E.S) ⟨hg.drawn,hg.os,hg.tape,hg.output,hg.size,hg.frame,λ_ h=>h,λ_ h=>.inl h,λb hb=>ZIB (g.sl b hb) hg.size⟩;exact hn ⟨w2,E.S,E.loc⟩ u this.1 this.2 hg.drawn (ZDI hu h3)
 simp only[QF]at h;split at h
 ·rename_i f' args' ks h1;split at h
  ·rename_i ob' v' h2;split at h;·cases h;exact key _ _ _ h1 h2 (.inl rfl)
   ·split at h;·rename_i hp;cases h;exact key _ _ _ h1 h2 (.inr hp)
    ·cases h
  ·cases h
 ·cases h
def Pe(l:Nat):List Df→Bool
 |[]=>false|.mark k::r=>match Nat.beq k l with|true=>true|false=>Pe l r
 |.fn _ _::r=>Pe l r
def Ly(nx:Nat)(df:List Df):Option (Nat×Obj×Bool)→Bool|none=>true|some (l,_,false)=>Nat.ble l nx|some (l,_,true)=>match Nat.ble l nx with|true=>!Pe l df|false=>false
theorem E5.moved{E E':AF}{l:Nat}(hx:CK E E' [l]):∀{df:List Df}{ds:List Deferred},Pe l df=false→E5 P E df ds→E5 P E' (K4 (Di l) df) ds
 |[],_,_,h=>h|.mark k::r,_,hm,⟨L,rest,h1,⟨K,hK,h2⟩,h3⟩=>by
  simp only[Pe]at hm;split at hm;·cases hm
  ·rename_i hne;exact⟨L,rest,h1,⟨K,hx.loc k K (by simp;exact ZHZ hne) hK,h2⟩,h3.moved hx hm⟩|.fn g cs::r,_,hm,⟨q,rest,h1,h2,h3⟩=>⟨q,rest,h1,rU (λv c h=>RY hx h) h2,h3.moved hx hm⟩
theorem rE{a:Act}{d t:Nat}{v:Value}(hd:d<a.tmps.size):(a.put (some d) v).tmps.getD t undef=if d=t then v else a.tmps.getD t undef:=by
 simp only[Act.put,ZGV,ZJq];split;·rename_i e;subst e;simp
 ·rfl
theorem BS.setT{cx:Cx}{s s':St}{a:Act}{dst:Option Nat}{v:V}{c:Value}(r:BS P cx s a E)(h:s.setT dst v=some s')(rv:AC P E v c):BS P cx s' (a.put dst c) E:=by
 unfold St.setT at h;split at h;·cases h;exact⟨r.good,r.fresh,r.step,r.drawn,r.size,r.df,r.rep⟩
 ·rename_i d;split at h
  ·rename_i hd;obtain⟨nt,tmps,objs,nx,df,wr,di,mv⟩:=s;cases h;have hd:d<nt:=ZGk hd;have Am:a.tmps.size=nt:=r.size;refine⟨r.good,r.fresh,r.step,r.drawn,by simp[Act.put,Am],r.df,λt=>?_⟩;rw[rE (by omega)];show AC P E (Ag t ((d,v)::tmps)) _;rw[DG];split;·exact rv
   ·exact r.rep t
  ·cases h
theorem BS.edit{cx:Cx}{s:St}{a:Act}{E':AF}{ed:Option (Nat×Obj×Bool)}(r:BS P cx s a E)(BH:Ly s.nx s.df ed=true)(hd:E.w.drawn≤E'.w.drawn)(g:AE P E' (YtgpdnmfpgkkgcaaGreatDoor.edit s.objs ed))(st:BL E s.objs E' (YtgpdnmfpgkkgcaaGreatDoor.edit s.objs ed) (YtgpdnmfpgkkgcaaGreatDoor.moved ed)):BS P cx (s.edit ed) a E':=by
 obtain⟨nt,tmps,objs,nx,df,wr,di,mv⟩:=s;have BW:∀k,nx≤k→AB k objs=none:=λk hk=>by cases h:AB k objs with|none=>rfl|some o=>obtain⟨L,hL,_⟩:=r.good.at_ k o h;rw[r.fresh k hk]at hL;cases hL
 have MK:∀l,l≤nx→∀k,KT l nx≤k→nx≤k∧k≠l:=λl hl k hk=>by
  unfold KT at hk;split at hk;·rename_i e;have :=ZGJ e;omega
  ·rename_i e;have :=ZHZ e;omega
 match ed,BH,g,st with
 |none,_,g,st=>refine⟨g,λk hk=>?_,r.step.trans st,ZGd r.drawn hd,r.size,r.df.ext st.ext,λt=>(r.rep t).mono st.ext⟩;rw[st.dom k (BW k hk)];exact r.fresh k hk|some (l,o,false),BH,g,st=>
  have hl:l≤nx:=ZGk BH;refine⟨g,λk hk=>?_,r.step.trans st,ZGd r.drawn hd,r.size,r.df.ext st.ext,λt=>(r.rep t).mono st.ext⟩;obtain⟨h1,h2⟩:=MK l hl k hk;have :AB k (YtgpdnmfpgkkgcaaGreatDoor.edit objs (some (l,o,false)))=none:=by simp only[YtgpdnmfpgkkgcaaGreatDoor.edit];rw[BA,ZGA (ZG6 h2)];exact BW k h1
  rw[st.dom k this];exact r.fresh k h1|some (l,o,true),BH,g,st=>
  simp only[Ly]at BH;split at BH
  ·rename_i hl;have hl:l≤nx:=ZGk hl;refine⟨g,λk hk=>?_,r.step.trans st,ZGd r.drawn hd,r.size,r.df.moved st.ext (by simpa using BH),λt=>?_⟩
   ·obtain⟨h1,h2⟩:=MK l hl k hk;have :AB k (YtgpdnmfpgkkgcaaGreatDoor.edit objs (some (l,o,true)))=none:=by simp only[YtgpdnmfpgkkgcaaGreatDoor.edit];rw[BA,ZGA (ZG6 h2),JN,BW k h1];rfl
    rw[st.dom k this];exact r.fresh k h1
   ·show AC P E' (Ag t (F5 (Di l) tmps)) _;rw[Mw,N1];exact RY st.ext (r.rep t)
  ·cases BH
end
section
variable {P : Program} {τ : Ap} {κ : A2}
def freezeL:List Nat→St→St|[],s=>s|l::r,s=>freezeL r (s.freeze l)
theorem uQ{cx:Cx}:∀(ks:List Nat)(s:St),Wk P cx s (freezeL ks s)|[],s=>.refl s|l::r,s=>(Sa l).trans (uQ r _)
theorem Aa.freezeL:∀(ks:List Nat)(s:St),Aa s (freezeL ks s)|[],s=>.refl s|l::r,s=>(Aa.freeze l s).trans (Aa.freezeL r _)
def Pq(κ:A2)(f:V):Option (Option JF):=match f with
 |.fn (.func g) [] []=>match κ g with|some (.row r)=>some (some r)|some .ins=>some none|_=>none
 |_=>none
def nT(os:AH)(args:List V):Option Av:=match args with
 |[.osl l,.d (.int .i64) i,.osl k]=>match Nat.beq l k with|true=>none|false=>match AB l os with
  |some (.row (.int .i64) xs)=>match AB k os with|some (.row (.int .i64) zs)=>some ⟨some (0≤i∧i≤(List.length (α:=Int) xs:Int)∧(List.length (α:=Int) xs+List.length (α:=Int) zs)*8≤140737488355328),.osl l,some (l,.row (.int .i64) (List.take (α:=Int) i.toNat xs++zs++List.drop (α:=Int) i.toNat xs),true)⟩|_=>none
  |_=>none
 |_=>none
def Pr(κ:A2)(os:AH)(r:Option JF)(args:List V)(n:Nat):Option Av:=match r with
 |none=>nT os args|some ⟨T,false,ps,pre,fn⟩=>match Dh args with
  |none=>match O0 κ 3 ps args with|some ys=>some ⟨some (pre [] ys),.osl n,some (n,.row T (fn [] ys),false)⟩|none=>none
  |some _=>none
 |some ⟨T,true,ps,pre,fn⟩=>match args with
  |.osl l::rest=>match AB l os with
   |some (.row T' xs)=>if h:T'=T then match Dh rest with
    |none=>match O0 κ 3 ps rest with|some ys=>some ⟨some (pre (h▸xs) ys),.osl l,some (l,.row T (fn (h▸xs) ys),true)⟩|none=>none
    |some _=>none else none|_=>none
  |_=>none
inductive P8 where|clo(h:Nat)|lin(c:Sj)
def wA(P:Program)(g:FuncId):P8→Prop|.clo h=>Sh P g h|.lin c=>P7 P g c
def QI(κ:A2)(f:V):Option P8:=match f with
 |.fn (.func g) [] []=>match κ g with|some (.clo h)=>some (.clo h)|some (.lin c)=>some (.lin c)|_=>none
 |_=>none
def TA(κ:A2)(h:P8)(args:List V)(n:Nat):Option Av:=match h with
 |.clo h=>match args with
  |[v]=>match v.solid with|true=>some ⟨none,.fn (.func h) [] [.er [v]],none⟩|false=>none
  |_=>none
 |.lin ⟨ps,pre,fn⟩=>match Dh args with
  |none=>match O0 κ 3 ps args with|some ys=>some ⟨some (pre ys),.agg [.osl n,.d (.int .i64) (fn ys).2],some (n,.row (.int .i64) (fn ys).1,false)⟩|none=>none
  |some _=>none
theorem xV{P:Program}{κ:A2}(hκ:BK P κ){f:V}{h:P8}(hc:QI κ f=some h):∃g,f=.fn (.func g) [] []∧wA P g h:=by
 unfold QI at hc;split at hc
 ·rename_i g;split at hc;·rename_i h' hk;cases hc;exact⟨g,rfl,hκ g _ hk⟩
  ·rename_i c hk;cases hc;exact⟨g,rfl,hκ g _ hk⟩
  ·cases hc
 ·cases hc
def Lz(τ:Ap)(κ:A2)(op:Op)(tmps:List (Nat×V))(objs:AH)(nx:Nat):Option Av:=match op with
 |.call {callee:=.value x,args,..}=>match Pq κ (Au tmps x)with|some r=>Pr κ objs r (B3 tmps args.toList) nx|none=>match QI κ (Au tmps x)with|some h=>TA κ h (B3 tmps args.toList) nx|none=>match QF κ objs (Au tmps x) (B3 tmps args.toList)with|.ok ob v=>some ⟨ob,v,none⟩|_=>none
 |op=>QR τ op tmps objs nx
def Pb(objs:AH)(vs:List V):List Nat:=match Me 9 objs vs with|some (_,ks)=>ks|none=>[]
def P0(τ:Ap)(κ:A2)(op:Op)(tmps:List (Nat×V))(objs:AH):List Nat:=match op with
 |.buildSlice t _ parts=>match τ t with
  |some ⟨.sl e,_,_,_,_⟩=>match τ e with|some ⟨_,_,_,_,some _⟩=>Pb objs (B3 tmps (parts.toList.map (·.2)))|_=>[]
  |_=>[]
 |.store _ a x=>match Au tmps a with
  |.rref l _ _=>match AB l objs with|some (.vrow ..)=>[]|_=>Pb objs [Au tmps x]
  |_=>[]
 |.mapUpdate _ _ _ x=>Pb objs [Au tmps x]|.call {callee:=.value x,args,..}=>match Pq κ (Au tmps x)with
  |some none=>[]|some (some r)=>match r.own with|false=>Pb objs (B3 tmps args.toList)|true=>Pb objs (B3 tmps args.toList).tail
  |none=>match QI κ (Au tmps x)with|some (.lin _)=>Pb objs (B3 tmps args.toList)|some (.clo _)=>[]|none=>match QF κ objs (Au tmps x) (B3 tmps args.toList)with|.frz ks=>ks|_=>[]
 |_=>[]
def stepU(τ:Ap)(κ:A2)(dst:Option Nat)(op:Op)(s:St):Option (Option Prop×St):=match s with|⟨nt,tmps,objs,nx,df,wr,di,mv⟩=>match freezeL (P0 τ κ op tmps objs) ⟨nt,tmps,objs,nx,df,wr,di,mv⟩with|⟨nt,tmps,objs,nx,df,wr,di,mv⟩=>match Lz τ κ op tmps objs nx with|none=>none|some ⟨ob,v,ed⟩=>match Ly nx df ed with|false=>none|true=>match(St.mk nt tmps objs nx df wr di mv).edit ed with|⟨nt,tmps,objs,nx,df,wr,di,mv⟩=>match(St.mk nt tmps objs nx df wr di mv).setT dst v with|none=>none|some s'=>some (ob,s')
def V.bare:V→V|.when _ v=>v|v=>v
def NA:List (Nat×V)→List (Nat×V)|[]=>[]|(t,v)::r=>(t,v.bare)::NA r
theorem ZW(t:Nat):∀l:List (Nat×V),Ag t (NA l)=(Ag t l).bare
 |[]=>rfl|(u,v)::l=>by
  rw[NA,DG,DG];split;·rfl
  ·exact ZW t l
def TD(tmps:List (Nat×V)):Operand→Option Bool
 |.tmp t=>match Ag t tmps with|.when q _=>some q|_=>none
 |_=>none
def Lw(tmps:List (Nat×V)):List Operand→List Bool|[]=>[]|x::l=>match TD tmps x with|some q=>q::Lw tmps l|none=>Lw tmps l
def V5:List Bool→Prop→Prop|[],p=>p|q::l,p=>q=true∧V5 l p
def O4(g:Bool)(qs:List Bool)(ob:Option Prop):Option Prop:=match qs with
 |[]=>match ob with|none=>none|some p=>some (g=true→p)
 |qs=>some (g=true→V5 qs (BM ob))
theorem V6{p:Prop}:∀{l:List Bool},V5 l p→p∧∀q∈l,q=true|[],h=>⟨h,λq hq=>by simp at hq⟩|q::l,h=>by obtain⟨h1,h2⟩:=V6 h.2;exact⟨h1,λr hr=>(List.mem_cons.1 hr).elim (λe=>e▸h.1) (h2 r)⟩
theorem Qi{g:Bool}{qs:List Bool}{ob:Option Prop}(h:BM (O4 g qs ob))(hg:g=true):BM ob∧∀q∈qs,q=true:=by cases qs with
 |nil=>cases ob with|none=>exact⟨trivial,λq hq=>by simp at hq⟩|some p=>exact V6 (l:=[]) (h hg)
 |cons q l=>exact V6 (l:=q::l) (h hg)
theorem WX{tmps:List (Nat×V)}:∀{l:List Operand}{x:Operand},x∈l→∀q,TD tmps x=some q→q∈Lw tmps l
 |y::l,x,hx,q,hq=>by
  rcases List.mem_cons.1 hx with rfl|hx;·simp only[Lw,hq];exact ZI1
  ·have :=WX hx q hq;simp only[Lw];split;·exact ZGK _ this
   ·exact this
theorem eC{E:AF}{tmps:List (Nat×V)}{x:Operand}{c:Value}(r:AC P E (Au tmps x) c)(h:∀q,TD tmps x=some q→q=true):AC P E (Au (NA tmps) x) c:=by cases x with
 |tmp t=>show AC P E (Ag t (NA tmps)) c;rw[ZW];have h':∀q v,Ag t tmps=.when q v→q=true:=λq v e=>h q (by simp[TD,e]);change AC P E (Ag t tmps) c at r;generalize Ag t tmps=v at r h';cases v with
  |when q v=>cases r with|when h1 h2=>exact h1 (h' q v rfl)
  |_=>exact r
 |_=>exact r
def M9(u:Nat):List (Nat×V)→List (Nat×V)|[]=>[]|(t,v)::r=>match Nat.beq t u with|true=>(t,v.bare)::M9 u r|false=>(t,v)::M9 u r
theorem pD(u t:Nat):∀l:List (Nat×V),Ag t (M9 u l)=if t=u then(Ag t l).bare else Ag t l
 |[]=>by simp only[M9];split<;>rfl|(k,v)::l=>by
  have ih:=pD u t l;simp only[M9];split
  ·rename_i hk;have hk:=ZGJ hk;rw[DG,DG];split;·rename_i e;rw[ZGE (by omega)]
   ·exact ih
  ·rename_i hk;have hk:k≠u:=λe=>by rw[e,ZK2]at hk;cases hk
   rw[DG,DG];split;·rename_i e;rw[ZGA (by omega)]
   ·exact ih
def QE(op:Op)(tmps:List (Nat×V)):List (Nat×V):=match op with
 |.pick c _ _=>match c with|.tmp u=>M9 u tmps|_=>tmps
 |_=>NA tmps
def Lx(op:Op)(tmps:List (Nat×V)):List Bool:=match op with|.pick c _ _=>Lw tmps [c]|_=>Lw tmps op.operands.toList
def Qj(want:Bool)(v:V):Option Bool:=match v with
 |.d .bool b=>match want with|true=>some b|false=>some !b
 |.when q (.d .bool b)=>match want with|true=>some (q&&b)|false=>some (q&&!b)
 |_=>none
def Qe(ops:List Oper)(j:Nat):Option Nat:=match ops[j]? with|some ⟨some d,_,_,_,_,_⟩=>some d|_=>none
def stepG(τ:Ap)(κ:A2)(dst:Option Nat)(op:Op)(g:Bool)(s:St):Option (Option Prop×St):=match s with|⟨nt,tmps,objs,nx,df,wr,di,mv⟩=>match Lz τ κ op (QE op tmps) objs nx with
 |some ⟨ob,v,none⟩=>match(St.mk nt tmps objs nx df wr di mv).setT dst (.when g v)with|some s'=>some (O4 g (Lx op tmps) ob,s')|none=>none
 |_=>none
theorem WK{E:AF}{op:Op}{tmps:List (Nat×V)}{x:Operand}{c:Value}(hx:x∈op.operands)(r:AC P E (Au tmps x) c)(h:∀q∈Lx op tmps,q=true):AC P E (Au (QE op tmps) x) c:=by
 unfold QE;split
 ·rename_i c0 a b;split;·rename_i u;cases x with
   |tmp t=>
    show AC P E (Ag t (M9 u tmps)) c;rw[pD];split;·rename_i e;subst e;have :=eC r λq hq=>h q (WX ZI1 q hq);change AC P E (Ag t (NA tmps)) c at this;rw[ZW]at this;exact this
    ·exact r|_=>exact r
  ·exact r
 ·rename_i hn;have e:Lx op tmps=Lw tmps op.operands.toList:=by
   unfold Lx;split;·rename_i c0 a b;exact absurd rfl (hn c0 a b)
   ·rfl
  rw[e]at h;exact eC r λq hq=>h q (WX (Array.mem_toList_iff.2 hx) q hq)
def wD(P:Program)(g:FuncId):Option JF→Prop|some r=>LC P g r|none=>dB P g
theorem ZDx(hκ:BK P κ){f:V}{r:Option JF}(h:Pq κ f=some r):∃g,f=.fn (.func g) [] []∧wD P g r:=by
 unfold Pq at h;split at h
 ·rename_i g;split at h;·rename_i r' hk;cases h;exact⟨g,rfl,hκ g _ hk⟩
  ·rename_i hk;cases h;exact⟨g,rfl,hκ g _ hk⟩
  ·cases h
 ·cases h
theorem Qa{E:AF}{g:FuncId}{c:Value}(h:AC P E (.fn (.func g) [] []) c):c=.func (.func g) #[] #[]:=by
 obtain⟨p,q,rfl,k1,k2⟩:=Ow h;have h1:p=#[]:=by have :=k1.1;simpa using this
 have h2:q=#[]:=by have :=k2.1;simpa using this
 rw[h1,h2]
theorem CE.put{E:AF}{objs:AH}{l:Nat}{L K:Ai}{T:Ty}{xs zs:List T.den}{w:World}(h:CE P E L T xs w K zs)(g:AE P E objs)(Al:AB l objs=some (.row T xs))(hL:E.loc l=some L):AE P (E.setL w l K) (edit objs (some (l,.row T zs,true)))∧BL E objs (E.setL w l K) (edit objs (some (l,.row T zs,true))) [l]:=by obtain⟨row,hw,DN,BW,EU,_⟩:=h;exact AE.put g (mv:=true) (o':=.row T zs) (L':=K) Al hL hw DN (λh=>by cases h) (BW _) EU
theorem sA(hκ:BK P κ){f:V}{r:Option JF}(hr:Pq κ f=some r){os objs:AH}{args:List V}{n:Nat}{out:Av}(h:Pr κ os r args n=some out)(hs:DL os objs)(ho:BM out.ob){E:AF}(g:AE P E objs){c:Value}{cs:List Value}(rf:AC P E f c)(ra:AZ P E args cs):∃gf,c=.func (.func gf) #[] #[]∧DK P gf∧∃T,(∃zs,out.v=.osl n∧out.ed=some (n,.row T zs,false)∧Calls P gf cs.toArray E.w λe w2=>∃K,e=.returned K.v∧E.w.grownBy w2 none∧E.w.drawn≤w2.drawn∧(∀lo,Ay P ⟨w2,E.S,lo⟩ K (.row T zs))∧((Obj.row T zs).has K→E.w.heap.size≤K.b))∨∃l L xs zs,AB l os=some (.row T xs)∧E.loc l=some L∧out.v=.osl l∧out.ed=some (l,.row T zs,true)∧Calls P gf cs.toArray E.w λe w2=>∃K,e=.returned K.v∧CE P E L T xs w2 K zs:=by obtain⟨gf,rfl,hok⟩:=ZDx hκ hr;have hcl:∀vs ds,Dh vs=none→AZ P E vs ds→AZ P ⟨E.w,E.S,λ_=>none⟩ vs ds:=λvs ds hf h=>QJ (E:=E) (E':=⟨E.w,E.S,λ_=>none⟩) (λb hb=>⟨hb,rfl⟩) h hf;match r,hok with
 |none,hok=>
  refine⟨gf,Qa rf,hok.1,.int .i64,?_⟩;unfold Pr nT at h;simp only at h;split at h
  ·rename_i l i k;split at h;·cases h
   ·rename_i hne;split at h
    ·rename_i xs hl;split at h;·rename_i zs hk;cases h;obtain⟨h0,h1,h2⟩:=ho;match cs,ra with|[a,b,c],ra=>obtain⟨L,hL,rfl⟩:=GQ ra.head;have e:=ra.tail.head.int_inv;subst e;obtain⟨K,hK,rfl⟩:=GQ ra.tail.tail.head;exact .inr ⟨l,L,xs,_,hl,hL,rfl,rfl,hok.2 E objs l k L K xs zs i g (hs l _ hl) (hs k _ hk) (ZHZ hne) hL hK h0 h1 h2⟩|[],ra=>exact absurd ra.1 (by simp)|[_],ra=>exact absurd ra.1 (by simp)|[_,_],ra=>exact absurd ra.1 (by simp)|_::_::_::_::_,ra=>exact absurd ra.1 (by simp)
     ·cases h
    ·cases h
  ·cases h|some ⟨T,false,ps,pre,fn⟩,hok=>
  refine⟨gf,Qa rf,hok.1,T,?_⟩;unfold Pr at h;simp only at h;split at h
  ·rename_i hk;split at h;·rename_i ys FY;cases h;exact .inl ⟨_,rfl,rfl,hok.2 E.w E.S ys g.sok ho _ (Qf hκ 3 _ _ _ _ _ FY (by simpa using hcl _ _ hk ra))⟩
   ·cases h
  ·cases h|some ⟨T,true,ps,pre,fn⟩,hok=>
  refine⟨gf,Qa rf,hok.1,T,?_⟩;unfold Pr at h;simp only at h;split at h
  ·rename_i l rest;split at h
   ·rename_i T' xs Al;split at h
    ·rename_i hT;subst hT;split at h
     ·rename_i hk;split at h;·rename_i ys FY;cases h;match cs,ra with|[],ra=>exact absurd ra.1 (by simp)|c::cs,ra=>obtain⟨L,hL,rfl⟩:=GQ ra.head;exact .inr ⟨l,L,xs,_,Al,hL,rfl,rfl,hok.2 E objs l L xs ys g (hs l _ Al) hL ho cs (Qf hκ 3 _ _ _ _ _ FY (hcl _ _ hk ra.tail))⟩
      ·cases h
     ·cases h
    ·cases h
   ·cases h
  ·cases h
theorem QG{r:Option Nat}{o:Oper}{a:Act}{x:Operand}{args:Array Operand}{tys:Array TypeId}(Cp:o.op=.call {callee:=.value x,args,argTypes:=tys}){gf:FuncId}(hx:a.eval x=.func (.func gf) #[] #[])(hc:DK P gf){E:AF}{R:Ending→World→Prop}(h:Calls P gf (args.toList.map a.eval).toArray E.w R){next:Act→World→Prop}{Q:Ee}(hn:∀e w2,R e w2→∃u,e=.returned u∧next (a.put o.dst u) w2):o.wpIn (fz r) 0 P a E.w next Q:=by
 refine⟨λ_ _=>trivial,?_⟩;rw[ZIx _ _ _ λc=>by rw[Cp];simp,WQ Cp hc hx,ZJ8];refine⟨λh=>by simp[fz,Fence.wide]at h,Tc ?_⟩;have e3:Calls P gf (#[]++args.map a.eval++#[]) E.w R:=by have :(args.toList.map a.eval).toArray=args.map a.eval:=ZJd (by rw[ZJG]);rw[this]at h;simpa using h
 refine ZH1 e3 ?_;intro e w2 hR;obtain⟨u,rfl,hu⟩:=hn e w2 hR;exact hu
theorem ZDy(hκ:BK P κ){r:Option Nat}{o:Oper}{a:Act}{x:Operand}{args:Array Operand}{tys:Array TypeId}(Cp:o.op=.call {callee:=.value x,args,argTypes:=tys}){tmps:List (Nat×V)}{rc:Option JF}{out:Av}{n:Nat}{os objs:AH}{E:AF}(hr:Pq κ (Au tmps x)=some rc)(h:Pr κ os rc (B3 tmps args.toList) n=some out)(ho:BM out.ob)(hs:DL os objs)(g:AE P E objs)(hf:E.loc n=none)(hx:AC P E (Au tmps x) (a.eval x))(PR:∀y∈args.toList,AC P E (Au tmps y) (a.eval y)):K9 P r o a E objs out:=by
 intro next Q hn;obtain⟨gf,e1,e2,T,e3⟩:=sA hκ hr h hs ho g hx (Mg PR);rcases e3 with⟨zs,h1,h2,hc⟩|⟨l,L,xs,zs,h0,hL,h1,h2,hc⟩;·refine QG Cp e1 e2 hc ?_;rintro e w2⟨K,rfl,hg,hd,hat,EU⟩;obtain⟨g',st⟩:=AE.push g (w:=w2) (l:=n) (L:=K) (o:=.row T zs) hf hg (hat _) EU;rw[h1,h2]at hn;exact⟨_,rfl,hn (E.setL w2 n K) K.v g' st hd (.osl (CJ _ _ _ _))⟩
 ·refine QG Cp e1 e2 hc ?_;rintro e w2⟨K,rfl,hA⟩;obtain⟨g',st⟩:=hA.put g (hs l _ h0) hL;have hd:E.w.drawn≤w2.drawn:=by obtain⟨_,_,_,_,_,h⟩:=hA;exact h
  rw[h1,h2]at hn;exact⟨_,rfl,hn (E.setL w2 l K) K.v g' st hd (.osl (CJ _ _ _ _))⟩
theorem xY(hκ:BK P κ){r:Option Nat}{o:Oper}{a:Act}{x:Operand}{args:Array Operand}{tys:Array TypeId}(Cp:o.op=.call {callee:=.value x,args,argTypes:=tys}){tmps:List (Nat×V)}{h:P8}{out:Av}{objs:AH}{E:AF}{n:Nat}(hc:QI κ (Au tmps x)=some h)(ho:TA κ h (B3 tmps args.toList) n=some out)(D5:BM out.ob)(g:AE P E objs)(hf:E.loc n=none)(hx:AC P E (Au tmps x) (a.eval x))(PR:∀y∈args.toList,AC P E (Au tmps y) (a.eval y)):K9 P r o a E objs out:=by
 intro next Q hn;have ra:AZ P E (B3 tmps args.toList) (args.toList.map a.eval):=Mg PR;obtain⟨gf,hf',hok⟩:=xV hκ hc;rw[hf']at hx;unfold TA at ho;split at ho
 ·rename_i h;have hok:Sh P gf h:=hok;split at ho
  ·rename_i v hv;rw[hv]at ra;split at ho;·rename_i hs;cases ho;obtain⟨c,hcs,rc⟩:=ra.single;refine QG (R:=λe w2=>∃u E',e=.returned u∧E'.w=w2∧AE P E' objs∧BL E objs E' objs []∧E.w.drawn≤w2.drawn∧AC P E' (.fn (.func h) [] [.er [v]]) u) Cp (Qa hx) hok.1 (by rw[hcs];exact hok.2 E objs v c g hs rc) ?_;rintro e w2⟨u,E',rfl,rfl,g',st,hd,hu⟩;exact⟨u,rfl,hn E' u g' st hd hu⟩
   ·cases ho
  ·cases ho
 ·rename_i ps pre fn;have hok:P7 P gf ⟨ps,pre,fn⟩:=hok;split at ho
  ·rename_i hk;split at ho;·rename_i ys FY;cases ho;have hcl:AZ P ⟨E.w,E.S,λ_=>none⟩ (B3 tmps args.toList) (args.toList.map a.eval):=QJ (E:=E) (E':=⟨E.w,E.S,λ_=>none⟩) (λb hb=>⟨hb,rfl⟩) ra hk;refine QG (R:=λe w2=>∃u E',e=.returned u∧E'.w=w2∧AE P E' ((n,.row (.int .i64) (fn ys).1)::objs)∧BL E objs E' ((n,.row (.int .i64) (fn ys).1)::objs) []∧E.w.drawn≤w2.drawn∧AC P E' (.agg [.osl n,.d (.int .i64) (fn ys).2]) u) Cp (Qa hx) hok.1 (hok.2 E objs n ys g hf D5 _ (Qf hκ 3 _ _ _ _ _ FY (by simpa using hcl))) ?_;rintro e w2⟨u,E',rfl,rfl,g',st,hd,hu⟩;exact⟨u,rfl,hn E' u g' st hd hu⟩
   ·cases ho
  ·cases ho
theorem TQ(hτ:BQ P τ)(hκ:BK P κ){r:Option Nat}{o:Oper}{tmps:List (Nat×V)}{os objs:AH}{nx:Nat}{out:Av}{E:AF}{a:Act}(h:Lz τ κ o.op tmps os nx=some out)(hs:DL os objs)(ho:BM out.ob)(g:AE P E objs)(hf:E.loc nx=none)(hr:∀x∈o.op.operands,AC P E (Au tmps x) (a.eval x)):K9 P r o a E objs out:=by
 have plain:(∀x args tys,o.op≠.call {callee:=.value x,args,argTypes:=tys})→QR τ o.op tmps os nx=some out→K9 P r o a E objs out:=λhn he=>(ZAQ hτ he hs ho g hf hr λ_=>rfl).did λc e=>by rw[e]at he;cases he
 unfold Lz at h;split at h
 ·rename_i x args tys Cp;split at h;·rename_i rc B9;exact ZDy hκ Cp B9 h ho hs g hf (hr x (by rw[Cp];simp[Op.operands,Call.operands])) λy hy=>hr y (by rw[Cp];simp only[Op.operands,Call.operands];simp[Array.mem_toList_iff.1 hy])
  ·split at h;·rename_i k hk;exact xY hκ Cp hk h ho g hf (hr x (by rw[Cp];simp[Op.operands,Call.operands])) λy hy=>hr y (by rw[Cp];simp only[Op.operands,Call.operands];simp[Array.mem_toList_iff.1 hy])
   ·split at h;·rename_i ob v hc;cases h;exact call_did' hκ Cp hc hs ho g λy hy=>hr y (by rw[Cp];exact hy)
    ·cases h
 ·rename_i hn;exact plain (λx args tys e=>hn x args tys e) h where call_did'{κ:A2}(hκ:BK P κ){E:AF}{os objs:AH}{r:Option Nat}{o:Oper}{a:Act}{x:Operand}{args:Array Operand}{tys:Array TypeId}(Cp:o.op=.call {callee:=.value x,args,argTypes:=tys}){tmps:List (Nat×V)}{ob:Option Prop}{v:V}(h:QF κ os (Au tmps x) (B3 tmps args.toList)=.ok ob v)(hs:DL os objs)(ho:BM ob)(g:AE P E objs)(hr:∀y∈(Op.call {callee:=.value x,args,argTypes:=tys}).operands,AC P E (Au tmps y) (a.eval y)):K9 P r o a E objs ⟨ob,v,none⟩:=xS hκ Cp h ho hs g (hr x (by simp[Op.operands,Call.operands])) λy hy=>hr y (by simp only[Op.operands,Call.operands];simp[Array.mem_toList_iff.1 hy])
theorem ZEU(hτ:BQ P τ)(hκ:BK P κ){r:Option Nat}{cx:Cx}{o:Oper}{s s':St}{ob:Option Prop}{a:Act}{w:World}(h:stepU τ κ o.dst o.op s=some (ob,s'))(ho:BM ob)(hr:BG P cx s a w){next:Act→World→Prop}{Q:Ee}(hn:∀a' w',BG P cx s' a' w'→next a' w'):o.wpIn (fz r) 0 P a w next Q:=by
 obtain⟨nt,tmps,objs,nx,df,wr,di,mv⟩:=s;unfold stepU at h;simp only at h;have hr':=uQ (P:=P) (cx:=cx) (P0 τ κ o.op tmps objs) _ a w hr;revert h hr';generalize freezeL (P0 τ κ o.op tmps objs) ⟨nt,tmps,objs,nx,df,wr,di,mv⟩=s1;obtain⟨nt,tmps,objs,nx,df,wr,di,mv⟩:=s1;rintro h⟨E,rfl,r1⟩;simp only at h;split at h;·cases h
 ·rename_i ob' v ed he;split at h;·cases h
  ·rename_i BH;revert h;generalize En:(St.mk nt tmps objs nx df wr di mv).edit ed=s2;obtain⟨nt2,My,Hz,nx2,df2,wr2,di2,mv2⟩:=s2;intro h;simp only at h;split at h;·cases h
   ·rename_i s3 Ns;cases h;refine TQ hτ hκ he (λ_ _ h=>h) ho r1.good (r1.fresh nx (ZGR _)) (λx _=>LK r1.rep x) _ Q λE' u k1 k2 kd k3=>hn _ _ ⟨E',rfl,?_⟩;rw[←En]at Ns;exact BS.setT (BS.edit r1 BH kd k1 k2) Ns k3
theorem Aa.stepU{dst:Option Nat}{op:Op}{s s':St}{ob:Option Prop}(h:stepU τ κ dst op s=some (ob,s')):Aa s s':=by
 obtain⟨nt,tmps,objs,nx,df,wr,di,mv⟩:=s;unfold YtgpdnmfpgkkgcaaGreatDoor.stepU at h;simp only at h;have hi:=Aa.freezeL (P0 τ κ op tmps objs) ⟨nt,tmps,objs,nx,df,wr,di,mv⟩;revert h hi;generalize YtgpdnmfpgkkgcaaGreatDoor.freezeL (P0 τ κ op tmps objs) ⟨nt,tmps,objs,nx,df,wr,di,mv⟩=s1;obtain⟨nt,tmps,objs,nx,df,wr,di,mv⟩:=s1;intro h hi;simp only at h;split at h;·cases h
 ·rename_i ob' v ed _;split at h;·cases h
  ·revert h;generalize En:(St.mk nt tmps objs nx df wr di mv).edit ed=s2;have hj:=Aa.edit (St.mk nt tmps objs nx df wr di mv) ed;rw[En]at hj;obtain⟨nt2,My,Hz,nx2,df2,wr2,di2,mv2⟩:=s2;intro h;simp only at h;split at h;·cases h
   ·rename_i s3 Ns;cases h;exact(hi.trans hj).trans (Aa.setT Ns)
theorem uJ{E:AF}{ops:Array Oper}{o:Oper}{j gd:Nat}{want g:Bool}{v:V}{a:Act}(hg:o.guard=some (j,want))(Iw:Qe ops.toList j=some gd)(hv:Qj want v=some g)(rg:AC P E v (a.tmps.getD gd undef)):Region.wanted o (yielded ops a.tmps)=g:=by
 have ZBM:(ops[j]?).bind (·.dst)=some gd:=by
  unfold Qe at Iw;split at Iw;·rename_i h;cases Iw;rw[ZHG]at h;rw[h];rfl
  ·cases Iw
 have hy:yielded ops a.tmps j=match a.tmps[gd]? with|some (.bool b)=>some b|_=>none:=by unfold yielded;rw[ZBM];rfl
 simp only[Region.wanted,hg,hy];have BR:a.tmps.getD gd undef=(a.tmps[gd]?).getD undef:=by rw[ZGV]
 rw[BR]at rg;unfold Qj at hv;split at hv;·rename_i b;have :=rg.bool_inv;cases hq:a.tmps[gd]? with|none=>rw[hq]at this;cases this|some c=>rw[hq]at this;simp at this;subst this;cases b<;>cases want<;>cases hv<;>rfl
 ·rename_i q b;cases rg with|when k1 k2=>cases q with
  |true=>have :=(k1 rfl).bool_inv;cases hq:a.tmps[gd]? with|none=>rw[hq]at this;cases this|some c=>rw[hq]at this;simp at this;subst this;cases b<;>cases want<;>cases hv<;>rfl
  |false=>have :=k2 rfl;cases hq:a.tmps[gd]? with|none=>cases want<;>cases hv<;>rfl|some c=>rw[hq]at this;simp at this;subst this;cases want<;>cases hv<;>rfl
 ·cases hv
theorem ZET(hτ:BQ P τ)(hκ:BK P κ){r:Option Nat}{cx:Cx}{o:Oper}{s s':St}{ob:Option Prop}{g:Bool}{a:Act}{w:World}(h:stepG τ κ o.dst o.op g s=some (ob,s'))(ho:BM ob)(hr:BG P cx s a w){next:Act→World→Prop}{Q:Ee}(hn:∀a' w',BG P cx s' a' w'→next a' w'):(g=true→o.wpIn (fz r) 0 P a w next Q)∧(g=false→next (a.put o.dst undef) w):=by
 obtain⟨nt,tmps,objs,nx,df,wr,di,mv⟩:=s;unfold stepG at h;simp only at h;split at h
 ·rename_i ob' v he;split at h
  ·rename_i s3 Ns;cases h;obtain⟨E,rfl,r1⟩:=hr;refine⟨λhg=>?_,λhg=>?_⟩;·obtain⟨k0,kc⟩:=Qi ho hg;refine TQ hτ hκ he (λ_ _ h=>h) k0 r1.good (r1.fresh nx (ZGR _)) (λx hx=>WK hx (LK r1.rep x) kc) _ Q λE' u k1 k2 kd k3=>hn _ _ ⟨E',rfl,?_⟩;exact BS.setT (BS.edit (ed:=none) r1 rfl kd k1 k2) Ns (.when (λ_=>k3) λe=>by rw[hg]at e;cases e)
   ·exact hn _ _ ⟨E,rfl,BS.setT r1 Ns (.when (λe=>by rw[hg]at e;cases e) λ_=>rfl)⟩
  ·cases h
 ·cases h
theorem Aa.stepG{dst:Option Nat}{op:Op}{g:Bool}{s s':St}{ob:Option Prop}(h:stepG τ κ dst op g s=some (ob,s')):Aa s s':=by
 obtain⟨nt,tmps,objs,nx,df,wr,di,mv⟩:=s;unfold YtgpdnmfpgkkgcaaGreatDoor.stepG at h;simp only at h;split at h
 ·split at h;·rename_i hs;cases h;exact Aa.setT hs
  ·cases h
 ·cases h
end
section
variable {P : Program} {τ : Ap} {κ : A2}
def M7(ob:Option Prop)(k:Prop):Prop:=match ob with|none=>k|some p=>p∧k
theorem V8{ob:Option Prop}{k:Prop}(h:M7 ob k):BM ob∧k:=by cases ob with|none=>exact⟨trivial,h⟩|some p=>exact h
def B7(n:Nat):List Nat→Bool|[]=>false|m::l=>match Nat.beq m n with|true=>true|false=>B7 n l
theorem F3{n:Nat}:∀{l:List Nat},B7 n l=true↔n∈l
 |[]=>by simp[B7]|m::l=>by
  simp only[B7,ZGe];split;·rename_i h;exact⟨λ_=>.inl (ZGJ h).symm,λ_=>rfl⟩
  ·rename_i h;rw[F3 (l:=l)];exact⟨.inr,λh'=>h'.elim (λe=>absurd e.symm (ZHZ h)) id⟩
abbrev XT:=Oper→St→(St→Prop)→Prop
def P9(P:Program)(r:Option Nat)(cx:Cx)(X:XT):Prop:=∀(o:Oper)(s:St)(k:St→Prop)(a:Act)(w:World)(next:Act→World→Prop)(Q:Ee),o.guard=none→X o s k→BG P cx s a w→(∀s' a' w',Aa s s'→k s'→BG P cx s' a' w'→next a' w')→o.wpIn (fz r) 0 P a w next Q
def GP(τ:Ap)(κ:A2)(X:XT)(ops:List Oper):List Oper→List Nat→St→(St→Prop)→Prop|[],_,s,k=>k s|⟨dst,op,ty,po,af,guard⟩::l,kn,s,k=>match guard with
 |none=>match stepU τ κ dst op s with|some (ob,s')=>M7 ob (GP τ κ X ops l kn s' k)|none=>X ⟨dst,op,ty,po,af,none⟩ s λs'=>GP τ κ X ops l kn s' k
 |some (j,want)=>match Qe ops j with|none=>False|some gd=>match Ag gd s.tmps with|v=>match Qj want v with|none=>False|some g=>match B7 j kn with|true=>cond g (match stepU τ κ dst op s with|some (ob,s')=>M7 ob (GP τ κ X ops l kn s' k)|none=>X ⟨dst,op,ty,po,af,none⟩ s λs'=>GP τ κ X ops l kn s' k) (match s.setT dst .any with|some s'=>GP τ κ X ops l kn s' k|none=>False)|false=>match stepG τ κ dst op g s with|some (ob,s')=>M7 ob (GP τ κ X ops l kn s' k)|none=>match v with
  |.d .bool b=>cond g (match s.setT (some gd) (.d .bool want)with
   |some s1=>match stepU τ κ dst op s1 with|some (ob,s')=>M7 ob (GP τ κ X ops l (j::kn) s' k)|none=>X ⟨dst,op,ty,po,af,none⟩ s1 λs'=>GP τ κ X ops l (j::kn) s' k
   |none=>False) (match s.setT (some gd) (.d .bool !want)with
   |some s1=>match s1.setT dst .any with|some s'=>GP τ κ X ops l (j::kn) s' k|none=>False
   |none=>False)|_=>False
theorem ZE9{F:Fence}{n:Nat}{o:Oper}{g:Option (Nat×Bool)}{a:Act}{w:World}{next:Act→World→Prop}{Q:Ee}(h:Oper.wpIn F n P {o with guard:=g} a w next Q):o.wpIn F n P a w next Q:=h
theorem BG.setT_same{cx:Cx}{s s':St}{a:Act}{w:World}{d:Nat}{v:V}(hr:BG P cx s a w)(h:s.setT (some d) v=some s')(hv:∀E,BS P cx s a E→AC P E v (a.tmps.getD d undef)):BG P cx s' a w:=by
 obtain⟨E,rfl,r⟩:=hr;refine⟨E,rfl,?_⟩;have :=BS.setT r h (hv E r);have hd:d<a.tmps.size:=by
  unfold St.setT at h;split at h;·rename_i he;cases he
  ·rename_i d' he;cases he;split at h;·rename_i Ab;have h0:d<s.nt:=ZGk Ab;have h1:=r.size;omega
   ·cases h
 have e:a.put (some d) (a.tmps.getD d undef)=a:=by
  obtain⟨t,ds⟩:=a;simp only[Act.put];congr 1;apply Array.ext (by simp);intro i h1 h2;rw[Array.getElem_setIfInBounds];split;·rename_i e;subst e;rfl
  ·rfl
 rwa[e]at this
theorem Zs(hτ:BQ P τ)(hκ:BK P κ){r:Option Nat}{cx:Cx}{X:XT}(hX:P9 P r cx X){ops:Array Oper}{Q:Ee}:∀{l:List Oper}{is:List Nat}{kn:List Nat}{s:St}{k:St→Prop}{a:Act}{w:World},l.map some=is.map (λi=>ops[i]?)→GP τ κ X ops.toList l kn s k→BG P cx s a w→(∀s' a' w',Aa s s'→k s'→BG P cx s' a' w'→Q .normal a' w')→wpOpsIn (fz r) 0 P ops Q is a w
  |[],[],_,s,k,a,w,_,h,hr,hk=>hk s a w (.refl s) h hr|[],_::_,_,_,_,_,_,h,_,_,_=>by simp at h|_::_,[],_,_,_,_,_,h,_,_,_=>by simp at h|⟨dst,op,ty,po,af,guard⟩::l,i::is,kn,s,k,a,w,hl,h,hr,hk=>by
    simp only[ZGi,ZIh]at hl;have hi:ops[i]?=some ⟨dst,op,ty,po,af,guard⟩:=hl.1.symm;have hl':=hl.2;rw[wpOpsIn_cons];unfold wpOpIn;rw[hi];simp only;have next:∀(kn':List Nat)(s':St),Aa s s'→GP τ κ X ops.toList l kn' s' k→∀a' w',BG P cx s' a' w'→wpOpsIn (fz r) 0 P ops Q is a' w':=λkn' s' hi' h' a' w' hr'=>Zs hτ hκ hX hl' h' hr' λs'' a'' w'' hj h'' hr''=>hk s'' a'' w'' (hi'.trans hj) h'' hr'';have run:∀(kn':List Nat)(s1:St),Aa s s1→BG P cx s1 a w→(match YtgpdnmfpgkkgcaaGreatDoor.stepU τ κ dst op s1 with|some (ob,s')=>M7 ob (GP τ κ X ops.toList l kn' s' k)|none=>X ⟨dst,op,ty,po,af,none⟩ s1 λs'=>GP τ κ X ops.toList l kn' s' k)→Oper.wpIn (fz r) 0 P ⟨dst,op,ty,po,af,guard⟩ a w (wpOpsIn (fz r) 0 P ops Q is) Q:=by
      intro kn' s1 hi1 hr1 h1;split at h1;·rename_i ob s' hs;obtain⟨ho,h2⟩:=V8 h1;exact ZEU (o:=⟨dst,op,ty,po,af,guard⟩) hτ hκ hs ho hr1 (next kn' s' (hi1.trans (Aa.stepU hs)) h2)
      ·exact ZE9 (g:=none) (hX ⟨dst,op,ty,po,af,none⟩ s1 _ a w _ Q rfl h1 hr1 λs' a' w' hj h2 RK=>next kn' s' (hi1.trans hj) h2 a' w' RK)
    cases guard with|none=>simp only[GP]at h;rw[ZGE (by simp[Region.wanted])];exact run kn s (.refl s) hr h|some jw=>
      obtain⟨j,want⟩:=jw;simp only[GP]at h;split at h;·exact h.elim
      · rename_i gd Iw;split at h;·exact h.elim
        · rename_i g hg;have hw:Region.wanted ⟨dst,op,ty,po,af,some (j,want)⟩ (yielded ops a.tmps)=g:=by obtain⟨E,_,r1⟩:=id hr;exact uJ rfl Iw hg (r1.rep gd)
          rw[hw];have skip:∀(kn':List Nat)(s1 s':St),Aa s s1→BG P cx s1 a w→s1.setT dst .any=some s'→GP τ κ X ops.toList l kn' s' k→(∀f,Oper.about P w a.eval ⟨dst,op,ty,po,af,some (j,want)⟩=some f→(fz r).fn f)∧wpOpsIn (fz r) 0 P ops Q is (a.put dst undef) w:=λkn' s1 s' hi1 hr1 hs h1=>⟨λ_ _=>trivial,by obtain⟨E,rfl,r1⟩:=hr1;exact next kn' s' (hi1.trans (Aa.setT hs)) h1 _ _ ⟨E,rfl,BS.setT r1 hs (.any _)⟩⟩;split at h;·cases g with|true=>exact run kn s (.refl s) hr h|false=>
              simp only[ZF9]at h;rw[ZGA (by simp)];split at h;·rename_i s' hs;exact skip kn s s' (.refl s) hr hs h
              ·exact h.elim
          · split at h;·rename_i ob s' hs;obtain⟨ho,h2⟩:=V8 h;have :=ZET (o:=⟨dst,op,ty,po,af,some (j,want)⟩) (r:=r) (Q:=Q) hτ hκ hs ho hr (next kn s' (Aa.stepG hs) h2);cases g with|true=>exact this.1 rfl|false=>rw[ZGA (by simp)];exact⟨λ_ _=>trivial,this.2 rfl⟩
            · split at h
              · rename_i b hb;have lK:g=true∧b=want∨g=false∧b=!want:=by rw[hb]at hg;simp only[Qj]at hg;cases want<;>cases b<;>cases hg<;>simp
                cases g with
                |true=>
                  simp only[ZGC]at h;have e:b=want:=by simpa using lK
                  split at h;·rename_i s1 DD;exact run (j::kn) s1 (Aa.setT DD) (hr.setT_same DD λE r1=>by have :=r1.rep gd;rw[hb,e]at this;exact this) h
                  ·exact h.elim|false=>
                  simp only[ZF9]at h;have e:b=!want:=by simpa using lK
                  rw[ZGA (by simp)];split at h
                  · rename_i s1 DD;split at h;·rename_i s' hs';exact skip (j::kn) s1 s' (Aa.setT DD) (hr.setT_same DD λE r1=>by have :=r1.rep gd;rw[hb,e]at this;exact this) hs' h
                    ·exact h.elim
                  ·exact h.elim
              ·exact h.elim
end
section
variable {P : Program} {τ : Ap} {κ : A2}
def AF.cut(E:AF)(n:Nat):AF:=⟨E.w,E.S,λl=>if l<n then E.loc l else none⟩
theorem Jq{E:AF}{n l:Nat}{L:Ai}(h:E.loc l=some L)(hl:l<n):(E.cut n).loc l=some L:=by simp only[AF.cut,ZGE hl,h]
def KN(P:Program)(n:Nat)(v:V):Prop:=∀E c,AC P E v c→AC P (E.cut n) v c
theorem KN.of{E0:AF}{n:Nat}(hf:∀l,n≤l→E0.loc l=none){v:V}{c0:Value}(r:AC P E0 v c0):KN P n v:=by
 have Ab:∀{l L},E0.loc l=some L→l<n:=λ{l L}h=>ZId λhle=>by rw[hf l hle]at h;cases h
 induction r with
 |any v=>exact λE c _=>.any c|d hc=>intro E c r;cases r with|d h=>exact .d h
 |nilp=>intro E c r;cases r;exact .nilp|nilf=>intro E c r;cases r;exact .nilf|nils a=>intro E c r;cases r with|nils a=>exact .nils a
 |nilm=>intro E c r;cases r;exact .nilm|fn h1 h2 _ _ i1 i2=>intro E c r;cases r with|fn k1 k2 k3 k4=>exact .fn k1 k2 (λj hj=>i1 j hj _ _ (k3 j hj)) λj hj=>i2 j hj _ _ (k4 j hj)
 |agg h1 _ i1=>intro E c r;cases r with|agg k1 k2=>exact .agg k1 λj hj=>i1 j hj _ _ (k2 j hj)
 |tup h1 _ i1=>intro E c r;cases r with|tup k1 k2=>exact .tup k1 λj hj=>i1 j hj _ _ (k2 j hj)
 |er c hb hc _ i=>intro E c r;cases r with|er c' k1 k2 k3=>exact .er c' k1 k2 λj hj=>i j hj _ _ (k3 j hj)
 |ref k=>intro E c r;cases r with|ref h=>exact .ref (Jq h (Ab k))
 |rref k=>intro E c r;cases r with|rref h=>exact .rref (Jq h (Ab k))
 |osl k=>intro E c r;cases r with|osl h=>exact .osl (Jq h (Ab k))
 |osp k kp=>intro E c r;cases r with|osp h hp=>exact .osp (Jq h (Ab k)) hp
 |map k=>intro E c r;cases r with|map h=>exact .map (Jq h (Ab k))
 |when h1 h2 i1=>intro E c r;cases r with|when k1 k2=>exact .when (λe=>i1 e _ _ (k1 e)) k2
 |opt h1 h2 i1=>intro E c r;cases r with|opt k1 k2=>exact .opt (λe=>i1 e _ _ (k1 e)) k2
 |pf k=>intro E c r;cases r with|pf h=>exact .pf h
 |yl k=>intro E c r;cases r with|yl h=>exact .yl (Jq h (Ab k))
 |bsl k=>intro E c r;cases r with|bsl h=>exact .bsl (Jq h (Ab k))
def M3(P:Program)(n:Nat)(o:Obj):Prop:=∀E L,Ay P E L o→Ay P (E.cut n) L o
theorem sS{E0:AF}{n:Nat}(hf:∀l,n≤l→E0.loc l=none){t:Ty}{xs:List (List t.den)}{s:List V}{m:Nat}{L0:Ai}(h:Ay P E0 L0 (.vrow t xs s m)):∀j,j<s.length→KN P n (s.getD j .any):=by
 intro j hj;obtain⟨h1,h2,h3,e',cs',h4,h5|⟨cur',h5,h6,h7,h8,h9,Bx,FC,C1,G8⟩⟩:=h;·rw[h5.2]at h3;omega
 ·exact KN.of hf (C1 j hj)
theorem M3.vrow{n:Nat}{t:Ty}{xs:List (List t.den)}{s:List V}{m:Nat}(h:∀j,j<s.length→KN P n (s.getD j .any)):M3 P n (.vrow t xs s m):=by
 intro E L k;obtain⟨k1,k2,k3,e,cs,k4,k5⟩:=k;refine⟨k1,k2,k3,e,cs,k4,?_⟩;rcases k5 with k5|⟨cur,k5,k6,k7,k8,k9,k10,k11,k12,k13⟩;·exact .inl k5
 ·exact .inr ⟨cur,k5,k6,k7,k8,k9,k10,k11,λj hj=>h j hj _ _ (k12 j hj),k13⟩
theorem M3.of{E0:AF}{n:Nat}(hf:∀l,n≤l→E0.loc l=none){o:Obj}{L0:Ai}(h:Ay P E0 L0 o):M3 P n o:=by intro E L k;cases o with|dead=>trivial|box cs=>obtain⟨_,_,_,_,h3⟩:=h;obtain⟨vals,t,k1,k2,k3⟩:=k;exact⟨vals,t,k1,k2,λj hj=>KN.of hf (h3 j hj) _ _ (k3 j hj)⟩|row t xs=>exact k|vrow t xs s m=>exact M3.vrow (sS hf h) E L k|smap t m=>exact k|imap t m=>exact k|lrec nt tmps ps a b st j=>obtain⟨_,_,_,h3,_⟩:=h;obtain⟨r,k1,k2,k3,k4⟩:=k;exact⟨r,k1,k2,λt=>KN.of hf (h3 t) _ _ (k3 t),k4⟩|dfb=>exact k
theorem E5.cut{E0 E:AF}{n:Nat}(hf:∀l,n≤l→E0.loc l=none):∀{df:List Df}{d0 ds:List Deferred},E5 P E0 df d0→E5 P E df ds→E5 P (E.cut n) df ds|[],_,_,_,h=>h|.mark l::r,_,_,⟨_,_,_,⟨K0,h2,_⟩,h3⟩,⟨L,rest,k1,⟨K,k2,k3⟩,k4⟩=>⟨L,rest,k1,⟨K,Jq k2 (ZId λhle=>by rw[hf l hle]at h2;cases h2),k3⟩,h3.cut hf k4⟩|.fn g cs::r,_,_,⟨_,_,_,h2,h3⟩,⟨q,rest,k1,k2,k3⟩=>⟨q,rest,k1,⟨k2.1,λj hj=>KN.of hf (h2.2 j hj) _ _ (k2.2 j hj)⟩,h3.cut hf k3⟩
inductive Vy where|t(t:Nat)(T:Ty)|cell(l j:Nat)(T:Ty)|row(l:Nat)(T:Ty)|vrow(l:Nat)(T:Ty)(k:Option Nat)|smap(l:Nat)(T:Ty)|imap(l:Nat)(T:Ty)
@[reducible]def Vy.den:Vy→Type|.t _ T=>T.den|.cell _ _ T=>T.den|.row _ T=>List T.den|.vrow _ T _=>List (List T.den)×Nat|.smap _ T=>ByteArray→Option T.den|.imap _ T=>Int→Option T.den
@[reducible]def FA:List Vy→Type|[]=>Unit|[v]=>v.den|v::u::l=>v.den×FA (u::l)
structure LA where
 vs:List Vy
 es:List Nat
 an:List Nat
 dd:List Nat
def NK(l j:Nat):(v:Vy)→v.den→Option V
 |.cell k i T,y=>match Nat.beq k l with
  |true=>match Nat.beq i j with|true=>some (Ij T y)|false=>none
  |false=>none
 |_,_=>none
def sR:Option Nat→List V|none=>[]|some k=>[.osl k]
def IC(l:Nat):(v:Vy)→v.den→Option Obj
 |.row k T,y=>match Nat.beq k l with|true=>some (.row T y)|false=>none
 |.vrow k T so,y=>match Nat.beq k l with|true=>some (.vrow T y.1 (sR so) y.2)|false=>none
 |.smap k T,y=>match Nat.beq k l with|true=>some (.smap T y)|false=>none
 |.imap k T,y=>match Nat.beq k l with|true=>some (.imap T y)|false=>none
 |_,_=>none
def ID{α:Type}(f:(v:Vy)→v.den→Option α):(vs:List Vy)→FA vs→Option α|[],_=>none|[v],y=>f v y|v::u::l,y=>match f v y.1 with|some r=>some r|none=>ID f (u::l) y.2
def Vy.key:Vy→Option Nat|.t _ _=>none|.cell l _ _|.row l _|.vrow l _ _|.smap l _|.imap l _=>some l
def HQ:List Vy→List Nat|[]=>[]|v::r=>match v.key with
 |some l=>match B7 l (HQ r)with|true=>HQ r|false=>l::HQ r
 |none=>HQ r
def Mh(vs:List Vy)(y:FA vs)(l:Nat):Nat→List V→List V|_,[]=>[]|j,v::r=>(match ID (NK l j) vs y with|some u=>u|none=>v)::Mh vs y l (j+1) r
def Zl(vs:List Vy)(dd:List Nat)(y:FA vs)(l:Nat)(o:Obj):Obj:=match B7 l dd with|true=>.dead|false=>match ID (IC l) vs y with|some o'=>o'|none=>match o with|.box cs=>.box (Mh vs y l 0 cs)|o=>o
def Kf(vs:List Vy)(dd:List Nat)(y:FA vs)(objs:AH):List Nat→AH|[]=>objs|l::ks=>match AB l objs with|some o=>(l,Zl vs dd y l o)::Kf vs dd y objs ks|none=>Kf vs dd y objs ks
def M6:List Nat→List (Nat×V)→List (Nat×V)|[],tm=>tm|t::r,tm=>(t,.any)::M6 r tm
def JS:(vs:List Vy)→FA vs→List (Nat×V)→List (Nat×V)
 |[],_,tm=>tm|[v],y,tm=>match v,y with|.t t T,y=>(t,Ij T y)::tm|_,_=>tm
 |v::u::l,y,tm=>match v,y with|.t t T,y=>(t,Ij T y.1)::JS (u::l) y.2 tm|_,y=>JS (u::l) y.2 tm
def LA.keys(la:LA):List Nat:=HQ la.vs++la.dd
def LA.tmps:List Vy→List Nat|[]=>[]|.t t _::r=>t::LA.tmps r|_::r=>LA.tmps r
def head(la:LA)(s:St)(y:FA la.vs):St:=match la,s,y with|⟨vs,es,an,dd⟩,⟨nt,tmps,objs,nx,df,wr,di,mv⟩,y=>match HQ vs++dd with|ks=>⟨nt,M6 an (JS vs y tmps),Kf vs dd y objs ks,nx,df,[],[],ks++mv⟩
mutual
def V.eqb:V→V→Bool
 |.any,.any=>true|.nilp,.nilp=>true|.nilf,.nilf=>true|.nils,.nils=>true|.nilm,.nilm=>true|.fn (.func f) a b,v=>match v with
  |.fn (.func g) a' b'=>match Nat.beq f g with
   |true=>match JM a a' with|true=>JM b b'|false=>false
   |false=>false
  |_=>false
 |.agg a,v=>match v with|.agg b=>JM a b|_=>false
 |.er a,v=>match v with|.er b=>JM a b|_=>false
 |.ref l o,v=>match v with
  |.ref k q=>match Nat.beq l k with|true=>Nat.beq o q|false=>false
  |_=>false
 |.osl l,v=>match v with|.osl k=>Nat.beq l k|_=>false
 |.map l,v=>match v with|.map k=>Nat.beq l k|_=>false
 |.yl l,v=>match v with|.yl k=>Nat.beq l k|_=>false
 |.bsl l n,v=>match v with
  |.bsl k m=>match Nat.beq l k with|true=>Nat.beq n m|false=>false
  |_=>false
 |_,_=>false
def JM:List V→List V→Bool
 |[],[]=>true|v::l,u::m=>match V.eqb v u with|true=>JM l m|false=>false
 |_,_=>false
end
mutual
theorem XG:∀{a b:V},a.eqb b=true→a=b
 |.any,b,h=>by cases b<;>first|rfl|(simp[V.eqb]at h)
 |.nilp,b,h=>by cases b<;>first|rfl|(simp[V.eqb]at h)
 |.nilf,b,h=>by cases b<;>first|rfl|(simp[V.eqb]at h)
 |.nils,b,h=>by cases b<;>first|rfl|(simp[V.eqb]at h)
 |.nilm,b,h=>by cases b<;>first|rfl|(simp[V.eqb]at h)
 |.fn f a b,v,h=>by
  cases f<;>try(simp[V.eqb]at h;done)
  cases v<;>try(simp[V.eqb]at h;done)
  rename_i g a' b';cases g<;>try(simp[V.eqb]at h;done)
  simp only[V.eqb]at h;split at h
  ·rename_i h1;split at h;·rename_i h2;rw[ZGJ h1,MB h2,MB h]
   ·cases h
  ·cases h|.agg a,v,h=>by
  cases v<;>simp only[V.eqb]at h<;>try(cases h;done)
  rw[MB h]|.er a,v,h=>by
  cases v<;>simp only[V.eqb]at h<;>try(cases h;done)
  rw[MB h]|.ref l o,v,h=>by
  cases v<;>simp only[V.eqb]at h<;>try(cases h;done)
  split at h;·rename_i h1;rw[ZGJ h1,ZGJ h]
  ·cases h|.osl l,v,h=>by
  cases v<;>simp only[V.eqb]at h<;>try(cases h;done)
  rw[ZGJ h]|.map l,v,h=>by
  cases v<;>simp only[V.eqb]at h<;>try(cases h;done)
  rw[ZGJ h]|.yl l,v,h=>by
  cases v<;>simp only[V.eqb]at h<;>try(cases h;done)
  rw[ZGJ h]|.bsl l n,v,h=>by
  cases v<;>simp only[V.eqb]at h<;>try(cases h;done)
  split at h;·rename_i h1;rw[ZGJ h1,ZGJ h]
  ·cases h|.d _ _,_,h=>by simp[V.eqb]at h|.tup _,_,h=>by simp[V.eqb]at h|.rref ..,_,h=>by simp[V.eqb]at h|.osp ..,_,h=>by simp[V.eqb]at h|.when ..,_,h=>by simp[V.eqb]at h|.opt ..,_,h=>by simp[V.eqb]at h|.pf ..,_,h=>by simp[V.eqb]at h
theorem MB:∀{a b:List V},JM a b=true→a=b
 |[],[],_=>rfl|v::l,u::m,h=>by
  simp only[JM]at h;split at h;·rename_i h1;rw[XG h1,MB h]
  ·cases h|[],_::_,h=>by simp[JM]at h|_::_,[],h=>by simp[JM]at h
end
def KX(s:St):(v:Vy)→Option v.den
 |.t t T=>getD T (Ag t s.tmps)|.cell l j T=>match AB l s.objs with|some (.box cs)=>getD T (cs.getD j .any)|_=>none
 |.row l T=>match AB l s.objs with|some (.row T' xs)=>if h:T'=T then some (h▸xs)else none|_=>none
 |.vrow l T so=>match AB l s.objs with
  |some (.vrow T' xs cs m)=>match JM cs (sR so)with|true=>if h:T'=T then some (h▸xs,m)else none|false=>none
  |_=>none
 |.smap l T=>match AB l s.objs with|some (.smap T' m)=>if h:T'=T then some (h▸m)else none|_=>none
 |.imap l T=>match AB l s.objs with|some (.imap T' m)=>if h:T'=T then some (h▸m)else none|_=>none
def O1(s:St):(vs:List Vy)→Option (FA vs)|[]=>some ()|[v]=>KX s v|v::u::l=>match KX s v with
 |some x=>match O1 s (u::l)with|some y=>some (x,y)|none=>none
 |none=>none
def frzT(t:Nat):Nat→St→St|0,s=>s|n+1,s=>match(Ag t s.tmps).fk with|none=>s|some l=>match s.freeze l with|⟨nt,tmps,objs,nx,df,wr,di,mv⟩=>frzT t n ⟨nt,tmps,objs,nx,df,wr,di,mv⟩
def frzC(l j:Nat):Nat→St→St|0,s=>s|n+1,s=>match AB l s.objs with
 |some (.box cs)=>match(cs.getD j .any).fk with|none=>s|some k=>match s.freeze k with|⟨nt,tmps,objs,nx,df,wr,di,mv⟩=>frzC l j n ⟨nt,tmps,objs,nx,df,wr,di,mv⟩
 |_=>s
def frzVs:List Vy→St→St|[],s=>s|.t t _::r,s=>frzVs r (frzT t 5 s)|.cell l j _::r,s=>frzVs r (frzC l j 5 s)|_::r,s=>frzVs r s
def MW(l j:Nat):List Vy→Bool
 |[]=>false|.cell k i _::r=>match Nat.beq k l with
  |true=>match Nat.beq i j with|true=>true|false=>MW l j r
  |false=>MW l j r
 |_::r=>MW l j r
def Kv(l:Nat):List Vy→Bool
 |[]=>false|.row k _::r|.vrow k _ _::r|.smap k _::r|.imap k _::r=>match Nat.beq k l with|true=>true|false=>Kv l r
 |_::r=>Kv l r
def JK(vs:List Vy)(l:Nat):Nat→List V→List V→Bool
 |_,[],[]=>true|j,a::l1,b::l2=>match MW l j vs with|true=>JK vs l (j+1) l1 l2|false=>match a.eqb b with|true=>JK vs l (j+1) l1 l2|false=>false
 |_,_,_=>false
def Uf(vs:List Vy)(dd:List Nat)(o0 o1:AH)(l:Nat):Bool:=match AB l o1 with|none=>false|some p=>match AB l o0 with|none=>false|some q=>match B7 l dd with|true=>true|false=>match Kv l vs with
 |true=>match p with
  |.vrow _ _ c1 _=>match q with|.vrow _ _ c0 _=>JM c1 c0|_=>false
  |_=>true
 |false=>match p with
  |.box cs1=>match q with|.box cs=>JK vs l 0 cs cs1|_=>false
  |_=>false
def Ug(vs:List Vy)(dd:List Nat)(o0 o1:AH):List Nat→Bool|[]=>true|l::r=>match Uf vs dd o0 o1 l with|true=>Ug vs dd o0 o1 r|false=>false
def OP(la:LA)(t0 t1:List (Nat×V)):List Nat→Bool|[]=>true|t::r=>match B7 t la.an with|true=>OP la t0 t1 r|false=>match B7 t (LA.tmps la.vs)with|true=>OP la t0 t1 r|false=>match B7 t la.es with
 |true=>match(Ag t t0).eqb (Ag t t1)with|true=>OP la t0 t1 r|false=>false
 |false=>false
def SP(ks:List Nat)(nx:Nat):List Nat→Bool|[]=>true|l::r=>match Nat.ble nx l with|true=>SP ks nx r|false=>match B7 l ks with|true=>SP ks nx r|false=>false
def NE(ks:List Nat)(nx:Nat)(o0 o1:AH):List Nat→Bool|[]=>true|l::r=>match Nat.ble nx l with|true=>NE ks nx o0 o1 r|false=>match B7 l ks with|true=>NE ks nx o0 o1 r|false=>match AB l o0 with
 |some (.box cs)=>match AB l o1 with
  |some (.box cs1)=>match JM cs cs1 with|true=>NE ks nx o0 o1 r|false=>false
  |_=>false
 |_=>false
def back(la:LA)(s0 s:St):Option (FA la.vs):=match frzVs la.vs s with|s1=>match O1 s1 la.vs with|none=>none|some y=>match OP la s0.tmps s1.tmps s1.wr with|false=>none|true=>match B7 s0.nt s1.wr with|true=>none|false=>match NE la.keys s0.nx s0.objs s1.objs s1.di with|false=>none|true=>match SP (la.keys++s0.mv) s0.nx s1.mv with|false=>none|true=>match Ug la.vs la.dd s0.objs s1.objs la.keys with|false=>none|true=>some y
end
section
variable {P : Program} {τ : Ap} {κ : A2}
theorem Ss{E:AF}{T:Ty}{x:T.den}{lo:Nat→Option Ai}{c:Value}(h:M2 E.w E.S T x c):AC P ⟨E.w,E.S,lo⟩ (Ij T x) c:=QB h
theorem lF{E:AF}{lo:Nat→Option Ai}{s1:St}{t:Nat}{c:Value}{tm:List (Nat×V)}(hr:AC P E (Ag t s1.tmps) c):∀{vs:List Vy}{y:FA vs},O1 s1 vs=some y→(t∉LA.tmps vs→AC P ⟨E.w,E.S,lo⟩ (Ag t tm) c)→AC P ⟨E.w,E.S,lo⟩ (Ag t (JS vs y tm)) c
 |[],_,_,h=>h (by simp[LA.tmps])|[v],y,hy,h=>by cases v with
  |t u T=>
   simp only[JS,DG];split;·rename_i e;subst e;exact Ss (MD hy hr)
   ·rename_i e;exact h (by simp[LA.tmps];exact ZG6 e)|_=>exact h (by simp[LA.tmps])
 |v::u::l,y,hy,h=>by
  simp only[O1]at hy;split at hy
  ·rename_i x hx;split at hy;·rename_i y' hy';cases hy;have ih:=λh'=>lF (E:=E) (lo:=lo) (tm:=tm) hr (vs:=u::l) (y:=y') hy' h';cases v with
    |t w T=>
     simp only[JS,DG];split;·rename_i e;subst e;exact Ss (MD hx hr)
     ·rename_i e;exact ih λhn=>h (by simp only[LA.tmps,ZGe,ZGx];exact⟨ZG6 e,hn⟩)|_=>exact ih h
   ·cases hy
  ·cases hy
theorem V7{t:Nat}{tm:List (Nat×V)}:∀an:List Nat,Ag t (M6 an tm)=if t∈an then .any else Ag t tm
 |[]=>by simp[M6]|u::r=>by
  simp only[M6,DG,V7 r,ZGe];by_cases e:u=t;·simp[e]
  ·rw[ZGA e];by_cases h:t∈r;·rw[ZGE h,ZGE (.inr h)]
   ·rw[ZGA h,ZGA (by rintro(h'|h');exact e h'.symm;exact h h')]
theorem PA{vs:List Vy}{dd:List Nat}{y:FA vs}{objs:AH}{l:Nat}:∀ks:List Nat,AB l (Kf vs dd y objs ks)=if l∈ks then(AB l objs).map (Zl vs dd y l)else AB l objs
 |[]=>by simp[Kf]|k::ks=>by
  simp only[Kf];split
  ·rename_i o ho;rw[BA];split;·rename_i e;subst e;simp[ho]
   ·rename_i e;rw[PA ks];by_cases h:l∈ks;·rw[ZGE h,ZGE (ZGK _ h)]
    ·rw[ZGA h,ZGA (by simp only[ZGe,ZGx];exact⟨ZG6 e,h⟩)]
  ·rename_i ho;rw[PA ks];by_cases h:l∈ks;·rw[ZGE h,ZGE (ZGK _ h)]
   ·by_cases e:l=k;·subst e;rw[ZGA h,ZGE ZI1,ho];rfl
    ·rw[ZGA h,ZGA (by simp only[ZGe,ZGx];exact⟨e,h⟩)]
theorem XN{α:Type}{f:(v:Vy)→v.den→Option α}{s1:St}:∀{vs:List Vy}{y:FA vs}{r:α},O1 s1 vs=some y→ID f vs y=some r→∃v x,v∈vs∧KX s1 v=some x∧f v x=some r
 |[],_,_,_,h=>by cases h|[v],y,r,hy,h=>⟨v,y,by simp,hy,h⟩|v::u::l,y,r,hy,h=>by
  simp only[O1]at hy;split at hy
  ·rename_i x hx;split at hy
   ·rename_i y' hy';cases hy;simp only[ID]at h;split at h;·rename_i r' hr';cases h;exact⟨v,x,by simp,hx,hr'⟩
    ·obtain⟨v',x',h1,h2,h3⟩:=XN (vs:=u::l) hy' h;exact⟨v',x',ZGK _ h1,h2,h3⟩
   ·cases hy
  ·cases hy
theorem ZAi{s1:St}{l:Nat}{v:Vy}{x:v.den}{o:Obj}(h1:KX s1 v=some x)(h2:IC l v x=some o):AB l s1.objs=some o:=by cases v with
 |t _ _=>cases h2|cell _ _ _=>cases h2|row k T=>
  simp only[IC]at h2;split at h2
  ·rename_i e;cases h2;have :=ZGJ e;subst this;simp only[KX]at h1;split at h1
   ·rename_i T' xs ho;split at h1;·rename_i e;subst e;cases h1;exact ho
    ·cases h1
   ·cases h1
  ·cases h2|vrow k T so=>
  simp only[IC]at h2;split at h2
  ·rename_i e;cases h2;have :=ZGJ e;subst this;simp only[KX]at h1;split at h1
   ·rename_i T' xs cs m ho;split at h1
    ·rename_i hc;split at h1;·rename_i e;subst e;cases h1;rw[MB hc]at ho;exact ho
     ·cases h1
    ·cases h1
   ·cases h1
  ·cases h2|smap k T=>
  simp only[IC]at h2;split at h2
  ·rename_i e;cases h2;have :=ZGJ e;subst this;simp only[KX]at h1;split at h1
   ·rename_i T' xs ho;split at h1;·rename_i e;subst e;cases h1;exact ho
    ·cases h1
   ·cases h1
  ·cases h2|imap k T=>
  simp only[IC]at h2;split at h2
  ·rename_i e;cases h2;have :=ZGJ e;subst this;simp only[KX]at h1;split at h1
   ·rename_i T' xs ho;split at h1;·rename_i e;subst e;cases h1;exact ho
    ·cases h1
   ·cases h1
  ·cases h2
theorem ZAh{s1:St}{l j:Nat}{v:Vy}{x:v.den}{u:V}{cs:List V}{E:AF}{c:Value}{lo:Nat→Option Ai}(h1:KX s1 v=some x)(h2:NK l j v x=some u)(ho:AB l s1.objs=some (.box cs))(r:AC P E (cs.getD j .any) c):AC P ⟨E.w,E.S,lo⟩ u c:=by cases v with
 |cell k i T=>
  simp only[NK]at h2;split at h2
  ·rename_i e1;split at h2;·rename_i e2;cases h2;have :=ZGJ e1;subst this;have :=ZGJ e2;subst this;simp only[KX,ho]at h1;exact Ss (MD h1 r)
   ·cases h2
  ·cases h2|_=>cases h2
theorem ZCF{vs:List Vy}{y:FA vs}{l:Nat}(h:Kv l vs=false):ID (IC l) vs y=none:=by induction vs with|nil=>rfl|cons v r ih=>
 have h1:∀x,IC l v x=none:=λx=>by cases v<;>simp only[Kv]at h<;>simp only[IC];all_goals(split at h;cases h;first|rfl|(rename_i e;rw[e]))
 have h2:Kv l r=false:=by cases v<;>simp only[Kv]at h<;>first|exact h|(split at h;cases h;exact h)
 cases r with|nil=>exact h1 y|cons u l'=>simp only[ID];rw[h1];exact ih h2
theorem oB{s1:St}{l:Nat}:∀{vs:List Vy}{y:FA vs},Kv l vs=true→∃o,ID (IC l) vs y=some o
 |[],_,h=>by cases h|[v],y,h=>by
  cases v<;>simp only[Kv]at h<;>try(cases h;done)
  all_goals(split at h<;>try(cases h;done));rename_i e;simp only[ID,IC,e];exact⟨_,rfl⟩|v::u::l',y,h=>by
  simp only[ID];split;·exact⟨_,rfl⟩
  ·rename_i hn;refine oB (s1:=s1) ?_;cases v<;>simp only[Kv]at h⊢<;>first|exact h|skip
   all_goals(split at h;rename_i e;simp only[IC,e]at hn;cases hn;exact h)
theorem WR{vs:List Vy}{l:Nat}:∀{j:Nat}{a b:List V},JK vs l j a b=true→a.length=b.length
 |_,[],[],_=>rfl|j,a::l1,b::l2,h=>by
  simp only[JK]at h;split at h;·simp[WR h]
  ·split at h;·simp[WR h]
   ·cases h|_,[],_::_,h=>by simp[JK]at h|_,_::_,[],h=>by simp[JK]at h
theorem nZ{l j:Nat}:∀{vs:List Vy}{y:FA vs},MW l j vs=true→∃o,ID (NK l j) vs y=some o
 |[],_,h=>by cases h|[v],y,h=>by
  cases v<;>simp only[MW]at h<;>try(cases h;done)
  split at h<;>try(cases h;done)
  rename_i e1;split at h<;>try(cases h;done)
  rename_i e2;simp only[ID,NK,e1,e2];exact⟨_,rfl⟩|v::u::l',y,h=>by
  simp only[ID];split;·exact⟨_,rfl⟩
  ·rename_i hn;refine nZ ?_;cases v<;>simp only[MW]at h⊢<;>first|exact h|skip
   split at h
   ·rename_i e1;split at h;·rename_i e2;simp only[NK,e1,e2]at hn;cases hn
    ·exact h
   ·exact h
theorem Zk{vs:List Vy}{y:FA vs}{l:Nat}:∀{j:Nat}{cs:List V},(Mh vs y l j cs).length=cs.length|_,[]=>rfl|j,v::r=>by simp only[Mh,ZGL,Zk]
theorem qI{vs:List Vy}{y:FA vs}{l:Nat}:∀{j:Nat}{cs:List V}{i:Nat},i<cs.length→(Mh vs y l j cs).getD i .any=match ID (NK l (j+i)) vs y with|some u=>u|none=>cs.getD i .any
 |_,[],i,h=>by simp at h|j,v::r,0,_=>by first|(simp[Mh];done)|(simp[Mh];rfl)
 |j,v::r,i+1,h=>by simp only[Mh,ZIu];rw[qI (by simpa using h),show j+1+i=j+(i+1)from by omega]
theorem eP{vs:List Vy}{l:Nat}:∀{j:Nat}{a b:List V}{i:Nat},JK vs l j a b=true→i<a.length→MW l (j+i) vs=true∨a.getD i .any=b.getD i .any
 |_,[],_,_,_,h=>by simp at h|j,a::l1,[],_,h,_=>by simp[JK]at h|j,a::l1,b::l2,0,h,_=>by
  simp only[JK]at h;split at h;·rename_i e;exact .inl e
  ·split at h;·rename_i e;exact .inr (by simpa using XG e)
   ·cases h|j,a::l1,b::l2,i+1,h,hi=>by
  have h':JK vs l (j+1) l1 l2=true:=by
   simp only[JK]at h;split at h;·exact h
   ·split at h;·exact h
    ·cases h
  have :=eP (i:=i) h' (by simpa using hi);rw[show j+1+i=j+(i+1)from by omega]at this;simpa using this
theorem ZM{vs:List Vy}{dd:List Nat}{o0 o1:AH}:∀{ks:List Nat},Ug vs dd o0 o1 ks=true→∀l∈ks,Uf vs dd o0 o1 l=true
 |[],_,l,h=>by simp at h|k::r,h,l,hl=>by
  simp only[Ug]at h;split at h
  ·rename_i h1;rcases List.mem_cons.1 hl with rfl|hl;·exact h1
   ·exact ZM h l hl
  ·cases h
theorem bS{ks:List Nat}{nx:Nat}:∀{r:List Nat},SP ks nx r=true→∀l∈r,nx≤l∨l∈ks
 |[],_,l,h=>by simp at h|k::r,h,l,hl=>by
  simp only[SP]at h;split at h
  ·rename_i h1;rcases List.mem_cons.1 hl with rfl|hl;·exact .inl (ZGk h1)
   ·exact bS h l hl
  ·split at h
   ·rename_i h1;rcases List.mem_cons.1 hl with rfl|hl;·exact .inr (F3.1 h1)
    ·exact bS h l hl
   ·cases h
theorem Wg{ks:List Nat}{nx:Nat}{o0 o1:AH}:∀{r:List Nat},NE ks nx o0 o1 r=true→∀l∈r,nx≤l∨l∈ks∨∃cs,AB l o0=some (.box cs)∧AB l o1=some (.box cs)
 |[],_,l,h=>by simp at h|k::r,h,l,hl=>by
  simp only[NE]at h;have key:(l=k→nx≤l∨l∈ks∨∃cs,AB l o0=some (.box cs)∧AB l o1=some (.box cs))→NE ks nx o0 o1 r=true→nx≤l∨l∈ks∨∃cs,AB l o0=some (.box cs)∧AB l o1=some (.box cs):=λh1 h2=>(List.mem_cons.1 hl).elim h1 (Wg h2 l);split at h;·rename_i h1;exact key (λe=>.inl (e▸ZGk h1)) h
  ·split at h;·rename_i h1;exact key (λe=>.inr (.inl (e▸F3.1 h1))) h
   ·split at h
    ·rename_i cs h0;split at h
     ·rename_i cs1 h2;split at h;·rename_i h3;exact key (λe=>.inr (.inr ⟨cs,e▸h0,by rw[e,h2,MB h3]⟩)) h
      ·cases h
     ·cases h
    ·cases h
theorem uS{la:LA}{t0 t1:List (Nat×V)}:∀{r:List Nat},OP la t0 t1 r=true→∀t∈r,t∈la.an∨t∈LA.tmps la.vs∨Ag t t0=Ag t t1
 |[],_,l,h=>by simp at h|k::r,h,t,ht=>by
  simp only[OP]at h;have key:(t=k→t∈la.an∨t∈LA.tmps la.vs∨Ag t t0=Ag t t1)→OP la t0 t1 r=true→t∈la.an∨t∈LA.tmps la.vs∨Ag t t0=Ag t t1:=λh1 h2=>(List.mem_cons.1 ht).elim h1 (uS h2 t);split at h;·rename_i h1;exact key (λe=>.inl (e▸F3.1 h1)) h
  ·split at h;·rename_i h1;exact key (λe=>.inr (.inl (e▸F3.1 h1))) h
   ·split at h
    ·split at h;·rename_i h1;exact key (λe=>.inr (.inr (e▸XG h1))) h
     ·cases h
    ·cases h
theorem cL{cx:Cx}(t:Nat):∀(n:Nat)(s:St),Wk P cx s (frzT t n s)
 |0,s=>.refl s|n+1,s=>by
  simp only[frzT];split;·exact .refl s
  ·rename_i l hl;exact(Sa l).trans (cL t n _)
theorem Aa.frzT(t:Nat):∀(n:Nat)(s:St),Aa s (frzT t n s)
 |0,s=>.refl s|n+1,s=>by
  simp only[YtgpdnmfpgkkgcaaGreatDoor.frzT];split;·exact .refl s
  ·rename_i l hl;exact(Aa.freeze l s).trans (Aa.frzT t n _)
theorem uR{cx:Cx}(l j:Nat):∀(n:Nat)(s:St),Wk P cx s (frzC l j n s)
 |0,s=>.refl s|n+1,s=>by
  simp only[frzC];split
  ·split;·exact .refl s
   ·exact(Sa _).trans (uR l j n _)
  ·exact .refl s
theorem Aa.frzC(l j:Nat):∀(n:Nat)(s:St),Aa s (frzC l j n s)
 |0,s=>.refl s|n+1,s=>by
  simp only[YtgpdnmfpgkkgcaaGreatDoor.frzC];split
  ·split;·exact .refl s
   ·exact(Aa.freeze _ s).trans (Aa.frzC l j n _)
  ·exact .refl s
theorem Sb{cx:Cx}:∀(vs:List Vy)(s:St),Wk P cx s (frzVs vs s)|[],s=>.refl s|v::r,s=>by cases v<;>simp only[frzVs]<;>first|exact Sb r s|exact(cL _ _ s).trans (Sb r _)|exact(uR _ _ _ s).trans (Sb r _)
theorem Aa.frzVs:∀(vs:List Vy)(s:St),Aa s (frzVs vs s)|[],s=>.refl s|v::r,s=>by cases v<;>simp only[YtgpdnmfpgkkgcaaGreatDoor.frzVs]<;>first|exact Aa.frzVs r s|exact(Aa.frzT _ _ s).trans (Aa.frzVs r _)|exact(Aa.frzC _ _ _ s).trans (Aa.frzVs r _)
end
section
variable {P : Program} {τ : Ap} {κ : A2}
structure Hd(la:LA)(s0 s:St):Prop where
 nt:s.nt=s0.nt
 nx:s0.nx≤s.nx
 tmp:∀t,t∉s.wr→t∉la.an→t∉LA.tmps la.vs→Ag t s.tmps=Ag t s0.tmps
 obj:∀l,l∉s.di→l∉la.keys→AB l s.objs=AB l s0.objs
 df:s0.nt∉s.wr→s.df=s0.df
theorem Hd.inv{la:LA}{s0 s s':St}(h:Hd la s0 s)(k:Aa s s'):Hd la s0 s':=⟨k.nt.trans h.nt,ZGd h.nx k.nx,λt h1 h2 h3=>(k.tmp t h1).trans (h.tmp t (λhm=>h1 (k.wr t hm)) h2 h3),λl h1 h2=>(k.obj l h1).trans (h.obj l (λhm=>h1 (k.di l hm)) h2),λh1=>(k.df (by rw[h.nt];exact h1)).trans (h.df λhm=>h1 (k.wr _ hm))⟩
def St.clr(s:St):St:=match s with|⟨nt,tmps,objs,nx,df,wr,di,mv⟩=>⟨nt,tmps,objs,nx,df,[],[],mv⟩
theorem Hd.clr(la:LA)(s0:St):Hd la s0 s0.clr:=⟨rfl,ZGR _,λ_ _ _ _=>rfl,λ_ _ _=>rfl,λ_=>rfl⟩
theorem YB{t:Nat}{tm:List (Nat×V)}:∀{vs:List Vy}{y:FA vs},t∉LA.tmps vs→Ag t (JS vs y tm)=Ag t tm
 |[],_,_=>rfl|[v],y,h=>by cases v with|t u T=>simp only[LA.tmps,ZGe,ZGx]at h;simp only[JS,DG];rw[ZGA (ZG6 h.1)]|_=>rfl
 |v::u::l,y,h=>by cases v with|t w T=>simp only[LA.tmps,ZGe,ZGx]at h;simp only[JS,DG];rw[ZGA (ZG6 h.1)];exact YB h.2|_=>simp only[JS];exact YB h
theorem Hd.head(la:LA)(s0:St)(y:FA la.vs):Hd la s0 (head la s0 y):=by
 obtain⟨vs,es,an,dd⟩:=la;obtain⟨nt,tmps,objs,nx,df,wr,di,mv⟩:=s0;refine⟨rfl,ZGR _,λt _ h2 h3=>?_,λl _ h2=>?_,λ_=>rfl⟩;·show Ag t (M6 an (JS vs y tmps))=Ag t tmps;rw[V7,ZGA h2];exact YB h3
 ·show AB l (Kf vs dd y objs (HQ vs++dd))=AB l objs;rw[PA,ZGA (show l∉HQ vs++dd from h2)]
theorem Zu{E E':AF}{objs DQ:AH}(tr:∀l o,AB l DQ=some o→∃o1 L,AB l objs=some o1∧E.loc l=some L∧E'.loc l=some L∧(∀L,o.has L→o1.has L)∧(Ay P E L o1→Ay P E' L o)){b:Nat}(h:Bp E' DQ b):Bp E objs b:=by obtain⟨l,o,L,h1,h2,h3,h4⟩:=h;obtain⟨o1,L1,k1,k2,k3,k4,k5⟩:=tr l o h1;rw[k3]at h2;cases h2;exact⟨l,o1,L,k1,k2,k4 L h3,h4⟩
theorem AE.sub{E E':AF}{objs DQ:AH}(g:AE P E objs)(hw:E'.w=E.w)(hS:E'.S=E.S)(tr:∀l o,AB l DQ=some o→∃o1 L,AB l objs=some o1∧E.loc l=some L∧E'.loc l=some L∧(∀L,o.has L→o1.has L)∧(Ay P E L o1→Ay P E' L o)):AE P E' DQ:=by
 refine⟨λl o h=>?_,λb h hs=>?_,λb hs=>?_,g.tab.mono λb hb=>⟨hS▸hb,by rw[hw]⟩,λi j p q K K' h1 h2 h3 h4 h5 h6 h7=>?_⟩;·obtain⟨o1,L1,k1,k2,k3,k4,k5⟩:=tr l o h;obtain⟨L,hL,ha⟩:=g.at_ l o1 k1;rw[k2]at hL;cases hL;exact⟨L1,k3,k5 ha⟩
 ·exact g.ns b (Zu tr h) (hS▸hs)
 ·rw[hw];exact g.sl b (hS▸hs)
 ·obtain⟨o1,L1,k1,k2,k3,k4,k5⟩:=tr i p h1;obtain⟨o2,L2,m1,m2,m3,m4,m5⟩:=tr j q h2;rw[k3]at h3;cases h3;rw[m3]at h4;cases h4;exact g.inj i j o1 o2 K K' k1 m1 k2 m2 (k4 _ h5) (m4 _ h6) h7
theorem WJ{cx:Cx}{la:LA}{s0 s:St}{y':FA la.vs}{a0:Act}{w0:World}(h0:BG P cx s0 a0 w0)(hd0:Hd la s0 s)(hb:back la s0 s=some y'){a:Act}{w:World}(hr:BG P cx s a w):BG P cx (head la s0 y') a w:=by
  unfold back at hb;have hr1:=Sb (P:=P) (cx:=cx) la.vs s a w hr;have hd:=hd0.inv (Aa.frzVs la.vs s);revert hb hr1 hd;generalize frzVs la.vs s=s1;intro hb hr1 hd;simp only at hb;split at hb;·cases hb
  · rename_i y hy;split at hb;·cases hb
    · rename_i nD;split at hb;·cases hb
      · rename_i Yg;split at hb;·cases hb
        · rename_i lA;split at hb;·cases hb
          · rename_i Gr;split at hb;·cases hb
            · rename_i IL;cases hb;obtain⟨E0,rfl,r0⟩:=h0;obtain⟨E,rfl,r⟩:=hr1;have hf:=r0.fresh;have Ab:∀{l o},AB l s0.objs=some o→l<s0.nx:=λ{l o}h=>ZId λhle=>by obtain⟨L,hL,_⟩:=r0.good.at_ l o h;rw[hf l hle]at hL;cases hL
              have X4:s1.df=s0.df:=hd.df λhm=>by have :=F3.2 hm;rw[Yg]at this;cases this
              have NX:∀l,s0.nx≤l→cx.E.loc l=none:=λl hl=>by
                have hn:AB l s0.objs=none:=by cases h:AB l s0.objs with|none=>rfl|some o=>exact absurd (Ab h) (by omega)
                rw[←r0.step.dom l hn];exact hf l hl
              obtain⟨vs,es,an,dd⟩:=la;have tr:∀l o,AB l (Kf vs dd y' s0.objs (HQ vs++dd))=some o→∃o1 L,AB l s1.objs=some o1∧E.loc l=some L∧(E.cut s0.nx).loc l=some L∧(∀L,o.has L→o1.has L)∧(Ay P E L o1→Ay P (E.cut s0.nx) L o):=by
                intro l o h;rw[PA]at h;have Gq:l<s0.nx:=by
                  split at h;·rw[ZGo]at h;obtain⟨o0,h1,_⟩:=h;exact Ab h1
                  ·exact Ab h
                split at h
                · rename_i hm;rw[ZGo]at h;obtain⟨o0,h1,rfl⟩:=h;have hk:=ZM IL l hm;unfold Uf at hk;split at hk;·cases hk
                  · rename_i p hp;obtain⟨L,hL,hat⟩:=r.good.at_ l p hp;refine⟨p,L,hp,hL,Jq hL Gq,?_⟩;unfold Zl;rw[h1]at hk;simp only at hk;split at hk;·rename_i Iv;exact⟨λ_ h=>h.elim,λ_=>trivial⟩
                    · rename_i Iv;split at hk
                      · rename_i D5;obtain⟨o',ho'⟩:=oB (s1:=s1) (y:=y') D5;simp only[ho'];obtain⟨v,x,hv,hx1,CB⟩:=XN hy ho';have :=ZAi hx1 CB;rw[hp]at this;cases this;refine⟨λ_ h=>h,λh=>?_⟩;have hnb:∀cs,p≠.box cs:=λcs e=>by subst e;cases v<;>simp only[IC]at CB<;>first|(cases CB;done)|(split at CB<;>cases CB)
                        have IM:∀n t p' a b st j,p≠.lrec n t p' a b st j:=λn t p' a b st j e=>by subst e;cases v<;>simp only[IC]at CB<;>first|(cases CB;done)|(split at CB<;>cases CB)
                        cases p with
                        |box cs=>exact absurd rfl (hnb cs)|lrec n t p' a b st j=>exact absurd rfl (IM n t p' a b st j)|dead=>trivial|row t xs=>exact h|vrow t xs s m=>
                          simp only at hk;split at hk;·obtain⟨_,_,Kc⟩:=r0.good.at_ l _ h1;rw[←MB hk]at Kc;exact M3.vrow (sS hf Kc) _ _ h
                          ·cases hk|smap t m=>exact h|imap t m=>exact h|dfb=>exact h
                      · rename_i D5;rw[ZCF D5];split at hk
                        · rename_i cs1;split at hk
                          · rename_i cs;refine⟨λ_ _=>trivial,λh=>?_⟩;obtain⟨vals,t,k1,k2,k3⟩:=h;have hlen:=WR hk;refine⟨vals,t,k1,by rw[Zk];omega,λj hj=>?_⟩;rw[Zk]at hj;rw[qI hj,ZGu];split;·rename_i u hu;obtain⟨v,x,hv,hx1,CB⟩:=XN hy hu;exact ZAh (E:=E) hx1 CB hp (k3 j (by omega))
                            · rename_i hu;rcases eP hk hj with hc|hc;·rw[ZGu]at hc;obtain⟨u,hu'⟩:=nZ (y:=y') hc;rw[hu]at hu';cases hu'
                              ·obtain⟨L0,hL0,Kc⟩:=r0.good.at_ l _ h1;obtain⟨_,_,_,_,m3⟩:=Kc;have LU:=KN.of hf (m3 j hj);rw[hc];rw[hc]at LU;exact LU _ _ (k3 j (by omega))
                          ·cases hk
                        ·cases hk
                · rename_i hm;have hp:AB l s1.objs=some o:=by
                    by_cases hnd:l∈s1.di
                    · rcases Wg lA l hnd with h1|h1|⟨cs,h1,h2⟩;·omega
                      ·exact absurd h1 hm
                      ·rw[h2,←h,h1]
                    ·exact(hd.obj l hnd hm).trans h
                  obtain⟨L,hL,hat⟩:=r.good.at_ l o hp;obtain⟨L0,hL0,Kc⟩:=r0.good.at_ l o h;exact⟨o,L,hp,hL,Jq hL Gq,λ_ h=>h,M3.of hf Kc _ _⟩
              have g2:=AE.sub (E':=E.cut s0.nx) r.good rfl rfl tr;obtain⟨nt,tmps,objs,nx,df,wr,di,mv⟩:=s0;refine⟨E.cut nx,rfl,⟨g2,λl hl=>?_,?_,r.drawn,r.size.trans hd.nt,?_,λt=>?_⟩⟩;·show(if l<nx then _ else _)=_;rw[ZGA (by have :nx≤l:=hl;omega)]
              · refine⟨⟨r.step.ext.S,λl L hl hL=>?_⟩,r.step.os,r.step.tape,r.step.output,r.step.size,r.step.frame,λb hb=>r.step.own b (Zu tr hb),r.step.st,λl hl=>?_,λl hl=>?_⟩
                · have Gq:l<nx:=ZId λhle=>by rw[NX l hle]at hL;cases hL
                  refine Jq (r.step.ext.loc l L (λhm=>?_) hL) Gq;rcases bS Gr l hm with h|h;·simp only at h;omega
                  ·exact hl h
                · have :AB l (Kf vs dd y' objs (HQ vs++dd))=none:=hl;rw[PA]at this;refine r0.step.keys l ?_;split at this;·simpa using this
                  ·exact this
                · have h2:AB l (Kf vs dd y' objs (HQ vs++dd))=none:=hl;rw[PA]at h2;have h3:AB l objs=none:=by
                    split at h2;·simpa using h2
                    ·exact h2
                  show(if l<nx then E.loc l else none)=_;split
                  · rename_i Gq;by_cases hm:l∈HQ vs++dd;·have hk:=ZM IL l hm;unfold Uf at hk;rw[h3]at hk;split at hk<;>cases hk
                    · have hnd:l∉s1.di:=λA4=>by
                        rcases Wg lA l A4 with h1|h1|⟨cs,h1,h2⟩;·simp only at h1;omega
                        ·exact hm h1
                        ·rw[h3]at h1;cases h1
                      exact r.step.dom l ((hd.obj l hnd hm).trans h3)
                  ·rename_i Gq;exact(NX l (by simp only;omega)).symm
              ·have :=r.df;rw[X4]at this;exact E5.cut hf r0.df this
              · show AC P (E.cut nx) (Ag t (M6 an (JS vs y' tmps))) _;rw[V7];split;·exact .any _
                · rename_i hn;refine lF (lo:=(E.cut nx).loc) (r.rep t) hy λNi=>?_;have e:Ag t tmps=Ag t s1.tmps:=by
                    by_cases hw:t∈s1.wr
                    · rcases uS nD t hw with h|h|h;·exact absurd h hn
                      ·exact absurd h Ni
                      ·exact h
                    ·exact(hd.tmp t hw hn Ni).symm
                  have LU:=KN.of hf (r0.rep t);have e':Ag t (St.mk nt tmps objs nx df wr di mv).tmps=Ag t s1.tmps:=e;rw[e']at LU;rw[e];exact LU _ _ (r.rep t)
end
section
variable {P : Program} {τ : Ap} {κ : A2}
def Gy(M:List Nat)(v:V):V:=match v.key with
 |some k=>match B7 k M with|true=>.any|false=>v
 |none=>v
theorem ZH{E E':AF}{M:List Nat}(hx:CK E E' M){v:V}{c:Value}(r:AC P E v c):AC P E' (v.subst (Gy M)) c:=by
 refine K6 hx.S (λv c hr r=>?_) r;unfold Gy;split
 ·rename_i k hk;split;·exact .any _
  ·rename_i hm;have hk':∀{L},E.loc k=some L→E'.loc k=some L:=λh=>hx.loc k _ (λA4=>by rw[F3.2 A4]at hm;cases hm) h;cases r<;>simp only[V.isRef,ZGh]at hr<;>simp only[V.key,ZHl]at hk<;>subst hk;·rename_i h;exact .ref (hk' h)
   ·rename_i h;exact .rref (hk' h)
   ·rename_i h;exact .osl (hk' h)
   ·rename_i h hp;exact .osp (hk' h) hp
   ·rename_i h;exact .map (hk' h)
   ·rename_i h;exact .yl (hk' h)
   ·rename_i h;exact .bsl (hk' h)
 ·rename_i hk;cases r<;>simp only[V.isRef,ZGh]at hr<;>simp only[V.key,reduceCtorEq]at hk
mutual
def V.hit(M:List Nat):V→Bool|.fn _ a b=>LX M a||LX M b|.agg cs=>LX M cs|.tup cs=>LX M cs|.er cs=>LX M cs|.when _ v=>V.hit M v|.opt _ v=>V.hit M v|.ref k _=>B7 k M|.rref k _ _=>B7 k M|.osl k=>B7 k M|.osp k _ _=>B7 k M|.map k=>B7 k M|.yl k=>B7 k M|.bsl k _=>B7 k M|_=>false
def LX(M:List Nat):List V→Bool|[]=>false|v::r=>V.hit M v||LX M r
end
mutual
theorem VZ{M:List Nat}:∀{v:V},v.hit M=false→v.subst (Gy M)=v|.fn g a b,h=>by simp only[V.hit,ZH0]at h;simp only[V.subst,Mv h.1,Mv h.2]|.agg cs,h=>by simp only[V.hit]at h;simp only[V.subst,Mv h]|.tup cs,h=>by simp only[V.hit]at h;simp only[V.subst,Mv h]|.er cs,h=>by simp only[V.hit]at h;simp only[V.subst,Mv h]|.when b v,h=>by simp only[V.hit]at h;simp only[V.subst,VZ h]|.opt b v,h=>by simp only[V.hit]at h;simp only[V.subst,VZ h]|.ref k o,h=>by simp only[V.hit]at h;simp only[V.subst,Gy,V.key,h]|.rref k i o,h=>by simp only[V.hit]at h;simp only[V.subst,Gy,V.key,h]|.osl k,h=>by simp only[V.hit]at h;simp only[V.subst,Gy,V.key,h]|.osp k lo n,h=>by simp only[V.hit]at h;simp only[V.subst,Gy,V.key,h]|.map k,h=>by simp only[V.hit]at h;simp only[V.subst,Gy,V.key,h]|.yl k,h=>by simp only[V.hit]at h;simp only[V.subst,Gy,V.key,h]|.bsl k n,h=>by simp only[V.hit]at h;simp only[V.subst,Gy,V.key,h]|.any,_=>rfl|.d _ _,_=>rfl|.nilp,_=>rfl|.nilf,_=>rfl|.nils,_=>rfl|.nilm,_=>rfl|.pf _ _ _ _,_=>rfl
theorem Mv{M:List Nat}:∀{cs:List V},LX M cs=false→DI (Gy M) cs=cs|[],_=>rfl|v::r,h=>by simp only[LX,ZH0]at h;simp only[DI,VZ h.1,Mv h.2]
end
def Q1(M:List Nat):List (Nat×V)→List Nat|[]=>[]|(t,v)::r=>match v.hit M with|true=>t::Q1 M r|false=>Q1 M r
theorem ZX{M:List Nat}{t:Nat}:∀{tmps:List (Nat×V)},t∉Q1 M tmps→Ag t (F5 (Gy M) tmps)=Ag t tmps|[],_=>rfl|(u,v)::r,h=>by simp only[Q1]at h;rw[F5,DG,DG];cases hv:v.hit M with|true=>rw[hv]at h;simp only[ZGe,ZGx]at h;rw[ZGA (ZG6 h.1),ZGA (ZG6 h.1)];exact ZX h.2|false=>
 rw[hv]at h;rw[VZ hv];split;·rfl
 ·exact ZX h
structure FI where
 nt:Nat
 res:List ResultVar
 code:Code
def FI.Ok(P:Program)(g:FuncId)(fi:FI):Prop:=∃fn,P.funcs[g]?=some fn∧fn.body=some fi.code∧fn.ntmps=fi.nt∧fn.results.toList=fi.res∧(fn.name== "runtime.NumGoroutine")=false
theorem FI.Ok.call{g:FuncId}{fi:FI}(h:fi.Ok P g):DK P g:=by obtain⟨fn,h1,h2,_,_,h5⟩:=h;exact⟨fn,h1,by rw[h2];rfl,h5⟩
def Lv:List Df→AH→Option AH
 |[],o=>some o|.mark l::r,o=>match AB l o with|some .dfb=>Lv r ((l,.dead)::o)|_=>none
 |.fn _ _::_,_=>none
def QN:List Df→List Nat|[]=>[]|.mark l::r=>l::QN r|.fn _ _::r=>QN r
def OF(τ:Ap)(tmps:List (Nat×V))(objs:AH):List ResultVar→Option (List V)
 |[]=>some []|.tmp t::l=>match OF τ tmps objs l with|some r=>some (Ag t tmps::r)|none=>none
 |.cell b t::l=>match Ag b tmps with
  |.ref k 0=>match AB k objs with
   |some (.box cs)=>match τ t with
    |some ti=>match ti.k.known with
     |true=>match Ls ti.size cs with
      |some ds=>match Mj ti.isAgg ds with
       |some v=>match OF τ tmps objs l with|some r=>some (v::r)|none=>none
       |none=>none
      |none=>none
     |false=>none
    |none=>none
   |_=>none
  |_=>none
def pS:List V→V|[v]=>v|l=>.tup l
def LL(τ:Ap)(res:List ResultVar)(s:St):Option (V×St):=match s with|⟨nt,tmps,objs,nx,df,wr,di,mv⟩=>match Lv df objs with
 |some DQ=>match OF τ tmps DQ res with|some vs=>some (pS vs,⟨nt,tmps,DQ,nx,[],wr,QN df++di,mv⟩)|none=>none
 |none=>none
def VI(tmps:Array Value):ResultVar→Sem Value|.tmp t=>pure (tmps.getD t undef)|.cell b t=>do loadVar t (←asAddr (tmps.getD b undef))
theorem rW(fn:Func)(tmps:Array Value):results fn tmps=(do let vs←fn.results.mapM (VI tmps);pure (if h:vs.size=1 then vs[0]else .tuple vs)):=by rfl
theorem aT(hτ:BQ P τ){tmps:List (Nat×V)}{objs:AH}{E:AF}{a:Act}(g:AE P E objs)(h6:∀t,AC P E (Ag t tmps) (a.tmps.getD t undef)):∀{l:List ResultVar}{vs:List V},OF τ tmps objs l=some vs→∃cs:List Value,(l.mapM (VI a.tmps)).run P E.w=.ok cs E.w∧AZ P E vs cs
 |[],vs,h=>by simp only[OF]at h;cases h;exact⟨[],by simp,.nil⟩|.tmp t::l,vs,h=>by
  simp only[OF]at h;split at h;·rename_i r h1;cases h;obtain⟨cs,h2,h3⟩:=aT hτ g h6 h1;exact⟨a.tmps.getD t undef::cs,by simp only[List.mapM_cons,VI,ZG7,ZHe,ZGm,h2],.cons (h6 t) h3⟩
  ·cases h|.cell b t::l,vs,h=>by
  simp only[OF]at h;split at h
  ·rename_i k hb;split at h
   ·rename_i cs hcs;split at h
    ·rename_i ti BX;split at h
     ·rename_i hk;split at h
      ·rename_i ds hd1;split at h
       ·rename_i v EI;split at h;·rename_i r hr;cases h;obtain⟨rfl,Jy⟩:=SR hd1;obtain⟨L,hL,hat⟩:=g.at_ _ _ hcs;obtain⟨vals,t',h4,h5⟩:=WO hat;obtain⟨h7,h8⟩:=h5.at_cells h4 0 ti.size;rw[ZJs]at h7;have hb':=h6 b;rw[hb]at hb';obtain⟨L',hL',e⟩:=Po hb';rw[hL]at hL';cases hL';have hl:=oZ (hτ t ti BX) hk E.w L.b 0 _ (h7.1.trans Jy) h8;obtain⟨cs',h2,h3⟩:=aT hτ g h6 hr;have r1:=qL EI h7;have hl':=hl r1.2;refine⟨_,by simp only[List.mapM_cons,VI,e,asAddr,ZG7,ZHe,ZGm,hl',h2],.cons r1.1 h3⟩
        ·cases h
       ·cases h
      ·cases h
     ·cases h
    ·cases h
   ·cases h
  ·cases h
theorem ZCm{E:AF}{vs:List V}{cs:List Value}(r:AZ P E vs cs):AC P E (pS vs) (if h:cs.toArray.size=1 then cs.toArray[0]else .tuple cs.toArray):=by match vs,cs,r with|[],[],r=>exact .tup rfl λj hj=>by simp at hj|[v],[c],r=>exact r.head|v::v'::vs,c::c'::cs,r=>rw[dif_neg (by simp)];exact .tup (by simpa using r.1) λj hj=>by have :=r.2 j hj;simpa[ZGV,ZGG]using this|[],_::_,r=>have :=r.1;simp at this|[_],[],r=>have :=r.1;simp at this|[_],_::_::_,r=>have :=r.1;simp at this|_::_::_,[],r=>have :=r.1;simp at this|_::_::_,[_],r=>have :=r.1;simp at this
def JH:Nat→List V→List (Nat×V)|_,[]=>[]|n,v::l=>(n,v)::JH (n+1) l
theorem pB:∀(l:List V)(n t:Nat),Ag t (JH n l)=if n≤t then l.getD (t-n) .any else .any
 |[],n,t=>by simp[JH,Ag]|v::l,n,t=>by
  rw[JH,DG];split;·rename_i e;subst e;simp
  ·rename_i e;rw[pB l (n+1) t];by_cases h:n≤t;·rw[ZGE h,ZGE (by omega),show t-n=t-(n+1)+1 from by omega];simp
   ·rw[ZGA h,ZGA (by omega)]
theorem QW{E:AF}{objs:AH}{nx nt:Nat}{args:List V}{cargs:Array Value}(g:AE P E objs)(hf:∀l,nx≤l→E.loc l=none)(r:AZ P E args cargs.toList)(hn:args.length≤nt):BG P ⟨E,objs⟩ ⟨nt,JH 0 args,objs,nx,[],[],[],[]⟩ {tmps:=cargs++Array.replicate (nt-cargs.size) undef,defers:=[]} E.w:=by
 have Am:cargs.size=args.length:=by simpa using r.1
 refine⟨E,rfl,g,hf,.refl _ _ _,ZGR _,?_,rfl,λt=>?_⟩;·simp[Am];omega
 ·show AC P E (Ag t (JH 0 args)) _;rw[pB,ZGE (ZHu _),ZIs];by_cases ht:t<args.length;·have :=r.2 t ht;simp only[ZGV];rw[ZJI (by omega)];simpa[ZGG]using this
  ·rw[ZGG,ZHL (by omega)];exact .any _
structure cZ(P:Program)(E:AF)(objs:AH)(s2:St)(E':AF):Prop where
 good:AE P E' s2.objs
 fresh:∀l,s2.nx≤l→E'.loc l=none
 step:BL E objs E' s2.objs s2.mv
 drawn:E.w.drawn≤E'.w.drawn
theorem oR{fn:Func}{tmps:Array Value}{R:Ending→World→Prop}:∀{df:List Df}{ds:List Deferred}{objs DQ:AH}{E:AF},Lv df objs=some DQ→E5 P E df ds→AE P E objs→(∀E',AE P E' DQ→BL E objs E' DQ []→E.w.drawn≤E'.w.drawn→LeavesInM (fz none) 0 P fn tmps R [] .returning E'.w)→LeavesInM (fz none) 0 P fn tmps R ds .returning E.w
 |[],ds,objs,DQ,E,h,hd,g,hk=>by cases h;rw[show ds=[]from hd];exact hk E g (.refl _ _ _) (ZGR _)|.mark l::r,ds,objs,DQ,E,h,⟨L,rest,h1,⟨K,hK,h2⟩,h3⟩,g,hk=>by
  simp only[Lv]at h;split at h
  ·rename_i ho;obtain⟨K',hK',hat⟩:=g.at_ l _ ho;rw[hK]at hK';cases hK';have hb:E.w.heap[L]?=some (.deferred (some [])):=by rw[←h2];exact hat
   have Ab:L<E.w.heap.size:=(Array.getElem?_eq_some_iff.1 hb).1;have hgr:E.w.grownBy (E.w.putObj L (.deferred none)) (some L):=ZKR _ _ _;have hp:=AE.put g (mv:=false) (o':=.dead) (L':=K) ho hK hgr (λb e=>by cases e;exact⟨trivial,h2.symm⟩) (λ_=>rfl) trivial λh=>h.elim;have e:E.setL (E.w.putObj L (.deferred none)) l K=⟨E.w.putObj L (.deferred none),E.S,E.loc⟩:=by
    simp only[AF.setL];congr 1;funext j;split;·rename_i e;subst e;exact hK.symm
    ·rfl
   rw[e]at hp;subst h1;refine⟨by simp,.inl ⟨L,_,rfl,run_takeDeferred hb,?_⟩⟩;have hx:CK E ⟨E.w.putObj L (.deferred none),E.S,E.loc⟩ []:=by simpa[moved]using hp.2.ext
   exact oR (E:=⟨E.w.putObj L (.deferred none),E.S,E.loc⟩) h (h3.ext hx) hp.1 λE' g' st hd=>hk E' g' (by simpa[moved,edit]using hp.2.trans st) hd
  ·cases h|.fn _ _::_,_,_,_,_,h,_,_,_=>by cases h
theorem Rh(hτ:BQ P τ){cx:Cx}{fi:FI}{fn:Func}(HM:fn.results.toList=fi.res){s s2:St}{v:V}(h:LL τ fi.res s=some (v,s2)){a:Act}{w:World}(hr:BG P cx s a w){R:Ending→World→Prop}(hk:∀u E',cZ P cx.E cx.imp s2 E'→AC P E' v u→R (.returned u) E'.w):LeavesInM (fz none) 0 P fn a.tmps R a.defers .returning w:=by
 obtain⟨nt,tmps,objs,nx,df,wr,di,mv⟩:=s;unfold LL at h;simp only at h;split at h
 ·rename_i DQ hc;split at h
  ·rename_i vs UU;cases h;obtain⟨E,rfl,r⟩:=hr;refine oR hc r.df r.good λE' g' st hd=>?_;have IQ:∀t,AC P E' (Ag t tmps) (a.tmps.getD t undef):=λt=>(r.rep t).mono st.ext;obtain⟨cs,G8,h14⟩:=aT hτ g' IQ UU;refine⟨_,?_,hk _ E' ⟨g',λl hl=>?_,by simpa using r.step.trans st,ZGd r.drawn hd⟩ (ZCm h14)⟩;·rw[rW,ZJM,HM];simp only[ZG7,Sem.run_map,G8,ZGm,ZHe]
   ·have hn:AB l DQ=none:=by
     have h1:AB l objs=none:=by cases h:AB l objs with|none=>rfl|some o=>obtain⟨L,hL,_⟩:=r.good.at_ l o h;rw[r.fresh l hl]at hL;cases hL
     exact closeM_none hc h1
    rw[st.dom l hn];exact r.fresh l hl
  ·cases h
 ·cases h where closeM_none:∀{df:List Df}{objs DQ:AH}{l:Nat},Lv df objs=some DQ→AB l objs=none→AB l DQ=none
  |[],_,_,_,h,hn=>by cases h;exact hn|.mark k::r,objs,DQ,l,h,hn=>by
   simp only[Lv]at h;split at h
   ·rename_i ho;refine closeM_none h ?_;rw[BA,ZGA ?_];·exact hn
    ·intro e;subst e;rw[hn]at ho;cases ho
   ·cases h|.fn _ _::_,_,_,_,h,_=>by cases h
def Sq(M:List Nat):List Df→Bool
 |[]=>true|.mark l::r=>match B7 l M with|true=>false|false=>Sq M r
 |.fn _ _::_=>false
def LG(s s2:St):Option St:=match s,s2 with|⟨nt,tmps,_,_,df,wr,di,mv⟩,⟨_,_,objs,nx,_,_,di2,mv2⟩=>match mv2 with|[]=>some ⟨nt,tmps,objs,nx,df,wr,di2++di,mv⟩|l::r=>match Sq (l::r) df with|true=>some ⟨nt,F5 (Gy (l::r)) tmps,objs,nx,df,Q1 (l::r) tmps++wr,di2++di,l::r++mv⟩|false=>none
theorem E5.marks{E E':AF}{M:List Nat}(hx:CK E E' M):∀{df:List Df}{ds:List Deferred},Sq M df=true→E5 P E df ds→E5 P E' df ds
 |[],_,_,h=>h|.mark l::r,_,hm,⟨L,rest,h1,⟨K,hK,h2⟩,h3⟩=>by
  simp only[Sq]at hm;split at hm;·cases hm
  ·rename_i hne;exact⟨L,rest,h1,⟨K,hx.loc l K (λh=>by rw[F3.2 h]at hne;cases hne) hK,h2⟩,h3.marks hx hm⟩|.fn _ _::_,_,hm,_=>by cases hm
theorem WI{cx:Cx}{s s2 s3:St}{a:Act}{E E':AF}(r:BS P cx s a E)(h:LG s s2=some s3)(k:cZ P E s.objs s2 E'):BS P cx s3 a E':=by obtain⟨nt,tmps,objs,nx,df,wr,di,mv⟩:=s;obtain⟨nt2,My,Hz,nx2,df2,wr2,di2,mv2⟩:=s2;unfold LG at h;cases mv2 with|nil=>cases h;have hx:CK E E' []:=k.step.ext;exact⟨k.good,k.fresh,r.step.trans k.step,ZGd r.drawn k.drawn,r.size,r.df.ext hx,λt=>(r.rep t).mono hx⟩|cons l M=>
 simp only at h;split at h;·rename_i hm;cases h;have hx:CK E E' (l::M):=k.step.ext;refine⟨k.good,k.fresh,r.step.trans k.step,ZGd r.drawn k.drawn,r.size,r.df.marks hx hm,λt=>?_⟩;show AC P E' (Ag t (F5 _ tmps)) _;rw[Mw,N1];exact ZH hx (r.rep t)
 ·cases h
structure dC(objs:AH)(nx:Nat)(s2:St):Prop where
 nx:nx≤s2.nx
 obj:∀l,l∉s2.di→AB l s2.objs=AB l objs
theorem ZAj{s0 s s2:St}{v:V}{res:List ResultVar}(h:LL τ res s=some (v,s2))(k:Aa s0 s):dC s0.objs s0.nx s2:=by
 obtain⟨nt,tmps,objs,nx,df,wr,di,mv⟩:=s;unfold LL at h;simp only at h;split at h
 ·rename_i DQ hc;split at h;·cases h;refine⟨k.nx,λl hl=>?_⟩;simp only[ZGa,ZGx]at hl;exact(closeM_get hc hl.1).trans (k.obj l hl.2)
  ·cases h
 ·cases h where closeM_get:∀{df:List Df}{objs DQ:AH}{l:Nat},Lv df objs=some DQ→l∉QN df→AB l DQ=AB l objs
  |[],_,_,_,h,_=>by cases h;rfl|.mark k::r,objs,DQ,l,h,hn=>by
   simp only[Lv]at h;simp only[QN,ZGe,ZGx]at hn;split at h;·rw[closeM_get h hn.2,BA,ZGA (ZG6 hn.1)]
   ·cases h|.fn _ _::_,_,_,_,h,_=>by cases h
theorem WH{s s2 s3:St}(h:LG s s2=some s3)(k:dC s.objs s.nx s2):Aa s s3:=by obtain⟨nt,tmps,objs,nx,df,wr,di,mv⟩:=s;obtain⟨nt2,My,Hz,nx2,df2,wr2,di2,mv2⟩:=s2;unfold LG at h;have ho:∀l,l∉di2++di→AB l Hz=AB l objs:=λl hl=>k.obj l λhm=>hl (ZHY _ hm);cases mv2 with|nil=>cases h;exact⟨rfl,k.nx,λ_ h=>h,λl hl=>ZHU _ hl,λ_ h=>h,λ_ _=>rfl,ho,λ_=>rfl⟩|cons l M=>
 simp only at h;split at h;·cases h;exact⟨rfl,k.nx,λt ht=>ZHU _ ht,λl hl=>ZHU _ hl,λ_ h=>ZHU _ h,λt ht=>ZX λhm=>ht (ZHY _ hm),ho,λ_=>rfl⟩
 ·cases h
end
end Go.Proofs.YtgpdnmfpgkkgcaaGreatDoor
