/- Part of a proof that a law of the program holds for every input: how abstract states follow the program. No conditions. -/
import Derived.Laws.BytesString
import Derived.MapKept
import Derived.RangeFuncIn
import Derived.RangeFuncOwn
import Derived.RangeFuncRecord
import Derived.Test.YtldikbpclaeajaaDoorF00
namespace Go.Proofs.YtldikbpclaeajaaDoor
open Go
set_option linter.defProp false
def dN:=@cond_false
def dS:=@List.mem_cons_of_mem
def dV:=@cond_true
def eA:=@List.mem_cons
def eN:=@List.mem_singleton
def fN:=@List.mem_append_right
def fR:=@List.mem_append_left
def gE:=@List.cons_append
def gG:=@Go.Calls.mono
def gP:=@Bool.or_eq_false_iff
def gU:=@Nat.lt_of_not_le
def gZ:=@List.append_nil
def iL:=@Array.toList_map
def iO:=@Array.getElem?_append_left
def iP:=@Go.Oper.semAt_eq
def iS:=@List.map_congr_left
def iU:=@List.map_append
def iW:=@List.mem_cons_self
def jH:=@List.getElem?_modify
def jO:=@Array.toList_modify
def jP:=@List.getD_cons_succ
def jS:=@Array.getElem?_setIfInBounds
def kA:=@Go.Oper.uponIn_enter
def kJ:=@Go.run_convert_bytes_string
def kK:=@List.getElem?_cons_succ
def kL:=@List.getElem?_cons_zero
def kR:=@Go.grownBy_putObj'
def kU:=@Go.fenced_calm
def kY:=@List.getElem?_toArray
def lH:=@Int.toNat_of_nonneg
def lN:=@List.map_nil
def lP:=@Nat.beq_refl
def lS:=@Nat.sub_zero
def lU:=@Array.toList_push
set_option linter.unusedSimpArgs false
set_option linter.unusedVariables false
section
variable {P : Program} {τ : AK} {E : AB} {os objs : AA} {n : Nat}
theorem Wx(hτ:Ah P τ){t ty:TypeId}{x:V}{out:AT}(h:NV τ os t x=some out)(hs:BV os objs)(g:U P E objs){c:Value}(r:N P E x c):Ao P (Builtin.len_ #[t] ty #[c]) E objs out:=by
 have key:∀{e:TypeId}{a:Option Addr}{m cap:Nat}{p:Option Prop},P.underlying t=some (.slice e)→c=.slice a m cap→Ao P (Builtin.len_ #[t] ty #[c]) E objs ⟨p,.d (.int .i64) (m:Int),none⟩:=by intro e a m cap p ht hc;subst hc;exact .same g (v:=.int .i64 m) (by simp[Builtin.len_,dU ht,goInt]) (.mk_int _ _)
 unfold NV at h;split at h
 ·rename_i e sz by_ zero co Ai;have ht:P.underlying t=some (.slice e):=(hτ t _ Ai).kind;split at h;·cases h;obtain⟨a,cap,hc,_⟩:=Hr r;exact key ht (by simpa using hc)
  ·cases h;cases r;exact key ht rfl
  ·split at h;·rename_i T xs hcs;cases h;obtain⟨L,hL,_,hat⟩:=g.get hs hcs;obtain⟨K,hK,rfl⟩:=DB r;rw[hL]at hK;cases hK;rw[←hat.2.2.1];exact key ht rfl
   ·cases h
  ·cases h;obtain⟨K,hK,a,rfl,_⟩:=Ez r;exact key ht rfl
  ·cases h;obtain⟨K,hK,rfl⟩:=Qx r;exact key ht rfl
  ·cases h
 ·rename_i sz by_ zero co Ai;have ht:P.underlying t=some .string:=(hτ t _ Ai).kind;split at h;·rename_i s;cases h;rw[r.str_inv];exact .same g (v:=.int .i64 (ByteArray.size s)) (by simp[Builtin.len_,dU ht,goInt]) (.mk_int _ _)
  ·cases h
 ·rename_i m e sz by_ zero co Ai;cases h;have ht:P.underlying t=some (.array m e):=(hτ t _ Ai).kind.1;exact .same g (v:=.int .i64 m) (by simp[Builtin.len_,dU ht,goInt]) (.mk_int _ _)
 ·cases h
theorem aU{w:World}{size m k:Nat}{news:List Value}{c:Value}(h:CO w size m news c)(FP:∃a m' cap,c=.slice a m' cap)(hk:k≤m):(Builtin.firstCells size k c).run P w=.ok (news.take (k*size)).toArray w:=by
 obtain⟨h1,⟨a,cap,rfl,hx⟩|⟨s,rfl,_⟩⟩:=h
 ·have hm:k*size≤m*size:=eT _ hk;have :CO w size k (news.take (k*size)) (.slice a k cap):=⟨by rw[eM,h1];omega,.inl ⟨a,cap,rfl,λhp=>by
  obtain⟨ad,h2,h3⟩:=hx (by omega);refine⟨ad,h2,λj v hj=>h3 j v ?_⟩;rw[eE]at hj;split at hj;·exact hj
  ·cases hj⟩⟩;have h4:=this.run (P:=P) (w':=w) rfl;cases a<;>simpa[Builtin.firstCells]using h4
 ·obtain⟨_,_,_,h⟩:=FP;cases h
theorem RU{td tx ty e:TypeId}{info:TypeInfo}{T:Ty}{ys:List T.den}{news:List Value}{c':Value}(ht:P.underlying td=some (.slice e))(hi:P.info? e=some info)(hsT:info.size=T.size)(hn1:Aa E.w E.S T ys news)(hn2:CO E.w T.size ys.length news c')(FP:∃a m' cap,c'=.slice a m' cap)(g:U P E objs){l lo k:Nat}{xs:List T.den}{L:AH}(AI:O l objs=some (.row T xs))(hL:E.loc l=some L)(hat:AY P E L (.row T xs))(Dj:lo+k≤xs.length){p:Option Prop}{c0:Value}(Cl:L.Part lo k c0):Ao P (Builtin.copy_ #[td,tx] ty #[c0,c']) E objs ⟨p,.d (.int .i64) (min ys.length k:Nat),some (l,.row T (JF xs ys lo k),false)⟩:=by
 have Dy:=hn1.length;have GX:Nat.min ys.length k=min ys.length k:=rfl;have GW:=aU (P:=P) hn2 FP (Nat.min_le_left ys.length k);have hlen:=λw=>hn2.lenOf (P:=P) w;by_cases h0:min ys.length k=0;·
  have X3:JF xs ys lo k=xs:=by simp only[JF,h0,jV,gZ,fZ,gD]
  rw[X3];have hp:=U.put g (mv:=false) (L':=L) (o':=.row T xs) (w:=E.w) (row:=none) AI hL ⟨rfl,rfl,rfl,dT _,λ_ _ _=>rfl⟩ (λb hb=>by cases hb) (λ_=>rfl) (by
   refine hat.keep (⟨λb hb=>⟨hb,rfl⟩,λj K _ hK=>?_⟩:BE E (E.setL E.w l L) []) λ_=>rfl;by_cases e:j=l;·subst e;rw[hL]at hK;cases hK;exact A6 _ _ _ _
   ·rw[Ax _ _ _ e];exact hK) λhh=>.inl ⟨hh,rfl⟩;refine⟨E.setL E.w l L,.int .i64 (0:Nat),?_,hp.1,hp.2,by rw[h0];exact .mk_int _ _⟩;rw[h0]at GW;simp only[jL,jV]at GW;rw[←hsT]at GW;obtain⟨ad,rfl,_⟩:=Cl;have Lb:(Builtin.firstCells info.size 0 c').run P E.w=.ok #[] E.w:=by simpa using GW
  show(Builtin.copy_ #[td,tx] ty #[.slice ad k (L.cap-lo),c']).run P E.w=.ok _ E.w;simp only[Builtin.copy_,kY,kL,kK,eQ,dU ht,eF,hlen,EL hi];show((Builtin.firstCells info.size (Nat.min ys.length k) c').run P E.w).andThen _=_;rw[GX,h0,Lb];cases ad<;>simp[storeCells,goInt];all_goals(rw[show min k ys.length=0 by omega];rfl)
 ·have hk:0<k:=by omega
  obtain⟨w,BN,g1,g2⟩:=Px (lo:=lo) (ys:=ys.take (min ys.length k)) (vs:=news.take (min ys.length k*T.size)) g AI hL hat (by rw[eM];omega) (.inl (by rw[eM];omega)) (hn1.take _);have Gb:(ys.take (min ys.length k)).length=min ys.length k:=by rw[eM];omega
  rw[Gb]at g1 g2;refine⟨E.setL w l L,.int .i64 (min ys.length k:Nat),?_,g1,g2,.mk_int _ _⟩;rw[MI hat Dj hk Cl];rw[←hsT]at GW;simp only[Builtin.copy_,kY,kL,kK,eQ,dU ht,eF,hlen,EL hi];show((Builtin.firstCells info.size (Nat.min ys.length k) c').run P E.w).andThen _=_;rw[GX,GW,hsT];simp only[eF];show((storeCells _ _).run P E.w).andThen _=_;rw[BN];rfl
theorem Wt(hτ:Ah P τ){td tx ty:TypeId}{d x:V}{out:AT}(h:NR τ os td tx d x=some out)(hs:BV os objs)(ho:Ae out.ob)(g:U P E objs){c c':Value}(rd:N P E d c)(rx:N P E x c'):Ao P (Builtin.copy_ #[td,tx] ty #[c,c']) E objs out:=by
 unfold NR at h;split at h
 ·rename_i e sz by_ zero co Ai;have ht:P.underlying td=some (.slice e):=(hτ td _ Ai).kind;split at h
  ·rename_i e2 sz2 by2 zero2 co2 Ym;have Am:P.underlying tx=some (.slice e2):=(hτ tx _ Ym).kind;split at h
   ·rename_i k size bytes zero' T hei;have hei:=hτ e _ hei;obtain⟨hTs,AW,BR⟩:=hei.code T rfl;obtain⟨info,z,hi,AS,_⟩:=hei.info;have hsT:info.size=T.size:=by rw[AS];exact hTs.symm
    split at h
    ·rename_i ys p CW;have src:=λhp:Ae p=>U2 CW hs hp g rx;have conj_inv:∀{q:Prop},D7 q p→Ae p∧q:=λ{q}h=>by cases p with|none=>exact⟨trivial,h⟩|some r=>exact h
     split at h
     ·split at h
      ·rename_i l t xs hcs;split at h;·rename_i hT';subst hT';cases h;obtain⟨⟨cs,FH,FJ⟩,FP⟩:=src ho;obtain⟨L,hL,AI,hat⟩:=g.get hs hcs;obtain⟨K,hK,rfl⟩:=DB rd;rw[hL]at hK;cases hK;exact RU (ty:=ty) ht hi hsT FH FJ FP g AI hL hat (by omega) (Hk hat)
       ·cases h
      ·cases h
     ·split at h
      ·rename_i l lo k t xs hcs;split at h;·rename_i hT';subst hT';cases h;obtain⟨hp,hle⟩:=conj_inv ho;obtain⟨⟨cs,FH,FJ⟩,FP⟩:=src hp;obtain⟨L,hL,AI,hat⟩:=g.get hs hcs;obtain⟨K,hK,EI⟩:=Ez rd;rw[hL]at hK;cases hK;exact RU (ty:=ty) ht hi hsT FH FJ FP g AI hL hat hle EI
       ·cases h
      ·cases h
     ·cases h
    ·cases h
   ·cases h
  ·cases h
 ·cases h
end
section
variable {P : Program} {τ : AK} {E : AB} {os objs : AA} {n : Nat}
def Fg(P:Program)(E:AB)(v:Option V)(c:Option Value):Prop:=match v,c with|none,none=>True|some v,some c=>N P E v c|_,_=>False
def H5(m:Nat)(lo hi:Option V):Option (Option Prop×Nat×Nat):=match lo,hi with|none,none=>some (none,0,m)|none,some (.d (.int _) h)=>some (some (0≤h∧h≤(m:Int)),0,Int.toNat h)|some (.d (.int _) a),none=>some (some (0≤a∧a≤(m:Int)),Int.toNat a,m)|some (.d (.int _) a),some (.d (.int _) h)=>some (some (0≤a∧a≤h∧h≤(m:Int)),Int.toNat a,Int.toNat h)|_,_=>none
theorem Fi{k:IntKind}{i:Int}{y:Nat}{code:BoundsCode}(h0:0≤i)(h1:i≤(y:Int))(w:World):(Instr.sliceBound (.int k i) y code).run P w=.ok i.toNat w:=by simp[Instr.sliceBound,asIntOf,h0,h1]
theorem Ku{m cap:Nat}{lo hi:Option V}{lo' hi':Option Value}{ob:Option Prop}{l h:Nat}(hb:H5 m lo hi=some (ob,l,h))(ho:Ae ob)(CU:m≤cap)(rl:Fg P E lo lo')(rh:Fg P E hi hi')(w:World):l≤h∧h≤m∧(Instr.sliceBounds true m cap lo' hi' none).run P w=.ok (l,h,cap) w:=by
 unfold H5 at hb;split at hb
 ·cases hb;cases lo'<;>cases hi'<;>first|exact rl.elim|exact rh.elim|skip
  exact⟨fW _,dT _,by simp[Instr.sliceBounds]⟩
 ·rename_i k h0;obtain⟨h1,hh⟩:∃h1:Int,h1=h0:=⟨h0,rfl⟩;subst hh;cases hb;obtain⟨h2,h3⟩:0≤h1∧h1≤(m:Int):=ho;cases lo'<;>cases hi'<;>first|exact rl.elim|exact rh.elim|skip
  rename_i u;have :=N.int_inv (show N P E (.d (.int k) h1) u from rh);subst this;exact⟨fW _,by omega,by simp[Instr.sliceBounds,Fi h2 (show h1≤(cap:Int)by omega)]⟩
 ·rename_i k a0;obtain⟨a,hh⟩:∃a:Int,a=a0:=⟨a0,rfl⟩;subst hh;cases hb;obtain⟨h2,h3⟩:0≤a∧a≤(m:Int):=ho;cases lo'<;>cases hi'<;>first|exact rl.elim|exact rh.elim|skip
  rename_i u;have :=N.int_inv (show N P E (.d (.int k) a) u from rl);subst this;exact⟨by omega,dT _,by simp[Instr.sliceBounds,Fi h2 h3]⟩
 ·rename_i k a0 k2 h0;obtain⟨a,hh⟩:∃a:Int,a=a0:=⟨a0,rfl⟩;subst hh;obtain⟨h1,hh⟩:∃h1:Int,h1=h0:=⟨h0,rfl⟩;subst hh;cases hb;obtain⟨h2,h3,h4⟩:0≤a∧a≤h1∧h1≤(m:Int):=ho;cases lo'<;>cases hi'<;>first|exact rl.elim|exact rh.elim|skip
  rename_i u u2;have :=N.int_inv (show N P E (.d (.int k) a) u from rl);subst this;have :=N.int_inv (show N P E (.d (.int k2) h1) u2 from rh);subst this;have e2:((h1.toNat:Nat):Int)=h1:=lH (by omega);exact⟨by omega,by omega,by simp[Instr.sliceBounds,Fi (show(0:Int)≤h1 by omega) (show h1≤(cap:Int)by omega),Fi h2 (show a≤((h1.toNat:Nat):Int)by omega)]⟩
 ·cases hb
theorem Nb{mk:Nat→Nat→V}{base m:Nat}{lo hi:Option V}{out:AT}(h:JO mk base m lo hi=some out):∃ob l k,H5 m lo hi=some (ob,l,k)∧out.ob=ob∧out.ed=none∧out.v=mk (base+l) (k-l):=by
 unfold JO at h;split at h
 ·split at h;·cases h;exact⟨_,_,_,rfl,rfl,rfl,rfl⟩
  ·split at h;·cases h;exact⟨_,_,_,rfl,rfl,rfl,rfl⟩
   ·cases h
 ·split at h
  ·split at h;·cases h;exact⟨_,_,_,rfl,rfl,rfl,rfl⟩
   ·split at h;·cases h;exact⟨_,_,_,rfl,rfl,rfl,rfl⟩
    ·cases h
  ·cases h
theorem Q5{T:Ty}{l:List T.den}{a:Option Addr}{n cap:Nat}(h:Al E.w E.S (.sl T) l [.slice a n cap])(AW:0<T.size)(lo hi:Nat)(h1:lo≤hi)(h2:hi≤l.length):Al E.w E.S (.sl T) ((l.take hi).drop lo) [.slice (if cap=lo then a else a.map (·.add (lo*T.size))) (hi-lo) (cap-lo)]:=by
 obtain⟨a',cap',hc,CU,hl⟩:=h;simp only[hE,Value.slice.injEq,and_true]at hc;obtain⟨rfl,rfl,rfl⟩:=hc;have hlen:((l.take hi).drop lo).length=hi-lo:=by simp;omega
 refine⟨_,_,by rw[hlen],by rw[hlen];omega,λAU=>?_⟩;have AM:lo<hi:=by
  rcases iJ lo hi with h|h;·exact h
  ·exact absurd (dZ (by rw[hlen];omega)) AU
 obtain⟨b,off,rfl,hS,hx⟩:=hl λe=>by rw[e]at h2;simp at h2;omega
 refine⟨b,off+lo*T.size,?_,hS,λi x hi'=>?_⟩;·rw[dK (by omega)];simp[fO]
 ·rw[gM,eE]at hi';split at hi';·obtain⟨cs,h3,h4⟩:=hx (lo+i) x hi';refine⟨cs,h3,λj u hj=>?_⟩;rw[show off+lo*T.size+i*T.size+j=off+(lo+i)*T.size+j from by rw[gO];omega];exact h4 j u hj
  ·cases hi'
theorem It{t e:TypeId}{ei:TI}{a:Option Addr}{m cap l h c:Nat}{lo' hi' mx':Option Value}(ht:P.underlying t=some (.slice e))(hei:ei.Ok P e)(w:World)(hb:(Instr.sliceBounds true m cap lo' hi' mx').run P w=.ok (l,h,c) w):(Instr.sliceAt t (.slice a m cap) lo' hi' mx').run P w=.ok (.slice (if c=l then a else a.map (·.add (l*ei.size))) (h-l) (c-l)) w:=by obtain⟨info,z,Le,hs,_⟩:=hei.info;simp[Instr.sliceAt,dU ht,Instr.slice,hb,EL Le,hs]
theorem ZS{m cap:Nat}{lo hi mx:Option V}{lo' hi' mx':Option Value}{ob p:Option Prop}{l h:Nat}(hb:H5 m lo hi=some (ob,l,h))(AU:∃q,mx=some q)(hm:KH mx m=some p)(ho:Ae ob)(hp:Ae p)(CU:m≤cap)(rl:Fg P E lo lo')(rh:Fg P E hi hi')(rm:Fg P E mx mx')(w:World)(HR:∃q,hi=some q):∃c,(Instr.sliceBounds true m cap lo' hi' mx').run P w=.ok (l,h,c) w:=by
 obtain⟨q,rfl⟩:=AU;unfold KH at hm;split at hm;·cases‹some q=none›
 ·rename_i k x0 hq;obtain⟨x,hh⟩:∃x:Int,x=x0:=⟨x0,rfl⟩;subst hh;cases hq;cases hm;have hx:x=(m:Int):=hp;cases mx' with|none=>exact rm.elim|some u=>
  have :=N.int_inv (show N P E (.d (.int k) x) u from rm);subst this;have TU:(Instr.sliceBound (.int k x) cap .slice3Acap).run P w=.ok m w:=by rw[Fi (by omega) (by omega),hx];rfl
  unfold H5 at hb;split at hb;·obtain⟨_,h⟩:=HR;cases h
  ·rename_i k2 h0;obtain⟨h1,hh⟩:∃h1:Int,h1=h0:=⟨h0,rfl⟩;subst hh;cases hb;obtain⟨h2,h3⟩:0≤h1∧h1≤(m:Int):=ho;cases lo'<;>cases hi'<;>first|exact rl.elim|exact rh.elim|skip
   rename_i u2;have :=N.int_inv (show N P E (.d (.int k2) h1) u2 from rh);subst this;exact⟨m,by simp[Instr.sliceBounds,TU,Fi h2 h3]⟩
  ·obtain⟨_,h⟩:=HR;cases h
  ·rename_i k1 a0 k2 h0;obtain⟨a,hh⟩:∃a:Int,a=a0:=⟨a0,rfl⟩;subst hh;obtain⟨h1,hh⟩:∃h1:Int,h1=h0:=⟨h0,rfl⟩;subst hh;cases hb;obtain⟨h2,h3,h4⟩:0≤a∧a≤h1∧h1≤(m:Int):=ho;cases lo'<;>cases hi'<;>first|exact rl.elim|exact rh.elim|skip
   rename_i u1 u2;have :=N.int_inv (show N P E (.d (.int k1) a) u1 from rl);subst this;have :=N.int_inv (show N P E (.d (.int k2) h1) u2 from rh);subst this;have e2:((h1.toNat:Nat):Int)=h1:=lH (by omega);exact⟨m,by simp[Instr.sliceBounds,TU,Fi (show(0:Int)≤h1 by omega) h4,Fi h2 (show a≤((h1.toNat:Nat):Int)by omega)]⟩
  ·cases hb
 ·cases hm
theorem Pv{L:AH}{T:Ty}{xs:List T.den}(h:AY P E L (.row T xs)):xs.length≤L.cap:=by
 obtain⟨_,_,_,_,_,_,⟨h1,rfl⟩|⟨cur,_,_,h3,_⟩⟩:=h;·simp
 ·exact h3
theorem W5(hτ:Ah P τ){t:TypeId}{x:V}{lo hi mx:Option V}{out:AT}(h:Nd τ os t x lo hi mx=some out)(hs:BV os objs)(ho:Ae out.ob)(g:U P E objs){c:Value}{lo' hi' mx':Option Value}(rx:N P E x c)(rl:Fg P E lo lo')(rh:Fg P E hi hi')(rm:Fg P E mx mx'):Ao P (Instr.sliceAt t c lo' hi' mx') E objs out:=by
 unfold Nd at h;split at h
 ·rename_i e sz by_ zero co Ai;have ht:P.underlying t=some (.slice e):=(hτ t _ Ai).kind;split at h
  ·rename_i ei hei;have hei:=hτ e _ hei;split at h
   ·rename_i T l;split at h
    ·rename_i AS;simp only[eP,Nat.blt_eq]at AS;obtain⟨AS,AW⟩:=AS;have AS:=dJ AS;have hc:=Hr rx;obtain⟨a,cap,hc',CU,_⟩:=id hc;have hc'':c=.slice a (List.length (α:=T.den) l) cap:=by simpa using hc'
     subst hc'';split at h;·cases mx' with|some _=>exact rm.elim|none=>
      have key:∀{ob:Option Prop}{lo1 hi1:Nat},H5 (List.length (α:=T.den) l) lo hi=some (ob,lo1,hi1)→Ae ob→Ao P (Instr.sliceAt t (.slice a (List.length (α:=T.den) l) cap) lo' hi' none) E objs ⟨ob,.d (.sl T) ((List.take (α:=T.den) hi1 l).drop lo1),none⟩:=by intro ob lo1 hi1 hb ho;obtain⟨h1,h2,h3⟩:=Ku hb ho CU.1 rl rh E.w;have hp:=Q5 hc AW lo1 hi1 h1 h2;rw[AS]at hp;exact .same g (It ht hei E.w h3) (.d hp)
      split at h
      ·split at h;·cases h;have :=key rfl trivial;simpa using this
       ·split at h;·cases h;have :=key rfl ho;simpa using this
        ·cases h
      ·split at h
       ·split at h;·cases h;have :=key rfl ho;rw[eD]at this;exact this
        ·split at h;·cases h;exact key rfl ho
         ·cases h
       ·cases h
     ·split at h
      ·rename_i m hz;cases h;unfold VT at hz;split at hz
       ·split at hz
        ·split at hz;·rename_i k1 _ k2 Dx;cases Dx;cases lo' with|some _=>exact rl.elim|none=>cases hi' with|none=>exact rh.elim|some u=>cases mx' with|none=>exact rm.elim|some u2=>have :=N.int_inv (show N P E (.d (.int k1) (0:Int)) u from rh);subst this;have :=N.int_inv (show N P E (.d (.int k2) (0:Int)) u2 from rm);subst this;have HN:∀(k:IntKind)(y:Nat)code,(Instr.sliceBound (.int k 0) y code).run P E.w=.ok 0 E.w:=λk y code=>Fi (by omega) (by omega) E.w;exact .same g (It ht hei E.w (l:=0) (h:=0) (c:=0) (by simp[Instr.sliceBounds,HN])) (.nils _)
         ·cases hz
        ·cases hz
       ·cases hz
      ·cases h
    ·cases h
   ·rename_i l;split at h
    ·rename_i T xs hcs;split at h
     ·rename_i AS;have AS:=dJ AS;obtain⟨L,hL,_,hat⟩:=g.get hs hcs;obtain⟨K,hK,rfl⟩:=DB rx;rw[hL]at hK;cases hK;have CU:=Pv hat;split at h
      ·rename_i m hm;split at h
       ·rename_i ob v ed hp;obtain⟨ob',l1,k1,hb,h1,h2,h3⟩:=Nb hp;simp only at h1 h2 h3;subst h1 h2 h3;split at h
        ·cases h;have Dx:mx=none:=by
          unfold KH at hm;split at hm;·rfl
          ·cases hm
          ·cases hm
         subst Dx;cases mx' with|some _=>exact rm.elim|none=>obtain⟨h4,h5,h6⟩:=Ku (cap:=L.cap) hb ho CU rl rh E.w;rw[AH.v,hat.2.2.1];refine .same g (It ht hei E.w h6) ?_;rw[fE];refine .osp hL ⟨_,rfl,λAU=>?_⟩;rw[dK AU,hat.1,AS]
        ·rename_i m';split at h
         ·rename_i hi0;cases h;have OB:∀{q:Prop}{p:Option Prop},D7 q p→Ae p∧q:=λ{q p}h=>by cases p with|none=>exact⟨trivial,h⟩|some r=>exact h
          obtain⟨ho1,ho2⟩:=OB ho;have Dx:∃q,mx=some q:=by
           unfold KH at hm;split at hm;·cases hm
           ·exact⟨_,rfl⟩
           ·cases hm
          obtain⟨c,h6⟩:=ZS (cap:=L.cap) hb Dx hm ho1 ho2 CU rl rh rm E.w ⟨_,rfl⟩;rw[AH.v,hat.2.2.1];exact .same g (It ht hei E.w h6) (.any _)
         ·cases h
       ·cases h
      ·cases h
     ·cases h
    ·cases h
   ·rename_i l base m;split at h
    ·rename_i T xs hcs;split at h
     ·rename_i AS;have AS:=dJ AS;obtain⟨L,hL,_,hat⟩:=g.get hs hcs;obtain⟨K,hK,a,rfl,ha⟩:=Ez rx;rw[hL]at hK;cases hK;have CU:=Pv hat;split at h;·cases mx' with|some _=>exact rm.elim|none=>
       split at h
       ·rename_i ob v ed hp;obtain⟨ob',l1,k1,hb,h1,h2,h3⟩:=Nb hp;simp only at h1 h2 h3;subst h1 h2 h3;cases h;have OB:∀{q:Prop}{p:Option Prop},D7 q p→Ae p∧q:=λ{q p}h=>by cases p with|none=>exact⟨trivial,h⟩|some r=>exact h
        obtain⟨ho1,ho2⟩:=OB ho;have hle:UU m (xs.length-base) hi≤xs.length-base:=by cases hi with|none=>show m≤_;omega|some _=>exact dT _
        obtain⟨h4,h5,h6⟩:=Ku (cap:=L.cap-base) hb ho1 (by omega) rl rh E.w;replace h6:(Instr.sliceBounds true m (L.cap-base) lo' hi' none).run P E.w=.ok (l1,k1,L.cap-base) E.w:=by cases hi with|none=>exact h6|some q=>cases hi' with|none=>exact rh.elim|some u=>exact h6
        refine .same g (It ht hei E.w h6) (.osp hL ⟨_,by rw[Nat.sub_sub],λAU=>?_⟩);rw[dK (by omega),ha (by omega),←AS,←hat.1];obtain⟨CH,AW,hlen,e',cs,h9,Au⟩:=hat;rcases Au with⟨CG,rfl⟩|⟨cur,B4,_⟩;·simp at ho2;omega
        ·simp[B4,fO,gO]
       ·cases h
      ·cases h
     ·cases h
    ·cases h
   ·split at h;·cases mx' with|some _=>exact rm.elim|none=>
     split at h;·rename_i o hp;cases h;obtain⟨ob',l1,k1,hb,h1,h2,h3⟩:=Nb hp;cases rx with|nils a=>
      obtain⟨h4,h5,h6⟩:=Ku (cap:=0) hb (h1▸ho) (dT 0) rl rh E.w;have Lg:l1=0:=by omega
      have hk1:k1=0:=by omega
      subst Lg hk1;exact .same' g h2 (It ht hei E.w h6) (by rw[h3];exact .nils _)
     ·cases h
    ·cases h
   ·cases h
  ·cases h
 ·cases h
end
section
variable {P : Program} {τ : AK} {E : AB} {os objs : AA} {n : Nat}
def Gr(w:World)(b:Nat)(o:Go.Obj):World:={w with heap:=w.heap.setIfInBounds b o}
theorem SH{w:World}{b clock:Nat}{es:Array MapEntry}(hb:w.heap[b]?=some (.map es clock)):(getObj b).run P w=.ok (.map es clock) w:=by simp[getObj,Sem.run,hb]
theorem aG{w:World}{b clock:Nat}{es:Array MapEntry}(hb:w.heap[b]?=some (.map es clock))(o:Go.Obj):(setObj b o).run P w=.ok () (Gr w b o):=by simp only[setObj,Sem.run,hb,Gr]
section
variable {κ : Type} [DecidableEq κ] {f : κ → Value} {d : TypeDesc} {kt : TypeId}
theorem Rv(hs:∀a b,Instr.sameNow d (f a) (f b)=some (decide (a=b)))(a:κ):∀(l:List MapEntry)(i:Nat),(∀e∈l,∃k,e.key=f k)→(∃j e,l[j]?=some e∧e.key=f a∧Instr.findNow d (f a) l i=some (some (i+j,e.val)))∨(∀e∈l,∀k,e.key=f k→k≠a)∧Instr.findNow d (f a) l i=some none
 |[],i,_=>.inr ⟨λe he=>by simp at he,rfl⟩|e::l,i,h=>by
  obtain⟨k,hk⟩:=h e (by simp);by_cases Er:a=k;·subst Er;exact .inl ⟨0,e,rfl,hk,by simp[Instr.findNow,hk,hs]⟩
  ·rcases Rv hs a l (i+1) λe he=>h e (by simp[he])with⟨j,e',h1,h2,h3⟩|⟨h1,h2⟩;·exact .inl ⟨j+1,e',by simpa using h1,h2,by simp[Instr.findNow,hk,hs,Er,h3];omega⟩
   ·refine .inr ⟨λx hx k' hk'=>?_,by simp[Instr.findNow,hk,hs,Er,h2]⟩;rcases List.mem_cons.1 hx with rfl|hx
    ·intro e';subst e';have :Instr.sameNow d (f k') (f k)=some true:=by rw[←hk,hk',hs];simp
     rw[hs]at this;simp at this;exact Er this
    ·exact h1 x hx k' hk'
theorem Ru(hd:P.underlying kt=some d)(hs:∀a b,Instr.sameNow d (f a) (f b)=some (decide (a=b)))(a:κ)(l:List MapEntry)(h:∀e∈l,∃k,e.key=f k):(∃j e,l[j]?=some e∧e.key=f a∧∀w,(Instr.findKey kt (f a) l).run P w=.ok (some (j,e.val)) w)∨(∀e∈l,∀k,e.key=f k→k≠a)∧∀w,(Instr.findKey kt (f a) l).run P w=.ok none w:=by
 rcases Rv hs a l 0 h with⟨j,e,h1,h2,h3⟩|⟨h1,h2⟩;·exact .inl ⟨j,e,h1,h2,λw=>by simp[Instr.findKey,dU hd,h3]⟩
 ·exact .inr ⟨h1,λw=>by simp[Instr.findKey,dU hd,h2]⟩
theorem Ow(hs:∀a b,Instr.sameNow d (f a) (f b)=some (decide (a=b))){a b:κ}(h:f a=f b):a=b:=by have h1:=hs a b;rw[h,hs b b]at h1;simp at h1;exact h1
theorem Tp{t e:TypeId}{T:Ty}{m:κ→Option T.den}{es:Array MapEntry}{w:World}{clock b:Nat}{z:Value}(ht:P.underlying t=some (.map kt e))(hd:P.underlying kt=some d)(hs:∀a b,Instr.sameNow d (f a) (f b)=some (decide (a=b)))(Jg:∀a w b n,(Instr.checkKey b (n+1) kt (f a)).run P w=.ok () w)(hz:(zeroValue e).run P w=.ok z w)(C9:Al w E.S T T.dflt [z])(hb:w.heap[b]?=some (.map es clock))(h:F0 f w E.S T m es)(a:κ):∃v,Al w E.S T ((m a).getD T.dflt) [v]∧∀ok,(Instr.lookup t (.map (some b)) (f a) ok).run P w=.ok (if ok then .tuple #[v,.bool (m a).isSome]else v) w:=by
 obtain⟨h1,h2,h3⟩:=h;have Jh:∀b,(Instr.checkKey b 10000 kt (f a)).run P w=.ok () w:=λb=>Jg a w b 9999;have hg:=SH (P:=P) hb;rcases Ru (P:=P) hd hs a es.toList λe he=>let⟨k,_,hk,_⟩:=h1 e he;⟨k,hk⟩with⟨j,e0,h4,h5,h6⟩|⟨h4,h5⟩;·obtain⟨k,x,h7,h8,h9⟩:=h1 e0 (gH h4);have hk:=Ow hs (h5.symm.trans h7);subst hk;refine⟨e0.val,by rw[h8];exact h9,λok=>?_⟩;cases ok<;>simp[Instr.lookup,dU ht,hg,Jh,h6,h8]
 ·have hn:m a=none:=by cases hm:m a with|none=>rfl|some x=>obtain⟨e0,X9,hk⟩:=h2 a x hm;exact absurd rfl (h4 e0 X9 a hk)
  refine⟨z,by rw[hn];exact C9,λok=>?_⟩;cases ok<;>simp[Instr.lookup,dU ht,hg,Jh,h5,hz,hn]
theorem Tq{t e:TypeId}{T:Ty}{m:κ→Option T.den}{es:Array MapEntry}{w:World}{clock b:Nat}{v:Value}{x:T.den}(ht:P.underlying t=some (.map kt e))(hd:P.underlying kt=some d)(hs:∀a b,Instr.sameNow d (f a) (f b)=some (decide (a=b)))(Jg:∀a w b n,(Instr.checkKey b (n+1) kt (f a)).run P w=.ok () w)(Xs:∀a,Instr.sameBits 10000 (f a) (f a)=true)(hv:Al w E.S T x [v])(hb:w.heap[b]?=some (.map es clock))(h:F0 f w E.S T m es)(a:κ):∃es' clock',(Instr.mapUpdate t (.map (some b)) (f a) v).run P w=.ok () (Gr w b (.map es' clock'))∧F0 f w E.S T (Bm m a x) es':=by
 obtain⟨h1,h2,h3⟩:=h;have Jh:(Instr.checkKey false 10000 kt (f a)).run P w=.ok () w:=Jg a w false 9999;have hg:=SH (P:=P) hb;have J3:=aG (P:=P) hb;rcases Ru (P:=P) hd hs a es.toList λe he=>let⟨k,_,hk,_⟩:=h1 e he;⟨k,hk⟩with⟨j,e0,h4,h5,h6⟩|⟨h4,h5⟩
 ·have hj:es[j]?=some e0:=by simpa using h4
  have FM:j<es.toList.length:=(List.getElem?_eq_some_iff.1 h4).1;refine⟨es.modify j λe=>{e with key:=f a,val:=v},clock,?_,λe1 Di=>?_,λk y hk=>?_,?_⟩;·simp[Instr.mapUpdate,dU ht,hg,Jh,h6,hj,Instr.keyThatStays,h5,Xs,J3]
  ·simp only[jO]at Di;obtain⟨i,hi⟩:=List.mem_iff_getElem?.1 Di;rw[jH]at hi;by_cases Ep:j=i;·subst Ep;simp[hj]at hi;subst hi;exact⟨a,x,rfl,by simp[Bm],hv⟩
   ·have hi2:es.toList[i]?=some e1:=by simpa[Ep]using hi
    clear hi;obtain⟨k,y,h7,h8,h9⟩:=h1 e1 (gH hi2);refine⟨k,y,h7,?_,h9⟩;unfold Bm;rw[dK ?_];·exact h8
    ·intro hk;subst hk;have CV:i<es.toList.length:=(List.getElem?_eq_some_iff.1 hi2).1;have hk1:(es.toList.map λe=>e.key)[j]?=some (f k):=by rw[fT,h4];simp[h5]
     have hk2:(es.toList.map λe=>e.key)[i]?=some (f k):=by rw[fT,hi2];simp[h7]
     obtain⟨IV,hj2⟩:=List.getElem?_eq_some_iff.1 hk1;obtain⟨Sx,hi4⟩:=List.getElem?_eq_some_iff.1 hk2;rcases Nat.lt_or_gt_of_ne Ep with AM|YE;·exact List.pairwise_iff_getElem.1 h3 j i IV Sx AM (hj2.trans hi4.symm)
     ·exact List.pairwise_iff_getElem.1 h3 i j Sx IV YE (hi4.trans hj2.symm)
  ·unfold Bm at hk;by_cases Er:k=a;·subst Er;exact⟨{e0 with key:=f k,val:=v},gH (i:=j) (by simp[hj]),rfl⟩
   ·rw[dK Er]at hk;obtain⟨e1,Di,hk1⟩:=h2 k y hk;obtain⟨i,hi⟩:=List.mem_iff_getElem?.1 Di;refine⟨e1,gH (i:=i) ?_,hk1⟩;simp only[jO,jH];by_cases Ep:j=i;·subst Ep;rw[h4]at hi;cases hi;exact absurd (Ow hs (hk1.symm.trans h5)) Er
    ·simp[Ep];simpa using hi
  ·have :(es.modify j λe=>{e with key:=f a,val:=v}).toList.map (λe=>e.key)=es.toList.map λe=>e.key:=by
    apply fP;intro i;simp only[jO,fT,jH];by_cases Ep:j=i;·subst Ep;simp[hj,h5]
    ·simp[Ep]
   rw[this];exact h3
 ·refine⟨es.push {key:=f a,val:=v,born:=clock},clock+1,?_,λe1 Di=>?_,λk y hk=>?_,?_⟩;·simp[Instr.mapUpdate,dU ht,hg,Jh,h5,J3]
  ·simp only[lU,fC,eN]at Di;rcases Di with Di|rfl;·obtain⟨k,y,h7,h8,h9⟩:=h1 e1 Di;refine⟨k,y,h7,?_,h9⟩;unfold Bm;rw[dK (h4 e1 Di k h7)];exact h8
   ·exact⟨a,x,rfl,by simp[Bm],hv⟩
  ·unfold Bm at hk;by_cases Er:k=a;·subst Er;exact⟨{key:=f k,val:=v,born:=clock},by simp,rfl⟩
   ·rw[dK Er]at hk;obtain⟨e1,Di,hk1⟩:=h2 k y hk;exact⟨e1,by simp[Array.mem_toList_iff.1 Di],hk1⟩
  ·simp only[lU,iU,fK,lN];rw[List.nodup_append];refine⟨h3,by simp,λu hu v' hv'=>?_⟩;simp only[eN]at hv';subst hv';obtain⟨e1,Di,rfl⟩:=List.mem_map.1 hu;obtain⟨k,y,h7,_⟩:=h1 e1 Di;intro he;exact h4 e1 Di k h7 (Ow hs (h7.symm.trans he))
end
theorem Uc(g:U P E objs)(hf:E.loc n=none){κ:Type}{f:κ→Value}{T:Ty}(o:Obj)(AI:∀(E':AB)(L:AH),(∃es clock,E'.w.heap[L.b]?=some (.map es clock)∧F0 f E'.w E'.S T (λ_=>none) es)→AY P E' L o):∃E',E'.w=E.w.alloc (.map #[] 0)∧U P E' ((n,o)::objs)∧Ak E objs E' ((n,o)::objs) []∧N P E' (.map n) (.map (some E.w.heap.size)):=by have hw:=fV E.w (.map #[] 0) none;let L:AH:={b:=E.w.heap.size};have h:=U.push g (L:=L) (o:=o) hf hw (AI _ _ ⟨#[],0,gN _ _,λe he=>by simp at he,λk x hk=>by simp at hk,by simp⟩) λ_=>dT _;exact⟨_,rfl,h.1,h.2,.map (A6 _ _ _ _)⟩
theorem W0(hτ:Ah P τ){t:TypeId}{out:AT}(h:NY τ n t=some out)(g:U P E objs)(hf:E.loc n=none):Ao P (Instr.makeMap t none) E objs out:=by
 unfold NY at h;split at h
 ·split at h
  ·rename_i T _;split at h
   ·split at h;·cases h;obtain⟨E',hw,h1,h2,h3⟩:=Uc g hf (f:=Value.string) (T:=T) (.smap T λ_=>none) λE' L h=>h;exact⟨E',_,by rw[hw];simp[Instr.makeMap],h1,h2,h3⟩
    ·cases h;obtain⟨E',hw,h1,h2,h3⟩:=Uc g hf (f:=Value.int .i64) (T:=T) (.imap T λ_=>none) λE' L h=>h;exact⟨E',_,by rw[hw];simp[Instr.makeMap],h1,h2,h3⟩
    ·cases h
   ·cases h
  ·cases h
 ·cases h
theorem VV{e:TypeId}{ei:TI}{T:Ty}(hei:ei.Ok P e)(hT:ei.code=some T)(h1:T.size=1)(hz:∃ie ze,P.info? e=some ie∧ie.zero=some ze∧ze.oneCell'=true):∃z,(∀w,(zeroValue e).run P w=.ok z w)∧∀w S,Al w S T T.dflt [z]:=by obtain⟨ie,ze,hi,C9,D0⟩:=hz;obtain⟨info,z,Le,hs,hb,TW,BS,B5⟩:=hei.info;rw[hi]at Le;cases Le;rw[C9]at TW;cases TW;refine⟨ze,λw=>Gx hi C9 w,λw S=>?_⟩;have :=(hei.code T hT).2.2 w S;rw[←BS,NA D0]at this;exact this
theorem Qs(a b:ByteArray):(a==b)=decide (a=b):=by
 obtain⟨a⟩:=a;obtain⟨b⟩:=b;show(a==b)=_;by_cases h:a=b;·subst h;simp
 ·have h2:¬ByteArray.mk a=ByteArray.mk b:=λe=>h (by cases e;rfl);simp[h]
theorem Us:∀a b:ByteArray,Instr.sameNow .string (.string a) (.string b)=some (decide (a=b)):=λa b=>by simp only[Instr.sameNow,Qs]
theorem Ur(q:IntKind):∀a b:Int,Instr.sameNow (.int q) (.int .i64 a) (.int .i64 b)=some (decide (a=b)):=λa b=>by
 by_cases h:a=b;·subst h;simp[Instr.sameNow]
 ·simp[Instr.sameNow,h]
theorem SB{T:Ty}{x:Option T.den}{ok:Bool}{v:Value}(h:Al E.w E.S T (x.getD T.dflt) [v]):N P E (Nv ok T x) (if ok then .tuple #[v,.bool x.isSome]else v):=by cases ok with|false=>exact .d h|true=>refine .tup rfl λj hj=>?_;match j,hj with|0,_=>exact .d h|1,_=>exact .mk_bool _
theorem Wz(hτ:Ah P τ){t:TypeId}{m k:V}{ok:Bool}{out:AT}(h:NX τ os t m k ok=some out)(hs:BV os objs)(g:U P E objs){c d:Value}(rm:N P E m c)(rk:N P E k d):Ao P (Instr.lookup t c d ok) E objs out:=by
 unfold NX at h;split at h
 ·rename_i kt e _ _ _ _ Ai;obtain⟨ht,hz⟩:=(hτ t _ Ai).kind;split at h
  ·rename_i l;obtain⟨K,hK,rfl⟩:=UF rm;split at h
   ·rename_i k0 sz by_ zero T h2;split at h
    ·rename_i h1;have Es:P.underlying kt=some .string:=(hτ kt _ h1).kind;split at h
     ·rename_i T' f h3;split at h
      ·rename_i s;split at h
       ·rename_i hT;subst hT;split at h;·rename_i AS;cases h;obtain⟨L,hL,_,es,clock,hb,hm⟩:=g.get hs h3;rw[hL]at hK;cases hK;rw[rk.str_inv];obtain⟨z,C9,D0⟩:=VV (hτ e _ h2) rfl (dJ AS) hz;obtain⟨v,B4,Bt⟩:=Tp (P:=P) ht Es Us λa w b n=>by simp[Instr.checkKey,dU Es] (C9 E.w) (D0 _ _) hb hm s;exact .same g (Bt ok) (SB B4)
        ·cases h
       ·cases h
      ·cases h
     ·cases h
    ·rename_i h1;have Es:P.underlying kt=some (.int .i64):=(hτ kt _ h1).kind;split at h
     ·rename_i T' f h3;split at h
      ·rename_i s;split at h
       ·rename_i hT;subst hT;split at h;·rename_i AS;cases h;obtain⟨L,hL,_,es,clock,hb,hm⟩:=g.get hs h3;rw[hL]at hK;cases hK;rw[rk.int_inv];obtain⟨z,C9,D0⟩:=VV (hτ e _ h2) rfl (dJ AS) hz;obtain⟨v,B4,Bt⟩:=Tp (P:=P) ht Es (Ur _) λa w b n=>by simp[Instr.checkKey,dU Es] (C9 E.w) (D0 _ _) hb hm s;exact .same g (Bt ok) (SB B4)
        ·cases h
       ·cases h
      ·cases h
     ·cases h
    ·cases h
   ·cases h
  ·cases h
 ·cases h
theorem Ue(g:U P E objs){l:Nat}{L:AH}{o o':Obj}{es':Array MapEntry}{clock':Nat}(hl:O l objs=some o)(hL:E.loc l=some L)(hh:o.has L)(ho:∀E':AB,E'.w.heap[L.b]?=some (.map es' clock')→BE E E' []→AY P E' L o'):∃E',E'.w=Gr E.w L.b (.map es' clock')∧U P E' ((l,o')::objs)∧Ak E objs E' ((l,o')::objs) []:=by have AM:=g.own_lt ⟨l,o,L,hl,hL,hh,rfl⟩;have hgr:E.w.grownBy (Gr E.w L.b (.map es' clock')) (some L.b):=⟨rfl,rfl,rfl,by simp[Gr],λk _ hk=>by simp only[Gr];rw[Array.getElem?_setIfInBounds_ne λe=>hk (by rw[e])]⟩;have BW:∀b,some L.b=some b→o.has L∧b=L.b:=λb e=>⟨hh,by cases e;rfl⟩;have hx:=Hl g (M:=[]) (L':=L) hl hL hgr BW λ_=>rfl;have h:=U.put g (mv:=false) (o':=o') hl hL hgr BW (λ_=>rfl) (ho _ (by simp[AB.setL,Gr,AM]) hx) λ_=>.inl ⟨hh,rfl⟩;exact⟨_,rfl,h.1,h.2⟩
theorem W3(hτ:Ah P τ){t:TypeId}{m k x:V}{out:AT}(h:Na τ os t m k x=some out)(hs:BV os objs)(g:U P E objs){c d v:Value}(rm:N P E m c)(rk:N P E k d)(rx:N P E x v):Qc P (Instr.mapUpdate t c d v) E objs out∧out.v=.tup []:=by
 unfold Na at h;split at h
 ·rename_i kt e _ _ _ _ Ai;obtain⟨ht,hz⟩:=(hτ t _ Ai).kind;split at h
  ·rename_i l;obtain⟨K,hK,rfl⟩:=UF rm;split at h
   ·rename_i h1;have Es:P.underlying kt=some .string:=(hτ kt _ h1).kind;split at h
    ·rename_i T f h3;split at h
     ·rename_i s;split at h;·rename_i y hy;cases h;have hc:=D1 hy (AE.cons rx .nil);obtain⟨L,hL,AI,es,clock,hb,hm⟩:=g.get hs h3;rw[hL]at hK;cases hK;rw[rk.str_inv];obtain⟨es',clock',h4,h5⟩:=Tq (P:=P) ht Es Us λa w b n=>by simp[Instr.checkKey,dU Es] λa=>by simp[Instr.sameBits,Qs] hc hb hm s;obtain⟨E',hw,g',st⟩:=Ue g (o':=.smap T (Bm f s y)) AI hL trivial λE' hb' hx=>⟨es',clock',hb',h5.mono hx.S⟩;exact⟨⟨E',by rw[hw];exact h4,g',st⟩,rfl⟩
      ·cases h
     ·cases h
    ·cases h
   ·rename_i h1;have Es:P.underlying kt=some (.int .i64):=(hτ kt _ h1).kind;split at h
    ·rename_i T f h3;split at h
     ·rename_i s;split at h;·rename_i y hy;cases h;have hc:=D1 hy (AE.cons rx .nil);obtain⟨L,hL,AI,es,clock,hb,hm⟩:=g.get hs h3;rw[hL]at hK;cases hK;rw[rk.int_inv];obtain⟨es',clock',h4,h5⟩:=Tq (P:=P) ht Es (Ur _) λa w b n=>by simp[Instr.checkKey,dU Es] λa=>by simp[Instr.sameBits] hc hb hm s;obtain⟨E',hw,g',st⟩:=Ue g (o':=.imap T (Bm f s y)) AI hL trivial λE' hb' hx=>⟨es',clock',hb',h5.mono hx.S⟩;exact⟨⟨E',by rw[hw];exact h4,g',st⟩,rfl⟩
      ·cases h
     ·cases h
    ·cases h
   ·cases h
  ·cases h
 ·cases h
theorem XN(l:List Int):∀s:ByteArray,l.foldl (λr n=>r.push (UInt8.ofNat n.toNat)) s=⟨s.data++(l.map λn=>UInt8.ofNat n.toNat).toArray⟩:=by induction l with|nil=>intro s;simp|cons n l ih=>intro s;rw[gC,ih];simp[ByteArray.push]
theorem Q6{w:World}{S:Nat→Prop}:∀{l:List Int}{cs:List Value},Aa w S (.int .u8) l cs→cs=l.map (Value.int .u8)|[],_,h=>h|n::l,_,⟨c1,c2,h,h1,h2⟩=>by rw[h,show c1=[.int .u8 n]from h1,Q6 h2];rfl
theorem Ws(hτ:Ah P τ){a b:TypeId}{x:V}{out:AT}(h:NQ τ os a b x=some out)(hs:BV os objs)(ho:Ae out.ob)(g:U P E objs){c:Value}(rx:N P E x c):Ao P (convert a b c) E objs out:=by
 unfold NQ at h;split at h
 ·rename_i k1 _ _ _ _ h1;have ha:P.underlying a=some (.int k1):=(hτ a _ h1).kind;split at h
  ·rename_i k2 _ _ _ _ h2;have hb:P.underlying b=some (.int k2):=(hτ b _ h2).kind;split at h;·cases h;rw[rx.int_inv];obtain⟨c,rfl,hc⟩:=Kh (P:=P) ho;exact .same' g (Md _ _) (by simp[convert,dU ha,dU hb,Conv.intToInt]) (hc E)
   ·cases h
  ·cases h
 ·rename_i e _ _ _ _ h1;have ha:P.underlying a=some (.slice e):=(hτ a _ h1).kind;split at h
  ·rename_i h2;have hb:P.underlying b=some .string:=(hτ b _ h2).kind;split at h
   ·rename_i h3;have he:P.underlying e=some (.int .u8):=(hτ e _ h3).kind;split at h
    ·rename_i l;split at h
     ·rename_i xs hcs;cases h;obtain⟨L,hL,_,hat⟩:=g.get hs hcs;obtain⟨K,hK,rfl⟩:=DB rx;rw[hL]at hK;cases hK;obtain⟨cs,FH,hl,Yj⟩:=Up hat;rcases Yj with⟨ad,cap,hv,hx⟩|⟨s,hv,_⟩;·rw[hv];have X4:=Q6 FH;have hrun:=kJ (P:=P) E.w a b e ad (List.length (α:=Int) xs) cap ha he hb;cases ad with
       |none=>
        have h0:xs=[]:=by cases xs with|nil=>rfl|cons x xs=>obtain⟨ad,h,_⟩:=hx (by simp);cases h
        subst h0;exact .same g (v:=.string ByteArray.empty) (by have :=hrun;simp only[eC]at this⊢;rw[this];simp[Conv.bytesToString]) (.mk_str _)|some ad=>
        have YK:(loadCells ad (List.length (α:=Int) xs)).run P E.w=.ok (List.map (Value.int .u8) xs).toArray E.w:=by
         have :=lT (P:=P) E.w ad (List.map (Value.int .u8) xs) λj v hj=>by
          have AW:0<List.length (α:=Int) xs:=by have :=(List.getElem?_eq_some_iff.1 hj).1;rw[fB]at this;omega
          obtain⟨ad',h,hx'⟩:=hx AW;cases h;exact hx' j v (by rw[X4];exact hj)
         rw[fB]at this;exact this
        refine .same g (v:=.string (BM xs)) ?_ (.mk_str _);refine hrun.trans ?_;rw[run_bytesToString E.w ad (List.length (α:=Int) xs) cap xs YK,XN];simp[BM,ByteArray.empty,ByteArray.emptyWithCapacity];rfl
      ·cases hv
     ·cases h
    ·cases h;cases rx with|nils a'=>have hrun:=kJ (P:=P) E.w a b e a' 0 0 ha he hb;exact .same g (v:=.string ByteArray.empty) (by rw[hrun];cases a'<;>simp[Conv.bytesToString,loadCells,loadCellsFrom]) (.mk_str _)
    ·cases h
   ·cases h
  ·cases h
 ·cases h
theorem Wr(hτ:Ah P τ){t ty:TypeId}{x:V}{out:AT}(h:NP τ os t x=some out)(hs:BV os objs)(ho:Ae out.ob)(g:U P E objs){c:Value}(rx:N P E x c):Ao P (Builtin.clear_ #[t] ty #[c]) E objs out:=by
 unfold NP at h;split at h
 ·rename_i e sz by_ zero co Ai;have ht:P.underlying t=some (.slice e):=(hτ t _ Ai).kind;split at h
  ·rename_i l lo m;split at h
   ·rename_i k2 sz2 by2 zero2 T he;have hei:=hτ e _ he;obtain⟨hTs,AW,ES⟩:=hei.code _ rfl;obtain⟨info,z,hi,AS,hb,hz,BS,B5⟩:=hei.info;have hTs:T.size=sz2:=hTs;have AW:0<T.size:=by rw[hTs];exact AW
    have BS:z.cells.toList=zero2:=BS;have B5:z.cells.size=sz2:=B5;split at h
    ·rename_i t' xs hcs;split at h
     ·rename_i hT;subst hT;cases h;have hle:lo+m≤xs.length:=ho;obtain⟨L,hL,AI,hat⟩:=g.get hs hcs;obtain⟨K,hK,EI⟩:=Ez rx;rw[hL]at hK;cases hK;by_cases hm:m=0
      ·subst hm;have Fz:xs.take lo++List.replicate 0 t'.dflt++xs.drop (lo+0)=xs:=by simp
       rw[Fz];have hp:=U.put g (mv:=false) (L':=L) (o':=.row t' xs) (w:=E.w) (row:=none) AI hL ⟨rfl,rfl,rfl,dT _,λ_ _ _=>rfl⟩ (λb hb=>by cases hb) (λ_=>rfl) (by
        refine hat.keep (⟨λb hb=>⟨hb,rfl⟩,λj K _ hK=>?_⟩:BE E (E.setL E.w l L) []) λ_=>rfl;by_cases e:j=l;·subst e;rw[hL]at hK;cases hK;exact A6 _ _ _ _
        ·rw[Ax _ _ _ e];exact hK) λhh=>.inl ⟨hh,rfl⟩;obtain⟨a,rfl,_⟩:=EI;refine⟨E.setL E.w l L,.tuple #[],?_,hp.1,hp.2,.tup rfl λj hj=>by simp at hj⟩;show _=Result.ok _ E.w;cases a<;>simp[Builtin.clear_,dU ht]
      ·have Yz:(Builtin.zeroCells z.cells m).toList=(List.replicate m zero2).flatten:=by
        have BR:0<z.cells.size:=by rw[B5,←hTs];exact AW
        have :=PB (z:=z.cells) (n:=m) (c:=m) BR (dT _);rw[BS]at this;rw[←this];show _=((Builtin.zeroCells z.cells m).toList).take _;rw[gW (by simp[gV])]
       obtain⟨w,BN,g1,g2⟩:=Px (ys:=List.replicate m t'.dflt) (lo:=lo) g AI hL hat (by simpa using hle) (by simp;omega) (Ip (ES E.w E.S) m);rw[eU]at g1 g2;refine⟨E.setL w l L,.tuple #[],?_,g1,g2,.tup rfl λj hj=>by simp at hj⟩;rw[MI hat hle (by omega) EI];cases m with|zero=>exact absurd rfl hm|succ m=>simp[Builtin.clear_,dU ht,Gx hi hz,Yz,BN];rfl
     ·cases h
    ·cases h
   ·cases h
  ·cases h
 ·cases h
end
section
variable {P : Program} {τ : AK} {E : AB} {os objs : AA} {n : Nat}
def G0(P:Program)(o:Oper)(ρ:Operand→Value)(E:AB)(objs:AA)(out:AT):Prop:=∃E' n v,(execOp ρ o).run P E.w=.ok n E'.w∧(n=.value v∨n=.skip∧v=undef)∧U P E' (edit objs out.ed)∧Ak E objs E' (edit objs out.ed) (moved out.ed)∧N P E' out.v v
theorem Ao.ran{o:Oper}{ρ:Operand→Value}{out:AT}{s:Sem Value}(h:Ao P s E objs out)(he:execOp ρ o=do let v←s;pure (Next.value v)):G0 P o ρ E objs out:=by obtain⟨E',v,h1,h2,h3,h4⟩:=h;exact⟨E',.value v,v,by rw[he];simp[h1],.inl rfl,h2,h3,h4⟩
theorem Gj{tmps:List (Nat×V)}{ρ:Operand→Value}:∀{xs:List Operand},(∀x∈xs,N P E (AL tmps x) (ρ x))→AE P E (Aw tmps xs) (xs.map ρ)|[],_=>.nil|x::xs,h=>.cons (h x (by simp)) (Gj λy hy=>h y (by simp[hy]))
theorem PC{tmps:List (Nat×V)}:∀{xs:List (Nat×Operand)},(F1 tmps xs).map (·.1)=xs.map (·.1)|[]=>rfl|(i,x)::xs=>by simp only[F1,fK,PC]
theorem PE{tmps:List (Nat×V)}:∀{xs:List (Nat×Operand)}(j:Nat),(F1 tmps xs)[j]?=(xs[j]?).map λp=>(p.1,AL tmps p.2)|[],j=>by simp[F1]|(i,x)::xs,0=>by simp[F1]|(i,x)::xs,j+1=>by simpa[F1]using PE j
theorem PF{tmps:List (Nat×V)}{xs:List Operand}{v:V}(h:Aw tmps xs=[v]):∃x,xs=[x]∧AL tmps x=v:=by match xs,h with|[x],h=>exact⟨x,rfl,by simpa[Aw]using h⟩|[],h=>simp[Aw]at h|_::_::_,h=>simp[Aw]at h
theorem KF{tmps:List (Nat×V)}{xs:List Operand}{u v:V}(h:Aw tmps xs=[u,v]):∃x y,xs=[x,y]∧AL tmps x=u∧AL tmps y=v:=by match xs,h with|[x,y],h=>exact⟨x,y,rfl,by simpa[Aw]using h⟩|[],h=>simp[Aw]at h|[_],h=>simp[Aw]at h|_::_::_::_,h=>simp[Aw]at h
set_option maxHeartbeats 1000000 in
theorem W8(hτ:Ah P τ){o:Oper}{tmps:List (Nat×V)}{out:AT}(h:JL τ o.op tmps os n=some out)(hs:BV os objs)(ho:Ae out.ob)(g:U P E objs)(hf:E.loc n=none){ρ:Operand→Value}(hρ:∀x∈o.op.operands,N P E (AL tmps x) (ρ x))(hc:∀v,ρ (.const v)=v):G0 P o ρ E objs out:=by
 obtain⟨dst,op,type,pos,after,guard⟩:=o;cases op<;>simp only[JL]at h<;>try(cases h;done)
 case move x=>cases h;exact(Ao.same g (s:=pure (ρ x)) (by simp) (hρ x (by simp[Op.operands]))).ran rfl
 case assign x=>cases h;exact(Ao.same g (s:=pure (ρ x)) (by simp) (hρ x (by simp[Op.operands]))).ran rfl
 case pick c a b=>
  have :=W4 (P:=P) h ho g (hρ c (by simp[Op.operands])) (hρ a (by simp[Op.operands])) (hρ b (by simp[Op.operands])) (λv e=>by subst e;exact hc _) λv e=>by subst e;exact hc _
  exact this.ran (by simp[execOp])
 case alloc t=>exact(Wi hτ h g hf).ran rfl
 case box t x=>exact(Wn h g hf (hρ x (by simp[Op.operands]))).ran rfl
 case build t parts=>refine(Wq (vals:=parts.map λ(i,x)=>(i,ρ x)) hτ h g (by rw[PC];simp) λj p q hp hq=>?_).ran rfl;rw[PE,eL]at hp;simp only[iL,fT,eL]at hq;obtain⟨x,hx1,rfl⟩:=hp;obtain⟨y,Gc,rfl⟩:=hq;rw[hx1]at Gc;cases Gc;exact hρ _ (by simp only[Op.operands];exact List.mem_toArray.2 (List.mem_map.2 ⟨x,gH hx1,rfl⟩))
 case buildSlice t m parts=>refine(Wo (vals:=parts.map λ(i,x)=>(i,ρ x)) hτ h g hf (by rw[PC];simp) λj p q hp hq=>?_).ran rfl;rw[PE,eL]at hp;simp only[iL,fT,eL]at hq;obtain⟨x,hx1,rfl⟩:=hp;obtain⟨y,Gc,rfl⟩:=hq;rw[hx1]at Gc;cases Gc;exact hρ _ (by simp only[Op.operands];exact List.mem_toArray.2 (List.mem_map.2 ⟨x,gH hx1,rfl⟩))
 case load t a=>exact(Wy hτ h hs ho g (hρ a (by simp[Op.operands]))).ran rfl
 case store t a x=>obtain⟨⟨E',h1,h2,h3⟩,hv⟩:=W6 hτ h hs ho g (hρ a (by simp[Op.operands])) (hρ x (by simp[Op.operands]));exact⟨E',.skip,undef,by simp[execOp,h1],.inr ⟨rfl,rfl⟩,h2,h3,by rw[hv];exact .tup rfl λj hj=>by simp at hj⟩
 case nilCheck x=>
  have r:=hρ x (by simp[Op.operands]);split at h;·rename_i l o e;cases h;rw[e]at r;obtain⟨L,hL,hq⟩:=Io r;exact(Ao.same g (s:=pure (ρ x)) (by simp) r).ran (by simp[execOp,hq])
  ·rename_i cs e;cases h;rw[e]at r;obtain⟨b,off,vals,hq,_⟩:=JR r;exact(Ao.same g (s:=pure (ρ x)) (by simp) r).ran (by simp[execOp,hq])
  ·rename_i b cs e;cases h;rw[e]at r;cases r with|opt h1 h2=>have r':=h1 ho;obtain⟨b,off,vals,hq,_⟩:=JR r';exact(Ao.same g (s:=pure (ρ x)) (by simp) r').ran (by simp[execOp,hq])
  ·rename_i f a b e;cases h;rw[e]at r;cases hq:ρ x with|func fn fs cs=>rw[hq]at r;have r2:=r;cases r2;exact(Ao.same g (s:=pure (.func (.func f) fs cs)) (by simp) r).ran (by simp[execOp,hq])|_=>rw[hq]at r;cases r
  ·cases h
 case binOp op xt x y yt=>exact(Wm (ox:=x) (oy:=y) hτ h ho g (hρ x (by simp[Op.operands])) (hρ y (by simp[Op.operands]))).ran rfl
 case unOp op xt x=>exact(W7 h ho g (hρ x (by simp[Op.operands]))).ran rfl
 case convert a b x=>exact(Ws hτ h hs ho g (hρ x (by simp[Op.operands]))).ran rfl
 case makeFunc f a b=>
  cases h;have h1:AE P E (Aw tmps a.toList) (a.toList.map ρ):=Gj λx hx=>hρ x (by simp[Op.operands,Array.mem_toList_iff.1 hx]);have h2:AE P E (Aw tmps b.toList) (b.toList.map ρ):=Gj λx hx=>hρ x (by simp[Op.operands,Array.mem_toList_iff.1 hx]);refine(Ao.same g (s:=Instr.makeFunc f (a.map ρ) (b.map ρ)) (v:=.func f (a.map ρ) (b.map ρ)) (by simp[Instr.makeFunc]) (.fn (by simpa using h1.1) (by simpa using h2.1) (λj hj=>?_) λj hj=>?_)).ran rfl;·have :=h1.2 j hj;simpa[dQ,dM]using this
  ·have :=h2.2 j hj;simpa[dQ,dM]using this
 case makeSlice t l c=>exact(W1 hτ h ho g hf (hρ l (by simp[Op.operands])) (hρ c (by simp[Op.operands]))).ran rfl
 case slice t x lo hi mx=>
  have Oc:∀y:Option Operand,(∀z,y=some z→N P E (AL tmps z) (ρ z))→Fg P E (MF tmps y) (y.map ρ):=by intro y hy;cases y with|none=>trivial|some z=>exact hy z rfl
  exact(W5 (lo':=lo.map ρ) (hi':=hi.map ρ) (mx':=mx.map ρ) hτ h hs ho g (hρ x (by simp[Op.operands])) (Oc lo λz e=>hρ z (by subst e;simp[Op.operands])) (Oc hi λz e=>hρ z (by subst e;simp[Op.operands])) (Oc mx λz e=>hρ z (by subst e;simp[Op.operands]))).ran rfl
 case fieldAddr t x f=>exact(Wu hτ h g (hρ x (by simp[Op.operands]))).ran rfl
 case indexAddr t x i=>exact(Wv hτ h hs ho g (hρ x (by simp[Op.operands])) (hρ i (by simp[Op.operands]))).ran rfl
 case index t x i=>exact(Rj hτ h g (hρ x (by simp[Op.operands])) (hρ i (by simp[Op.operands]))).ran rfl
 case makeMap t r=>cases r with|some _=>cases h|none=>exact(W0 hτ h g hf).ran (by simp[execOp])
 case lookup t m k ok=>exact(Wz hτ h hs g (hρ m (by simp[Op.operands])) (hρ k (by simp[Op.operands]))).ran rfl
 case mapUpdate t m k x=>obtain⟨⟨E',h1,h2,h3⟩,hv⟩:=W3 hτ h hs g (hρ m (by simp[Op.operands])) (hρ k (by simp[Op.operands])) (hρ x (by simp[Op.operands]));exact⟨E',.skip,undef,by simp[execOp,h1],.inr ⟨rfl,rfl⟩,h2,h3,by rw[hv];exact .tup rfl λj hj=>by simp at hj⟩
 case extract x i=>
  have r:=hρ x (by simp[Op.operands]);split at h
  ·rename_i vs e;split at h;·rename_i v hv;cases h;rw[e]at r;cases hq:ρ x with
    |tuple us=>rw[hq]at r;cases r with|tup h1 h2=>
     have hi:i<vs.length:=(List.getElem?_eq_some_iff.1 hv).1;have :=h2 i hi;rw[dM,hv]at this;have hu:us[i]?=some (us.getD i undef):=by rw[dQ,eZ (by omega)];rfl
     exact(Ao.same g (s:=Instr.extract (ρ x) i) (v:=us.getD i undef) (by rw[hq];simp only[Instr.extract,hu];rfl) this).ran rfl
    |_=>rw[hq]at r;cases r
   ·cases h
  ·cases h
 case call c=>
  obtain⟨callee,args,argTypes⟩:=c;cases callee<;>simp only at h<;>try(cases h;done)
  rename_i b;have hargs:∀x∈args.toList,N P E (AL tmps x) (ρ x):=λx hx=>hρ x (by simp[Op.operands,Call.operands,Array.mem_toList_iff.1 hx]);obtain⟨al⟩:=args;obtain⟨tl⟩:=argTypes;unfold NO at h;cases b<;>simp only at h<;>try(cases h;done)
  case len=>
   split at h
   ·split at h;·rename_i t _ x e2;obtain⟨y,rfl,rfl⟩:=PF e2;exact(Wx (ty:=type) hτ h hs g (hargs y (by simp))).ran (by simp[execOp,resolve,invoke,builtin])
    ·cases h
   ·cases h
  case append=>
   split at h
   ·split at h;·rename_i t u _ x y e2;obtain⟨a,b,rfl,rfl,rfl⟩:=KF e2;exact(Wl (ty:=type) hτ h hs ho g hf (hargs a (by simp)) (hargs b (by simp))).ran (by simp[execOp,resolve,invoke,builtin])
    ·cases h
   ·cases h
  case copy=>
   split at h
   ·split at h;·rename_i t u _ x y e2;obtain⟨a,b,rfl,rfl,rfl⟩:=KF e2;exact(Wt (ty:=type) hτ h hs ho g (hargs a (by simp)) (hargs b (by simp))).ran (by simp[execOp,resolve,invoke,builtin])
    ·cases h
   ·cases h
  case min=>
   split at h;·rename_i x y e2;obtain⟨a,b,rfl,rfl,rfl⟩:=KF e2;exact(Rl (mx:=false) h g (hargs a (by simp)) (hargs b (by simp)) ⟨_⟩ type).ran (by simp[execOp,resolve,invoke,builtin];rfl)
   ·cases h
  case max=>
   split at h;·rename_i x y e2;obtain⟨a,b,rfl,rfl,rfl⟩:=KF e2;exact(Rl (mx:=true) h g (hargs a (by simp)) (hargs b (by simp)) ⟨_⟩ type).ran (by simp[execOp,resolve,invoke,builtin];rfl)
   ·cases h
  case clear=>
   split at h
   ·split at h;·rename_i t _ x e2;obtain⟨y,rfl,rfl⟩:=PF e2;exact(Wr (ty:=type) hτ h hs ho g (hargs y (by simp))).ran (by simp[execOp,resolve,invoke,builtin])
    ·cases h
   ·cases h
  case cap=>
   split at h
   ·split at h
    ·rename_i t _ e2;obtain⟨y,rfl,hy⟩:=PF e2;split at h;·rename_i e _ _ _ _ Ai;have ht:P.underlying t=some (.slice e):=(hτ t _ Ai).kind;cases h;have r:=hargs y (by simp);rw[hy]at r;cases hq:ρ y with
      |slice a n c=>rw[hq]at r;cases r with|nils=>exact(Ao.same g (s:=Builtin.cap_ #[t] type #[.slice a 0 0]) (v:=.int .i64 0) (by simp[Builtin.cap_,dU ht,goInt]) (.mk_int _ _)).ran (by simp[execOp,resolve,invoke,builtin,hq])
      |_=>rw[hq]at r;cases r
     ·cases h
    ·cases h
   ·cases h
end
section
def fz(r:Option Nat):Fence:={Fence.wide with round:=r}
theorem LO{P:Program}{r:Option Nat}{n:Nat}{f:FuncId}{args:Array Value}{w:World}{R:Ending→World→Prop}(h:Calls P f args w R):CallsIn (fz r) n P f args w R:=(callsIn_wide (n:=n)).2 h
inductive Df where|mark(l:Nat)|fn(g:FuncId)(cs:List V)
structure St where
 nt:Nat
 tmps:List (Nat×V)
 objs:AA
 nx:Nat
 df:List Df
 wr:List Nat
 di:List Nat
 mv:List Nat
structure Cx where
 E:AB
 imp:AA
def CB(P:Program)(E:AB):List Df→List Deferred→Prop|[],ds=>ds=[]|.mark l::r,ds=>∃L rest,ds=⟨.collected L,#[]⟩::rest∧(∃K,E.loc l=some K∧K.b=L)∧CB P E r rest|.fn g cs::r,ds=>∃q rest,ds=⟨.fn (.func g) q,#[]⟩::rest∧AE P E cs q.toList∧CB P E r rest
structure Af(P:Program)(cx:Cx)(s:St)(a:Act)(E:AB):Prop where
 good:U P E s.objs
 fresh:∀l,s.nx≤l→E.loc l=none
 step:Ak cx.E cx.imp E s.objs s.mv
 drawn:cx.E.w.drawn≤E.w.drawn
 size:a.tmps.size=s.nt
 df:CB P E s.df a.defers
 rep:∀t,N P E (AF t s.tmps) (a.tmps.getD t undef)
def Ab(P:Program)(cx:Cx)(s:St)(a:Act)(w:World):Prop:=∃E,E.w=w∧Af P cx s a E
def Wk(P:Program)(cx:Cx)(s s':St):Prop:=∀a w,Ab P cx s a w→Ab P cx s' a w
theorem Wk.refl{P:Program}{cx:Cx}(s:St):Wk P cx s s:=λ_ _ h=>h
theorem Wk.trans{P:Program}{cx:Cx}{s s' s'':St}(h:Wk P cx s s')(k:Wk P cx s' s''):Wk P cx s s'':=λa w r=>k a w (h a w r)
abbrev CC:=Exit→Act→World→Prop
section rules
variable {P : Program} {r : Option Nat} {cx : Cx} {R : CC} {s : St} {a : Act} {w : World}
theorem V4{c:Code}(h:c.wpIn (fz r) 0 P (λe a w=>match e with|.goto _=>False|e=>R e a w) a w):(Code.scope c).wpIn (fz r) 0 P R a w:=by
 intro b k cs Ga hb hr;obtain⟨e,a₁,w₁,hq,Dh⟩:=h b (.inScope c::k) cs Ga hb hr;have s1:StepsIn (Machine.fenced P (fz r)) P (lone (b.atR a (.code (.scope c)::k)) cs w) (lone (b.atR a (.code c::.inScope c::k)) cs w):=.one (kU hb hr rfl) (step_lone_go (by simp[stepG,stepG.exec,Frame.atR]));have s2:∀a w,StepsIn (Machine.fenced P (fz r)) P (lone (b.atR a (.inScope c::k)) cs w) (lone (b.atR a k) cs w):=λa w=>.one (kU (fr:=b.atR a (.inScope c::k)) hb hr rfl) (step_lone_go (by simp[stepG,stepG.exec,Frame.atR]));have hx:∀id,exitTo id (.inScope c::k)=exitTo id k:=λid=>by simp[exitTo]
 cases e with|normal=>exact⟨.normal,a₁,w₁,hq,s1.trans (StepsIn.trans Dh (s2 _ _))⟩|exit id=>exact⟨.exit id,a₁,w₁,hq,λk' hk=>s1.trans (Dh.1 k' (by rw[hx];exact hk)),λh1 h2=>let⟨k₁,h3,h4⟩:=Dh.2 h1 (by rw[hx];exact h2);⟨k₁,h3,s1.trans h4⟩⟩|goto l=>exact hq.elim|ret=>exact⟨_,a₁,w₁,hq,.of_steps s1 Dh⟩|panic ch=>exact⟨_,a₁,w₁,hq,.of_steps s1 Dh⟩|outgrown=>exact⟨_,a₁,w₁,hq,.of_steps s1 Dh⟩
def E9(F:Fence)(P:Program)(c:Code)(R:CC)(a:Act)(w:World):Prop:=∀(b:Frame)(k:List Item)(cs:List Frame),b.roundOf=F.round→F.fn b.fn→F.room (cs.length+1+0)→∃e a' w',R e a' w'∧ArrivesIn (Machine.fenced P F) P (lone (b.atR a (.code c::.inLoop c::k)) cs w) b k cs e a' w'
theorem E9.loop{F:Fence}{c:Code}(h:E9 F P c R a w):(Code.loop c).wpIn F 0 P R a w:=by intro b k cs Ga hb hr;obtain⟨e,a',w',hq,Dh⟩:=h b k cs Ga hb hr;exact⟨e,a',w',hq,.of_steps (.one (kU hb hr rfl) stepR_loop) Dh⟩
theorem E9.round{F:Fence}{c:Code}(h:c.wpIn F 0 P (Exit.then (E9 F P c R) R) a w):E9 F P c R a w:=by intro b k cs Ga hb hr;obtain⟨e,a₁,w₁,hq,Dh⟩:=h b (.inLoop c::k) cs Ga hb hr;cases e with|normal=>obtain⟨e₂,a₂,w₂,hq₂,harr₂⟩:=hq b k cs Ga hb hr;exact⟨e₂,a₂,w₂,hq₂,.of_steps (StepsIn.trans Dh (.one (kU hb hr rfl) stepR_inLoop)) harr₂⟩|exit id=>exact⟨_,a₁,w₁,hq,.pass (x:=.inLoop c) rfl (λ_ _=>.inl (by simp)) Dh⟩|goto l=>exact⟨_,a₁,w₁,hq,.pass (x:=.inLoop c) rfl (λ_ _=>.inl (by simp)) Dh⟩|ret=>exact⟨_,a₁,w₁,hq,.pass (x:=.inLoop c) rfl (λ_ _=>.inl (by simp)) Dh⟩|panic ch=>exact⟨_,a₁,w₁,hq,.pass (x:=.inLoop c) rfl (λ_ _=>.inl (by simp)) Dh⟩|outgrown=>exact⟨_,a₁,w₁,hq,.pass (x:=.inLoop c) rfl (λ_ _=>.inl (by simp)) Dh⟩
theorem Fm{E:AB}{tmps:List (Nat×V)}(h:∀t,N P E (AF t tmps) (a.tmps.getD t undef))(x:Operand):N P E (AL tmps x) (a.eval x):=by cases x with|tmp t=>exact h t|const v=>exact Mc v|global g=>exact .any _|func f=>exact .fn rfl rfl (λj hj=>by simp at hj) λj hj=>by simp at hj
end rules
mutual
def V.has(l:Nat):V→Bool|.fn _ a b=>FF l a||FF l b|.agg cs=>FF l cs|.tup cs=>FF l cs|.er cs=>FF l cs|.when _ v=>V.has l v|.opt _ v=>V.has l v|.ref k _=>Nat.beq k l|.rref k _ _=>Nat.beq k l|.osl k=>Nat.beq k l|.osp k _ _=>Nat.beq k l|.map k=>Nat.beq k l|.yl k=>Nat.beq k l|.bsl k _=>Nat.beq k l|_=>false
def FF(l:Nat):List V→Bool|[]=>false|v::r=>V.has l v||FF l r
end
mutual
theorem KZ{l:Nat}{f:V→V}(hf:∀v,v.isRef=true→v.has l=false→f v=v):∀{v:V},v.has l=false→v.subst f=v|.fn g a b,h=>by simp only[V.has,gP]at h;simp only[V.subst,GA hf h.1,GA hf h.2]|.agg cs,h=>by simp only[V.has]at h;simp only[V.subst,GA hf h]|.tup cs,h=>by simp only[V.has]at h;simp only[V.subst,GA hf h]|.er cs,h=>by simp only[V.has]at h;simp only[V.subst,GA hf h]|.when b v,h=>by simp only[V.has]at h;simp only[V.subst,KZ hf h]|.opt b v,h=>by simp only[V.has]at h;simp only[V.subst,KZ hf h]|.ref k o,h=>hf _ rfl h|.rref k i o,h=>hf _ rfl h|.osl k,h=>hf _ rfl h|.osp k lo n,h=>hf _ rfl h|.map k,h=>hf _ rfl h|.yl k,h=>hf _ rfl h|.bsl k n,h=>hf _ rfl h|.any,_=>rfl|.d _ _,_=>rfl|.nilp,_=>rfl|.nilf,_=>rfl|.nils,_=>rfl|.nilm,_=>rfl|.pf _ _ _ _,_=>rfl
theorem GA{l:Nat}{f:V→V}(hf:∀v,v.isRef=true→v.has l=false→f v=v):∀{cs:List V},FF l cs=false→Br f cs=cs|[],_=>rfl|v::r,h=>by simp only[FF,gP]at h;simp only[Br,KZ hf h.1,GA hf h.2]
end
theorem ZC{l:Nat}(v:V)(hr:v.isRef=true)(h:v.has l=false):Bh l v=v:=by cases v<;>simp only[V.isRef,eW]at hr<;>simp only[V.has]at h<;>simp only[Bh,V.key,h]
def Fq(l:Nat):List (Nat×V)→List Nat|[]=>[]|(t,v)::r=>match v.has l with|true=>t::Fq l r|false=>Fq l r
def Obj.hasR(l:Nat):Obj→Bool
 |.box cs|.vrow _ _ cs _=>FF l cs|.lrec _ tmps _ _ _ _ _=>match Fq l tmps with|[]=>false|_=>true
 |_=>false
def Je(l:Nat):AA→List Nat|[]=>[]|(k,o)::r=>match o.hasR l with|true=>k::Je l r|false=>Je l r
def Df.subst(f:V→V):Df→Df|.mark l=>.mark l|.fn g cs=>.fn g (Br f cs)
def Fb(f:V→V):List Df→List Df|[]=>[]|d::r=>d.subst f::Fb f r
def IP(l:Nat):List Df→Bool|[]=>false|.mark _::r=>IP l r|.fn _ cs::r=>FF l cs||IP l r
def Cm(f:V→V):List (Nat×V)→List (Nat×V)|[]=>[]|(t,v)::r=>(t,v.subst f)::Cm f r
theorem Gu(f:V→V):∀l,Cm f l=l.map λp=>(p.1,p.2.subst f)|[]=>rfl|(t,v)::r=>by simp only[Cm,Gu f r,fK]
def St.subst(l:Nat)(f:V→V):St→St|⟨nt,tmps,objs,nx,df,wr,di,mv⟩=>⟨nt,Cm f tmps,substO f objs,nx,Fb f df,match IP l df with|true=>nt::(Fq l tmps++wr)|false=>Fq l tmps++wr,Je l objs++di,mv⟩
def FB(l nx:Nat):Nat:=match Nat.beq l nx with|true=>nx+1|false=>nx
def St.edit(s:St):Option (Nat×Obj×Bool)→St
 |none=>s|some (l,o,false)=>match s with|⟨nt,tmps,objs,nx,df,wr,di,mv⟩=>⟨nt,tmps,(l,o)::objs,FB l nx,df,wr,l::di,mv⟩
 |some (l,o,true)=>match s.subst l (Bh l)with|⟨nt,tmps,objs,nx,df,wr,di,mv⟩=>⟨nt,tmps,(l,o)::objs,FB l nx,df,wr,l::di,l::mv⟩
def St.setT(s:St)(dst:Option Nat)(v:V):Option St:=match dst with|none=>some s|some d=>match Nat.blt d s.nt with
 |true=>match s with|⟨nt,tmps,objs,nx,df,wr,di,mv⟩=>some ⟨nt,(d,v)::tmps,objs,nx,df,d::wr,di,mv⟩
 |false=>none
structure AC(s s':St):Prop where
 nt:s'.nt=s.nt
 nx:s.nx≤s'.nx
 wr:∀t∈s.wr,t∈s'.wr
 di:∀l∈s.di,l∈s'.di
 mv:∀l∈s.mv,l∈s'.mv
 tmp:∀t,t∉s'.wr→AF t s'.tmps=AF t s.tmps
 obj:∀l,l∉s'.di→O l s'.objs=O l s.objs
 df:s.nt∉s'.wr→s'.df=s.df
theorem AC.refl(s:St):AC s s:=⟨rfl,dT _,λ_ h=>h,λ_ h=>h,λ_ h=>h,λ_ _=>rfl,λ_ _=>rfl,λ_=>rfl⟩
theorem AC.trans{s s' s'':St}(h:AC s s')(k:AC s' s''):AC s s'':=⟨k.nt.trans h.nt,eO h.nx k.nx,λt ht=>k.wr t (h.wr t ht),λt ht=>k.di t (h.di t ht),λt ht=>k.mv t (h.mv t ht),λt ht=>(k.tmp t ht).trans (h.tmp t λhm=>ht (k.wr t hm)),λl hl=>(k.obj l hl).trans (h.obj l λhm=>hl (k.di l hm)),λhn=>(k.df (h.nt▸hn)).trans (h.df λhm=>hn (k.wr _ hm))⟩
theorem PA{f:V→V}{l:Nat}(hf:∀v,v.isRef=true→v.has l=false→f v=v){t:Nat}:∀{tmps:List (Nat×V)},t∉Fq l tmps→AF t (Cm f tmps)=AF t tmps|[],_=>rfl|(u,v)::r,h=>by simp only[Fq]at h;rw[Cm,BU,BU];cases hv:v.has l with|true=>rw[hv]at h;simp only[eA,fJ]at h;rw[dK (eS h.1),dK (eS h.1)];exact PA hf h.2|false=>
 rw[hv]at h;rw[KZ hf hv];split;·rfl
 ·exact PA hf h
theorem U5{f:V→V}{l:Nat}(hf:∀v,v.isRef=true→v.has l=false→f v=v):∀{tmps:List (Nat×V)},Fq l tmps=[]→Cm f tmps=tmps|[],_=>rfl|(u,v)::r,h=>by simp only[Fq]at h;cases hv:v.has l with|true=>rw[hv]at h;simp at h|false=>rw[hv]at h;simp only[Cm,KZ hf hv,U5 hf h]
theorem Ze{f:V→V}{l:Nat}(hf:∀v,v.isRef=true→v.has l=false→f v=v){o:Obj}(h:o.hasR l=false):o.subst f=o:=by cases o with
 |box cs=>simp only[Obj.hasR]at h;simp only[Obj.subst,GA hf h]|vrow t xs cs m=>simp only[Obj.hasR]at h;simp only[Obj.subst,GA hf h]|lrec nt tmps ps a b st j=>
  simp only[Obj.hasR]at h;split at h;·rename_i h1;simp only[Obj.subst];rw[←Gu,U5 hf h1]
  ·cases h|_=>rfl
theorem Nz{f:V→V}{l:Nat}(hf:∀v,v.isRef=true→v.has l=false→f v=v){k:Nat}:∀{objs:AA},k∉Je l objs→O k (substO f objs)=O k objs|[],_=>rfl|(u,o)::r,h=>by simp only[Je]at h;rw[substO,Ad,Ad];cases hv:o.hasR l with|true=>rw[hv]at h;simp only[eA,fJ]at h;rw[dK (eS h.1),dK (eS h.1)];exact Nz hf h.2|false=>
 rw[hv]at h;rw[Ze hf hv];split;·rfl
 ·exact Nz hf h
theorem P8{f:V→V}{l:Nat}(hf:∀v,v.isRef=true→v.has l=false→f v=v):∀{df:List Df},IP l df=false→Fb f df=df|[],_=>rfl|.mark _::r,h=>by simp only[IP]at h;simp only[Fb,Df.subst,P8 hf h]|.fn g cs::r,h=>by simp only[IP,gP]at h;simp only[Fb,Df.subst,GA hf h.1,P8 hf h.2]
theorem AC.subst{s:St}{l:Nat}{f:V→V}(hf:∀v,v.isRef=true→v.has l=false→f v=v):AC s (s.subst l f):=by
 obtain⟨nt,tmps,objs,nx,df,wr,di,mv⟩:=s;simp only[St.subst];refine⟨rfl,dT _,λt ht=>?_,λt ht=>fN _ ht,λ_ h=>h,λt ht=>PA hf λhm=>ht ?_,λk hk=>Nz hf λhm=>hk (fR _ hm),λhn=>?_⟩
 ·dsimp only;split;·exact dS _ (fN _ ht)
  ·exact fN _ ht
 ·dsimp only;split;·exact dS _ (fR _ hm)
  ·exact fR _ hm
 ·dsimp only at hn⊢;split at hn;·simp at hn
  ·rename_i h;exact P8 hf h
theorem Tx(l nx:Nat):nx≤FB l nx:=by unfold FB;split<;>omega
theorem AC.edit(s:St)(ed:Option (Nat×Obj×Bool)):AC s (s.edit ed):=by match ed with|none=>exact .refl s|some (l,o,false)=>obtain⟨nt,tmps,objs,nx,df,wr,di,mv⟩:=s;exact⟨rfl,Tx _ _,λ_ h=>h,λ_ h=>dS _ h,λ_ h=>h,λ_ _=>rfl,λk hk=>by simp only[St.edit,eA,fJ]at hk;simp only[St.edit];rw[Ad,dK (eS hk.1)],λ_=>rfl⟩|some (l,o,true)=>have h:=AC.subst (s:=s) (l:=l) (f:=Bh l) ZC;have e:s.edit (some (l,o,true))=match s.subst l (Bh l)with|⟨nt,tmps,objs,nx,df,wr,di,mv⟩=>⟨nt,tmps,(l,o)::objs,FB l nx,df,wr,l::di,l::mv⟩:=rfl;rw[e];generalize s.subst l (Bh l)=s1 at h;refine h.trans ?_;obtain⟨nt,tmps,objs,nx,df,wr,di,mv⟩:=s1;exact⟨rfl,Tx _ _,λ_ h=>h,λ_ h=>dS _ h,λ_ h=>dS _ h,λ_ _=>rfl,λk hk=>by simp only[eA,fJ]at hk;simp only;rw[Ad,dK (eS hk.1)],λ_=>rfl⟩
theorem AC.setT{s s':St}{dst:Option Nat}{v:V}(h:s.setT dst v=some s'):AC s s':=by
 unfold St.setT at h;split at h;·cases h;exact .refl s
 ·split at h;·rename_i d hd;obtain⟨nt,tmps,objs,nx,df,wr,di,mv⟩:=s;cases h;exact⟨rfl,dT _,λ_ h=>dS _ h,λ_ h=>h,λ_ h=>h,λt ht=>by simp only[eA,fJ]at ht;simp only;rw[BU,dK (eS ht.1)],λ_ _=>rfl,λ_=>rfl⟩
  ·cases h
end
section
variable {P : Program} {τ : AK} {E : AB} {objs : AA}
def frz(l:Nat)(o:Obj)(v:V):V:=match v with
 |.osl k=>match Nat.beq k l with|false=>v|true=>match o with|.row T xs=>.d (.sl T) xs|_=>.any
 |.ref k off=>match Nat.beq k l with|false=>v|true=>match o with|.box cs=>.er (Ei off cs)|_=>.any
 |v=>Bh l v
theorem XO{l:Nat}{o:Obj}(v:V)(hr:v.isRef=true)(h:v.has l=false):frz l o v=v:=by cases v<;>simp only[V.isRef,eW]at hr<;>simp only[V.has]at h<;>simp only[frz,Bh,V.key,h]
theorem Aa.cell{w:World}{S:Nat→Prop}{b:Nat}{cur:Array Value}{e:TypeId}(hb:w.heap[b]?=some (.cells cur e (0,0))){T:Ty}{xs:List T.den}(h:Aa w S T xs (cur.toList.take (xs.length*T.size)))(i:Nat)(x:T.den)(hx:xs[i]?=some x):∃c,Al w S T x c∧∀j u,c[j]?=some u→w.cell? ⟨b,0+i*T.size+j,none⟩=some u:=by
 obtain⟨c,h1,h2⟩:=h.get i x hx;refine⟨c,h1,λj u hj=>?_⟩;have h3:=h2 j u hj;rw[Fj hb,fE];rw[eE]at h3;split at h3;·simpa using h3
 ·cases h3
theorem JW(g:U P E objs){l:Nat}{o:Obj}(hl:O l objs=some o){L:AH}(hL:E.loc l=some L){E2:AB}(h2:E2=E.still L.b (o.has L)){v:V}{c:Value}(hr:v.isRef=true)(r:N P E v c):N P E2 (frz l o v) c:=by
 subst h2;have hx:BE E (E.still L.b (o.has L)) []:=⟨λb hs=>⟨.inl hs,rfl⟩,λj K _ hK=>hK⟩;have hat:AY P E L o:=by obtain⟨K,hK,ha⟩:=g.at_ l o hl;rw[hL]at hK;cases hK;exact ha
 have hinv:∀v,N P E v c→N P (E.still L.b (o.has L)) (Bh l v) c:=λv r=>by
  unfold Bh;split
  ·split;·exact .any _
   ·exact r.mono hx
  ·exact r.mono hx
 cases v<;>simp only[V.isRef,eW]at hr<;>simp only[frz];case osl k=>
  split;·exact r.mono hx
  ·rename_i hk;have :=dJ hk;subst this;split
   ·rename_i T xs;obtain⟨K,hK,rfl⟩:=DB r;rw[hL]at hK;cases hK;have Xp:=hat.keep hx λ_=>rfl;obtain⟨h1,h2,h3,e,cs,h4,h5|⟨cur,h5,h6,h7,h8,h9,Au,CG⟩⟩:=Xp;·obtain⟨h5,rfl⟩:=h5;refine .d ⟨L.a,L.cap,by simp[AH.v,h3],⟨by simp,by rw[h5];simp[maxLen]⟩,λh=>absurd rfl h⟩
    ·refine .d ⟨L.a,L.cap,by simp[AH.v,h3],⟨h7,h9⟩,λ_=>⟨L.b,0,h5,.inr ⟨by simp only[Obj.has];omega,rfl⟩,λi x hx=>?_⟩⟩;subst CG;exact h4.cell h6 i x hx
   ·exact .any _
 case ref k off=>
  split;·exact r.mono hx
  ·rename_i hk;have :=dJ hk;subst this;split
   ·rename_i cs;obtain⟨K,hK,rfl⟩:=Io r;rw[hL]at hK;cases hK;obtain⟨vals,t,h1,h2,h3⟩:=hat;have hlen:(Ei off cs).length=cs.length-off:=by rw[G8];simp
    refine .er (λj=>vals.getD (off+j) undef) (.inr ⟨trivial,rfl⟩) (λj hj=>?_) λj hj=>?_;·rw[show(E.still L.b ((Obj.box cs).has L)).w=E.w from rfl,Fj h1];rw[dQ,eZ (by omega)];rfl
    ·have :=(h3 (off+j) (by omega)).mono hx;rw[G8,dM,gM,←dM];exact this
   ·exact .any _
 all_goals exact hinv _ r
theorem U.substO{f:V→V}(g:U P E objs)(hf:∀v c,v.isRef=true→N P E v c→N P E (f v) c):U P E (substO f objs):=by
 have BA:∀{l o},O l (YtldikbpclaeajaaDoor.substO f objs)=some o→∃q,O l objs=some q∧o=q.subst f:=by intro l o h;rw[ER,eL]at h;obtain⟨q,hq,rfl⟩:=h;exact⟨q,hq,rfl⟩
 refine⟨λl o h=>?_,λb h=>g.ns b (UV.1 h),g.sl,g.tab,λi j p q K K' h1 h2 h3 h4 h5 h6 h7=>?_⟩;·obtain⟨q,hq,rfl⟩:=BA h;obtain⟨L,hL,ha⟩:=g.at_ l q hq;exact⟨L,hL,ha.keepS (λv c r=>Ht (λb hb=>⟨hb,rfl⟩) hf r) (λb hb=>⟨hb,rfl⟩) λ_=>rfl⟩
 ·obtain⟨p',k1,rfl⟩:=BA h1;obtain⟨q',k2,rfl⟩:=BA h2;exact g.inj i j p' q' K K' k1 k2 h3 h4 (Obj.has_subst.1 h5) (Obj.has_subst.1 h6) h7
theorem Ak.substO{E0 E:AB}{imp objs:AA}{M:List Nat}{f:V→V}(h:Ak E0 imp E objs M):Ak E0 imp E (substO f objs) M:=⟨h.ext,h.os,h.tape,h.output,h.size,h.frame,λb hb=>h.own b (UV.1 hb),h.st,λl hl=>h.keys l (by rw[ER]at hl;simpa using hl),λl hl=>h.dom l (by rw[ER]at hl;simpa using hl)⟩
theorem CB.mono{E E':AB}{f:V→V}(hf:∀v c,N P E v c→N P E' (v.subst f) c)(hl:∀l L,E.loc l=some L→∃L',E'.loc l=some L'∧L'.b=L.b):∀{df:List Df}{ds:List Deferred},CB P E df ds→CB P E' (Fb f df) ds|[],_,h=>h|.mark l::r,_,⟨L,rest,h1,⟨K,hK,h2⟩,h3⟩=>by obtain⟨K',hK',e⟩:=hl l K hK;exact⟨L,rest,h1,⟨K',hK',e.trans h2⟩,h3.mono hf hl⟩|.fn g cs::r,_,⟨q,rest,h1,h2,h3⟩=>⟨q,rest,h1,⟨by rw[h2.1,Fc];simp,λj hj=>by rw[Fc,fB]at hj;have :=hf _ _ (h2.2 j hj);rw[F9 hj];exact this⟩,h3.mono hf hl⟩
theorem MW:∀{df:List Df},Fb (λv=>v) df=df|[]=>rfl|.mark _::r=>by simp only[Fb,Df.subst,MW]|.fn g cs::r=>by have h:∀v:V,v.subst (λv=>v)=v:=λv=>subst_none v;simp only[Fb,Df.subst,MW,Fc,iS λv _=>h v,List.map_id']where subst_none:∀v:V,v.subst (λv=>v)=v|.fn g a b=>by simp only[V.subst,list a,list b]|.agg cs=>by simp only[V.subst,list cs]|.tup cs=>by simp only[V.subst,list cs]|.er cs=>by simp only[V.subst,list cs]|.when b v=>by simp only[V.subst,subst_none v]|.opt b v=>by simp only[V.subst,subst_none v]|.ref ..|.rref ..|.osl _|.osp ..|.map _|.yl _|.bsl ..|.any|.d ..|.nilp|.nilf|.nils|.nilm|.pf ..=>rfl;list:∀l:List V,Br (λv=>v) l=l|[]=>rfl|v::l=>by simp only[Br,subst_none v,list l]
theorem CB.ext{E E':AB}(hx:BE E E' []){df:List Df}{ds:List Deferred}(h:CB P E df ds):CB P E' df ds:=by have :=h.mono (f:=λv=>v) (E':=E') (λv c r=>by rw[MW.subst_none];exact r.mono hx) λl L hl=>⟨L,hx.loc l L (by simp) hl,rfl⟩;rwa[MW]at this
theorem Af.subst{cx:Cx}{s:St}{a:Act}{E E':AB}{l:Nat}{f:V→V}(r:Af P cx s a E)(hf:∀v c,v.isRef=true→N P E v c→N P E' (f v) c)(hw:E'.w=E.w)(Dj:E'.loc=E.loc)(hS:∀b,E.S b→E'.S b)(g:U P E' (substO f s.objs))(st:Ak cx.E cx.imp E' (substO f s.objs) s.mv):Af P cx (s.subst l f) a E':=by obtain⟨nt,tmps,objs,nx,df,wr,di,mv⟩:=s;have hr:∀v c,N P E v c→N P E' (v.subst f) c:=λv c h=>Ht (λb hb=>⟨hS b hb,by rw[hw]⟩) hf h;refine⟨g,λk hk=>by rw[Dj];exact r.fresh k hk,st,by rw[hw];exact r.drawn,r.size,r.df.mono hr λk K hK=>⟨K,by rw[Dj];exact hK,rfl⟩,λt=>?_⟩;show N P E' (AF t (Cm f tmps)) _;rw[Gu,Hf];exact hr _ _ (r.rep t)
def St.freeze(l:Nat)(s:St):St:=match O l s.objs with
 |some o=>match s.subst l (frz l o)with|⟨nt,tmps,objs,nx,df,wr,di,mv⟩=>⟨nt,tmps,(l,.dead)::objs,nx,df,wr,l::di,mv⟩
 |none=>s
theorem VN{cx:Cx}{s:St}{a:Act}{E:AB}{o:Obj}{L:AH}(l:Nat)(ho:O l s.objs=some o)(hL:E.loc l=some L)(r:Af P cx s a E):Af P cx (s.freeze l) a (E.still L.b (o.has L)):=by
 unfold St.freeze;split
 ·rename_i o' ho';rw[ho]at ho';cases ho';obtain⟨g1,s1⟩:=r.good.still ho hL;have hf:∀v c,v.isRef=true→N P E v c→N P (E.still L.b (o.has L)) (frz l o v) c:=λv c hr h=>JW r.good ho hL rfl hr h;have hx:BE E (E.still L.b (o.has L)) []:=⟨λb hs=>⟨.inl hs,rfl⟩,λj K _ hK=>hK⟩;have Fr:∀v c,v.isRef=true→N P (E.still L.b (o.has L)) v c→N P (E.still L.b (o.has L)) (frz l o v) c:=λv c hr h=>by
   refine hf v c hr ?_;cases h<;>simp only[V.isRef,eW]at hr;·rename_i h;exact .ref h
   ·rename_i h;exact .rref h
   ·rename_i h;exact .osl h
   ·rename_i h hp;exact .osp h hp
   ·rename_i h;exact .map h
   ·rename_i h;exact .yl h
   ·rename_i h;exact .bsl h
  have g2:=g1.substO Fr;obtain⟨nt,tmps,objs,nx,df,wr,di,mv⟩:=s;have hr:∀v c,N P E v c→N P (E.still L.b (o.has L)) (v.subst (frz l o)) c:=λv c h=>Ht hx.S hf h;refine⟨g2,r.fresh,?_,r.drawn,r.size,r.df.mono hr λk K hK=>⟨K,hK,rfl⟩,λt=>?_⟩;·exact(r.step.trans s1).substO (f:=frz l o)
  ·show N P _ (AF t (Cm _ tmps)) _;rw[Gu,Hf];exact hr _ _ (r.rep t)
 ·rename_i hn;rw[ho]at hn;cases hn
theorem Ke{cx:Cx}{s:St}(l:Nat):Wk P cx s (s.freeze l):=by rintro a w⟨E,rfl,r⟩;cases h:O l s.objs with|none=>exact⟨E,rfl,by unfold St.freeze;rw[h];exact r⟩|some o=>obtain⟨L,hL,_⟩:=r.good.at_ l o h;exact⟨E.still L.b (o.has L),rfl,VN l h hL r⟩
theorem AC.freeze(l:Nat)(s:St):AC s (s.freeze l):=by
 unfold St.freeze;split;·rename_i o ho;have h:=AC.subst (s:=s) (l:=l) (f:=frz l o) XO;generalize s.subst l (frz l o)=s1 at h;refine h.trans ?_;obtain⟨nt,tmps,objs,nx,df,wr,di,mv⟩:=s1;exact⟨rfl,dT _,λ_ h=>h,λ_ h=>dS _ h,λ_ h=>h,λ_ _=>rfl,λk hk=>by simp only[eA,fJ]at hk;simp only;rw[Ad,dK (eS hk.1)],λ_=>rfl⟩
 ·exact .refl s
end
section
variable {P : Program} {τ : AK} {E : AB} {objs : AA}
def D6:(T:Ty)→T.den→V|.pair a b,x=>.agg (DI (.pair a b) x)|.int k,x=>.d (.int k) x|.bool,x=>.d .bool x|.str,x=>.d .str x|.sl t,x=>.d (.sl t) x|.unit,x=>.d .unit x
def H4:(ts:List Ty)→A8 ts→List V|[],_=>[]|[t],x=>[D6 t x]|t::u::l,x=>D6 t x.1::H4 (u::l) x.2
def AO:(rs:List Ty)→A8 rs→V|[],_=>.tup []|[t],x=>D6 t x|t::u::l,x=>.tup (H4 (t::u::l) x)
def getD:(T:Ty)→V→Option T.den
 |.pair a b,v=>match v with|.agg cs=>Cv (.pair a b) cs|_=>none
 |.int k,v=>PW k [v]|.bool,v=>PV [v]|.str,v=>PX [v]|.sl t,v=>I7 t v|.unit,_=>none
def HM:(ts:List Ty)→List V→Option (A8 ts)
 |[],vs=>match vs with|[]=>some ()|_=>none
 |[t],vs=>match vs with|[v]=>getD t v|_=>none
 |t::u::l,vs=>match vs with
  |v::r=>match getD t v with
   |some x=>match HM (u::l) r with|some y=>some (x,y)|none=>none
   |none=>none
  |_=>none
def Iz:(rs:List Ty)→V→Option (A8 rs)
 |[],v=>match v with|.tup []=>some ()|_=>none
 |[t],v=>getD t v|t::u::l,v=>match v with|.tup vs=>HM (t::u::l) vs|_=>none
def LB:(rs:List Ty)→A8 rs|[]=>()|[t]=>t.dflt|t::u::l=>(t.dflt,LB (u::l))
theorem I6{w:World}{S:Nat→Prop}{lo:Nat→Option AH}:∀{T:Ty}{x:T.den}{c:Value},Gy w S T x c→N P ⟨w,S,lo⟩ (D6 T x) c|.pair a b,x,c,⟨cs,h1,h2⟩=>by subst h1;have :=GP (P:=P) (E:=⟨w,S,lo⟩) h2;exact .agg (by simpa using this.1) λj hj=>by have :=this.2 j hj;simpa[dQ,dM]using this|.int k,x,c,h=>.d h|.bool,x,c,h=>.d h|.str,x,c,h=>.d h|.sl t,x,c,h=>.d h|.unit,x,c,h=>.d h
theorem Kq{w:World}{S:Nat→Prop}{lo:Nat→Option AH}:∀{ts:List Ty}{x:A8 ts}{cs:List Value},Hx w S ts x cs→AE P ⟨w,S,lo⟩ (H4 ts x) cs|[],_,_,h=>by rw[show _=_ from h];exact .nil|[t],_,_,⟨v,h1,h2⟩=>by rw[h1];exact .cons (I6 h2) .nil|t::u::l,_,_,⟨v,r,h1,h2,h3⟩=>by rw[h1];exact .cons (I6 h2) (Kq h3)
theorem Qf{cs:List V}{c:Value}(r:N P E (.agg cs) c):∃a:Array Value,c=.agg a∧AE P E cs a.toList:=by cases r with|agg h1 h2=>rename_i a;exact⟨a,rfl,by simpa using h1,λj hj=>by simpa[dQ,dM]using h2 j hj⟩
theorem VF{cs:List V}{c:Value}(r:N P E (.tup cs) c):∃a:Array Value,c=.tuple a∧AE P E cs a.toList:=by cases r with|tup h1 h2=>rename_i a;exact⟨a,rfl,by simpa using h1,λj hj=>by simpa[dQ,dM]using h2 j hj⟩
theorem IH{f:Fn}{fs cs:List V}{c:Value}(r:N P E (.fn f fs cs) c):∃a b:Array Value,c=.func f a b∧AE P E fs a.toList∧AE P E cs b.toList:=by cases r with|fn h1 h2 h3 h4=>rename_i a b;exact⟨a,b,rfl,⟨by simpa using h1,λj hj=>by simpa[dQ,dM]using h3 j hj⟩,⟨by simpa using h2,λj hj=>by simpa[dQ,dM]using h4 j hj⟩⟩
theorem GQ:∀{T:Ty}{v:V}{x:T.den}{c:Value},getD T v=some x→N P E v c→Gy E.w E.S T x c
 |.pair a b,v,x,c,h,r=>by
  simp only[getD]at h;split at h;·obtain⟨ca,rfl,rs⟩:=Qf r;exact⟨ca,rfl,D1 h rs⟩
  ·cases h|.int k,v,x,c,h,r=>D1 (t:=.int k) (vs:=[v]) h (.cons r .nil)|.bool,v,x,c,h,r=>D1 (t:=.bool) (vs:=[v]) h (.cons r .nil)|.str,v,x,c,h,r=>D1 (t:=.str) (vs:=[v]) h (.cons r .nil)|.sl t,v,x,c,h,r=>D1 (t:=.sl t) (vs:=[v]) h (.cons r .nil)|.unit,v,x,c,h,r=>by cases h
theorem Nw:∀{ts:List Ty}{vs:List V}{x:A8 ts}{cs:List Value},HM ts vs=some x→AE P E vs cs→Hx E.w E.S ts x cs
 |[],vs,x,cs,h,r=>by
  simp only[HM]at h;split at h;·exact dZ (by simpa using r.1)
  ·cases h|[t],vs,x,cs,h,r=>by
  simp only[HM]at h;split at h;·obtain⟨c,rfl,r1⟩:=r.single;exact⟨c,rfl,GQ h r1⟩
  ·cases h|t::u::l,vs,x,cs,h,r=>by
  simp only[HM]at h;split at h
  ·rename_i v r';split at h
   ·rename_i x' hx;split at h;·rename_i y hy;cases h;match cs,r with|c::cs,r=>exact⟨c,cs,rfl,GQ hx r.head,Nw hy r.tail⟩|[],r=>exact absurd r.1 (by simp)
    ·cases h
   ·cases h
  ·cases h
theorem Ul{w:World}{S:Nat→Prop}{lo:Nat→Option AH}:∀{rs:List Ty}{x:A8 rs}{c:Value},Ml w S rs x c→N P ⟨w,S,lo⟩ (AO rs x) c|[],_,_,h=>by rw[show _=_ from h];exact .tup rfl λj hj=>by simp at hj|[t],_,_,h=>I6 h|t::u::l,x,_,⟨vs,h1,h2⟩=>by have :=Kq (P:=P) (lo:=lo) h2;rw[h1];exact .tup (by simpa using this.1) λj hj=>by have :=this.2 j hj;simpa[dQ,dM]using this
theorem VI:∀{rs:List Ty}{v:V}{x:A8 rs}{c:Value},Iz rs v=some x→N P E v c→Ml E.w E.S rs x c
 |[],v,x,c,h,r=>by
  simp only[Iz]at h;split at h
  ·obtain⟨a,rfl,hr⟩:=VF r;have :a=#[]:=by have :=hr.1;simpa using this
   subst this;rfl
  ·cases h|[t],v,x,c,h,r=>GQ h r|t::u::l,v,x,c,h,r=>by
  simp only[Iz]at h;split at h;·obtain⟨a,rfl,hr⟩:=VF r;exact⟨a,rfl,Nw h hr⟩
  ·cases h
mutual
def V.fk:V→Option Nat
 |.fn _ a b=>match Bg a with|some l=>some l|none=>Bg b
 |.agg cs=>Bg cs|.tup cs=>Bg cs|.er cs=>Bg cs|.when _ v=>V.fk v|.opt _ v=>V.fk v|.ref k _=>some k|.rref k _ _=>some k|.osl k=>some k|.osp k _ _=>some k|.map k=>some k|.yl k=>some k|.bsl k _=>some k|_=>none
def Bg:List V→Option Nat|[]=>none|v::r=>match V.fk v with|some l=>some l|none=>Bg r
end
theorem HI:∀{l:List V},Bg l=none→∀j,(l.getD j .any).fk=none
 |[],_,j=>by simp[V.fk]|v::r,h,j=>by
  simp only[Bg]at h;split at h;·cases h
  ·rename_i h1;cases j with|zero=>simpa using h1|succ j=>simpa using HI h j
theorem Q7{E E':AB}(hS:∀b,E.S b→E'.S b∧E'.w.heap[b]?=E.w.heap[b]?){v:V}{c:Value}(r:N P E v c):v.fk=none→N P E' v c:=by induction r with
 |any v=>exact λ_=>.any v|d hc=>exact λ_=>.d (hc.mono hS)|nilp=>exact λ_=>.nilp|nilf=>exact λ_=>.nilf|nils a=>exact λ_=>.nils a|nilm=>exact λ_=>.nilm|fn h1 h2 _ _ i1 i2=>
  intro h;simp only[V.fk]at h;split at h;·cases h
  ·rename_i h0;exact .fn h1 h2 (λj hj=>i1 j hj (HI h0 j)) λj hj=>i2 j hj (HI h j)|agg h1 _ i1=>exact λh=>.agg h1 λj hj=>i1 j hj (HI h j)|tup h1 _ i1=>exact λh=>.tup h1 λj hj=>i1 j hj (HI h j)|er c hb hc _ i=>exact λh=>.er c (hS _ hb).1 (λj hj=>(Kz (hS _ hb).2 _).trans (hc j hj)) λj hj=>i j hj (HI h j)|ref k=>intro h;cases h|rref k=>intro h;cases h|osl k=>intro h;cases h|osp k kp=>intro h;cases h|map k=>intro h;cases h|when _ h2 i1=>exact λh=>.when (λe=>i1 e h) h2|opt _ h2 i1=>exact λh=>.opt (λe=>i1 e h) h2|pf k=>exact λ_=>.pf (k.mono hS)|yl k=>intro h;cases h|bsl k=>intro h;cases h
theorem JE{E E':AB}(hS:∀b,E.S b→E'.S b∧E'.w.heap[b]?=E.w.heap[b]?){vs:List V}{cs:List Value}(r:AE P E vs cs)(h:Bg vs=none):AE P E' vs cs:=⟨r.1,λj hj=>Q7 hS (r.2 j hj) (HI h j)⟩
def Ty.plain:Ty→Bool
 |.sl _=>false|.pair a b=>match a.plain with|true=>b.plain|false=>false
 |_=>true
mutual
def V.plain:V→Bool|.d t _=>t.plain|.agg cs=>KN cs|.tup cs=>KN cs|_=>false
def KN:List V→Bool|[]=>true|v::r=>match V.plain v with|true=>KN r|false=>false
end
theorem Pf:∀{l:List V},KN l=true→∀j,j<l.length→(l.getD j .any).plain=true
 |[],_,j,hj=>by simp at hj|v::r,h,j,hj=>by
  simp only[KN]at h;split at h;·rename_i h1;cases j with|zero=>simpa using h1|succ j=>simpa using Pf h j (by simpa using hj)
  ·cases h
theorem Pg{w w':World}{S S':Nat→Prop}:∀{t:Ty}{x:t.den}{cs:List Value},t.plain=true→Al w S t x cs→Al w' S' t x cs
 |.int _,_,_,_,h=>h|.bool,_,_,_,h=>h|.str,_,_,_,h=>h|.sl _,_,_,h,_=>by cases h|.pair a b,_,_,h,⟨c1,c2,e,h1,h2⟩=>by
  simp only[Ty.plain]at h;split at h;·rename_i ha;exact⟨c1,c2,e,Pg ha h1,Pg h h2⟩
  ·cases h|.unit,_,_,_,h=>h
theorem Zq{E E':AB}{v:V}{c:Value}(r:N P E v c):v.plain=true→N P E' v c:=by induction r with|d hc=>exact λh=>.d (Pg h hc)|agg h1 _ i1=>exact λh=>.agg h1 λj hj=>i1 j hj (Pf h j hj)|tup h1 _ i1=>exact λh=>.tup h1 λj hj=>i1 j hj (Pf h j hj)|_=>intro h;cases h
inductive PS where|d(T:Ty)|e(T:Ty)|f(ts rs:List Ty)
@[reducible]def PS.den:PS→Type|.d T=>T.den|.e T=>T.den|.f ts rs=>(A8 ts→Prop)×(A8 ts→A8 rs)
@[reducible]def BO:List PS→Type|[]=>Unit|p::l=>p.den×BO l
def PS.toV:(p:PS)→p.den→V|.d T,x=>D6 T x|.e T,x=>.er (DI T x)|.f ts rs,x=>.pf ts rs x.1 x.2
def C2:(ps:List PS)→BO ps→List V|[],_=>[]|p::l,x=>p.toV x.1::C2 l x.2
structure AQ where
 ps:List PS
 pre:Option (BO ps→Prop)
 res:BO ps→V
def AQ.ob(c:AQ)(xs:BO c.ps):Option Prop:=match c.pre with|none=>none|some p=>some (p xs)
def AR(P:Program)(f:FuncId)(c:AQ):Prop:=Bu P f∧∀(w:World)(S:Nat→Prop)(xs:BO c.ps),EO P w S→Ae (c.ob xs)→∀args:Array Value,AE P ⟨w,S,λ_=>none⟩ (C2 c.ps xs) args.toList→Calls P f args w λe w2=>∃v S2,e=.returned v∧EN w S w2 S2∧N P ⟨w2,S2,λ_=>none⟩ (c.res xs) v
def A7(P:Program)(E:AB)(L:AH)(T:Ty)(xs:List T.den)(w:World)(K:AH)(zs:List T.den):Prop:=∃row:Option Nat,E.w.grownBy w row∧(∀b,row=some b→(Obj.row T xs).has L∧b=L.b)∧(∀lo,AY P ⟨w,E.S,lo⟩ K (.row T zs))∧((Obj.row T zs).has K→(Obj.row T xs).has L∧K.b=L.b∨E.w.heap.size≤K.b)∧E.w.drawn≤w.drawn
structure GG where
 T:Ty
 own:Bool
 ps:List PS
 pre:List T.den→BO ps→Prop
 fn:List T.den→BO ps→List T.den
def Qd(P:Program)(f:FuncId)(r:GG):Prop:=Bu P f∧match r.own with|false=>∀(w:World)(S:Nat→Prop)(ys:BO r.ps),EO P w S→r.pre [] ys→∀args:Array Value,AE P ⟨w,S,λ_=>none⟩ (C2 r.ps ys) args.toList→Calls P f args w λe w2=>∃K,e=.returned K.v∧w.grownBy w2 none∧w.drawn≤w2.drawn∧(∀lo,AY P ⟨w2,S,lo⟩ K (.row r.T (r.fn [] ys)))∧((Obj.row r.T (r.fn [] ys)).has K→w.heap.size≤K.b)|true=>∀(E:AB)(objs:AA)(l:Nat)(L:AH)(xs:List r.T.den)(ys:BO r.ps),U P E objs→O l objs=some (.row r.T xs)→E.loc l=some L→r.pre xs ys→∀args:List Value,AE P ⟨E.w,E.S,λ_=>none⟩ (C2 r.ps ys) args→Calls P f (L.v::args).toArray E.w λe w2=>∃K,e=.returned K.v∧A7 P E L r.T xs w2 K (r.fn xs ys)
def QZ(P:Program)(f:FuncId):Prop:=Bu P f∧∀(E:AB)(objs:AA)(l k:Nat)(L K:AH)(xs zs:List Int)(i:Int),U P E objs→O l objs=some (.row (.int .i64) xs)→O k objs=some (.row (.int .i64) zs)→l≠k→E.loc l=some L→E.loc k=some K→0≤i→i≤(xs.length:Int)→(xs.length+zs.length)*8≤140737488355328→Calls P f #[L.v,.int .i64 i,K.v] E.w λe w2=>∃M,e=.returned M.v∧A7 P E L (.int .i64) xs w2 M (xs.take i.toNat++zs++xs.drop i.toNat)
def Mh(P:Program)(f h:FuncId):Prop:=Bu P f∧∀(E:AB)(objs:AA)(v:V)(c:Value),U P E objs→v.solid=true→N P E v c→Calls P f #[c] E.w λe w2=>∃u E',e=.returned u∧E'.w=w2∧U P E' objs∧Ak E objs E' objs []∧E.w.drawn≤w2.drawn∧N P E' (.fn (.func h) [] [.er [v]]) u
structure Mj where
 ps:List PS
 pre:BO ps→Prop
 fn:BO ps→List Int×Int
def Mk(P:Program)(f:FuncId)(c:Mj):Prop:=Bu P f∧∀(E:AB)(objs:AA)(n:Nat)(ys:BO c.ps),U P E objs→E.loc n=none→c.pre ys→∀args:Array Value,AE P ⟨E.w,E.S,λ_=>none⟩ (C2 c.ps ys) args.toList→Calls P f args E.w λe w2=>∃u E',e=.returned u∧E'.w=w2∧U P E' ((n,.row (.int .i64) (c.fn ys).1)::objs)∧Ak E objs E' ((n,.row (.int .i64) (c.fn ys).1)::objs) []∧E.w.drawn≤w2.drawn∧N P E' (.agg [.osl n,.d (.int .i64) (c.fn ys).2]) u
inductive CX where|con(c:AQ)|row(r:GG)|ins|clo(h:Nat)|lin(c:Mj)
def CX.Ok(P:Program)(f:FuncId):CX→Prop|.con c=>AR P f c|.row r=>Qd P f r|.ins=>QZ P f|.clo h=>Mh P f h|.lin c=>Mk P f c
abbrev AZ:=Nat→Option CX
def Aj(P:Program)(κ:AZ):Prop:=∀f c,κ f=some c→c.Ok P f
def Pd(κ:AZ)(ts rs:List Ty)(get:(ps:List PS)→List V→Option (BO ps))(g:FuncId)(fst caps:List V)(xs:A8 ts):Prop:=match κ g with
 |some (.con c)=>match get c.ps (fst++(H4 ts xs++caps))with|none=>False|some ys=>match Iz rs (c.res ys)with|none=>False|some _=>Ae (c.ob ys)
 |_=>False
def Pc(κ:AZ)(ts rs:List Ty)(get:(ps:List PS)→List V→Option (BO ps))(g:FuncId)(fst caps:List V)(xs:A8 ts):A8 rs:=match κ g with
 |some (.con c)=>match get c.ps (fst++(H4 ts xs++caps))with|none=>LB rs|some ys=>match Iz rs (c.res ys)with|none=>LB rs|some r=>r
 |_=>LB rs
abbrev Hz:=(ps:List PS)→List V→Option (BO ps)
def Ek(κ:AZ)(rec:Hz):Hz
 |[],vs=>match vs with|[]=>some ()|_=>none
 |.d T::l,vs=>match vs with
  |v::r=>match getD T v with
   |some x=>match Ek κ rec l r with|some y=>some (x,y)|none=>none
   |none=>none
  |[]=>none
 |.e T::l,vs=>match vs with
  |v::r=>match v with
   |.er cs=>match Cv T cs with
    |some x=>match Ek κ rec l r with|some y=>some (x,y)|none=>none
    |none=>none
   |_=>none
  |[]=>none
 |.f ts rs::l,vs=>match vs with
  |v::r=>match v with
   |.pf ts' rs' pre f=>if h:ts'=ts∧rs'=rs then match Ek κ rec l r with|some y=>some ((λx=>pre (h.1.symm▸x),λx=>h.2▸f (h.1.symm▸x)),y)|none=>none else none|.fn (.func g) fst caps=>match κ g with
    |some (.con _)=>match Bg fst with
     |none=>match Bg caps with
      |none=>match Ek κ rec l r with|some y=>some ((Pd κ ts rs rec g fst caps,Pc κ ts rs rec g fst caps),y)|none=>none
      |some _=>none
     |some _=>none
    |_=>none
   |_=>none
  |[]=>none
def IJ(κ:AZ):Nat→Hz|0=>Ek κ λ_ _=>none|n+1=>Ek κ (IJ κ n)
def Kk(P:Program)(get:Hz):Prop:=∀(E:AB)ps vs xs cs,get ps vs=some xs→AE P E vs cs→AE P E (C2 ps xs) cs
theorem Zo{κ:AZ}(hκ:Aj P κ){get:Hz}(hg:Kk P get){ts rs:List Ty}{g:FuncId}{fst caps:List V}{c:Value}(r:N P E (.fn (.func g) fst caps) c)(h1:Bg fst=none)(h2:Bg caps=none)(hc:∃k,κ g=some (.con k)):N P E (.pf ts rs (Pd κ ts rs get g fst caps) (Pc κ ts rs get g fst caps)) c:=by
 obtain⟨a,b,rfl,ra,rb⟩:=IH r;obtain⟨k,hk⟩:=hc;have hok:AR P g k:=hκ g _ hk;refine .pf ⟨g,a,b,rfl,hok.1,λw1 S1 hS AM xs hpre cargs hargs=>?_⟩;simp only[Pd,hk]at hpre;simp only[Pc,hk];split at hpre;·exact hpre.elim
 ·rename_i ys CW;split at hpre;·exact hpre.elim
  ·rename_i r' hr';have rs0:AE P ⟨w1,S1,λ_=>none⟩ (fst++(H4 ts xs++caps)) (a++cargs++b).toList:=by have :=(JE (E':=⟨w1,S1,λ_=>none⟩) hS ra h1).append ((Kq (P:=P) (lo:=λ_=>none) hargs).append (JE (E':=⟨w1,S1,λ_=>none⟩) hS rb h2));simpa using this
   have rs1:=hg _ _ _ _ _ CW rs0;refine gG (hok.2 w1 S1 ys AM hpre _ rs1) ?_;rintro e w2⟨v,S2,rfl,hgr,hv⟩;exact⟨v,S2,rfl,hgr,VI hr' hv⟩
theorem SJ{κ:AZ}(hκ:Aj P κ){rec:Hz}(hr:Kk P rec):Kk P (Ek κ rec):=by intro E ps;induction ps with
 |nil=>
  intro vs xs cs h r;simp only[Ek]at h;split at h;·cases h;exact r
  ·cases h|cons p l ih=>intro vs xs cs h r;cases p with
  |d T=>
   simp only[Ek]at h;split at h
   ·rename_i v r';split at h
    ·rename_i x hx;split at h;·rename_i y hy;cases h;match cs,r with|c::cs,r=>exact .cons (I6 (GQ hx r.head)) (ih _ _ _ hy r.tail)|[],r=>exact absurd r.1 (by simp)
     ·cases h
    ·cases h
   ·cases h|e T=>
   simp only[Ek]at h;split at h;·rename_i v r';match cs,r with
    |[],r=>exact absurd r.1 (by simp)|c::cs,r=>
     split at h
     ·rename_i es _;split at h
      ·rename_i x hx;split at h;·rename_i y hy;cases h;refine .cons ?_ (ih _ _ _ hy r.tail);have rh:=r.head;cases rh with|er f hb hc hr=>
        rename_i b off;have rs:AE P E es ((List.range es.length).map f):=⟨by simp,λj hj=>by have :=hr j hj;simpa[dM,hj]using this⟩;have hcells:=D1 hx rs;have hlen:=hcells.length;simp only[fB,iZ]at hlen;have rf:=GP (P:=P) (E:=E) hcells;refine .er f hb (λj hj=>hc j ?_) λj hj=>?_;·rw[LL]at hj;omega
        ·have :=rf.2 j hj;rw[LL,←hlen]at hj;simpa[dM,hj]using this
       ·cases h
      ·cases h
     ·cases h
   ·cases h|f ts rs=>
   simp only[Ek]at h;split at h;·rename_i v r';match cs,r with
    |[],r=>exact absurd r.1 (by simp)|c::cs,r=>
     split at h
     ·rename_i ts' rs' pre f;split at h
      ·rename_i hh;obtain⟨rfl,rfl⟩:=hh;split at h;·rename_i y hy;cases h;exact .cons r.head (ih _ _ _ hy r.tail)
       ·cases h
      ·cases h
     ·split at h
      ·rename_i k hk;split at h
       ·rename_i h1;split at h
        ·rename_i h2;split at h;·rename_i y hy;cases h;exact .cons (Zo hκ hr r.head h1 h2 ⟨k,hk⟩) (ih _ _ _ hy r.tail)
         ·cases h
        ·cases h
       ·cases h
      ·cases h
     ·cases h
   ·cases h
theorem JY{κ:AZ}(hκ:Aj P κ):∀n,Kk P (IJ κ n)|0=>SJ hκ λ_ _ _ _ _ h=>by cases h|n+1=>SJ hκ (JY hκ n)
end
section
variable {P : Program} {τ : AK} {κ : AZ} {E : AB} {objs : AA}
def Gi:Nat→AA→List V→Option (List V×List Nat)|0,_,_=>none|n+1,os,vs=>match Bg vs with|none=>some (vs,[])|some l=>match O l os with
 |some o=>match Gi n ((l,.dead)::os) (Br (frz l o) vs)with|some (r,ks)=>some (r,l::ks)|none=>none
 |none=>none
theorem Uk{E E':AB}{f:V→V}(h:∀v c,N P E v c→N P E' (v.subst f) c){vs:List V}{cs:List Value}(r:AE P E vs cs):AE P E' (Br f vs) cs:=⟨by rw[Fc,fB];exact r.1,λj hj=>by rw[Fc,fB]at hj;rw[F9 hj];exact h _ _ (r.2 j hj)⟩
theorem Ly:∀{n:Nat}{os:AA}{vs vs':List V}{ks:List Nat}{E:AB}{cs:List Value},Gi n os vs=some (vs',ks)→U P E os→AE P E vs cs→∃S',(∀b,E.S b→S' b)∧(∀b,S' b→b<E.w.heap.size)∧(ks=[]→S'=E.S)∧Bg vs'=none∧AE P ⟨E.w,S',E.loc⟩ vs' cs∧∀b,S' b→E.S b∨Bi E os b
 |0,_,_,_,_,_,_,h,_,_=>by cases h|n+1,os,vs,vs',ks,E,cs,h,g,r=>by
  simp only[Gi]at h;split at h;·rename_i hk;cases h;exact⟨E.S,λ_ h=>h,g.sl,λ_=>rfl,hk,r,λ_ h=>.inl h⟩
  ·rename_i l hl;split at h
   ·rename_i o ho;split at h
    ·rename_i r' ks' h';cases h;obtain⟨L,hL,_⟩:=g.at_ l o ho;obtain⟨g1,s1⟩:=g.still ho hL;have hx:BE E (E.still L.b (o.has L)) []:=⟨λb hs=>⟨.inl hs,rfl⟩,λj K _ hK=>hK⟩;have r1:AE P (E.still L.b (o.has L)) (Br (frz l o) vs) cs:=Uk (λv c h=>Ht hx.S (λv c hr h=>JW g ho hL rfl hr h) h) r;obtain⟨S',k1,k2,_,k3,k4,k5⟩:=Ly h' g1 r1;refine⟨S',λb hb=>k1 b (.inl hb),k2,λh=>by simp at h,k3,k4,λb hb=>?_⟩;rcases k5 b hb with(h|⟨h1,h2⟩)|h;·exact .inl h
     ·exact .inr ⟨l,o,L,ho,hL,h1,h2.symm⟩
     ·rcases s1.own b h with h3|h3;·have :=g1.own_lt h;have h3:E.w.heap.size≤b:=h3;have this:b<E.w.heap.size:=this;omega
      ·exact .inr h3
    ·cases h
   ·cases h
def Kw(κ:AZ)(f:V)(args:List V):Option (Option Prop×V):=match f with
 |.fn (.func g) fst caps=>match κ g with
  |some (.con c)=>match IJ κ 3 c.ps (fst++(args++caps))with|none=>none|some xs=>some (c.ob xs,c.res xs)
  |_=>none
 |.pf ts rs pre f=>match HM ts args with|none=>none|some xs=>some (some (pre xs),AO rs (f xs))
 |_=>none
inductive CR where|ok(ob:Option Prop)(v:V)|frz(ks:List Nat)|no
def JA(κ:AZ)(os:AA)(f:V)(args:List V):CR:=match Gi 9 os (f::args)with
 |some (f'::args',ks)=>match Kw κ f' args' with
  |some (ob,v)=>match ks with|[]=>.ok ob v|_=>match v.plain with|true=>.ok ob v|false=>.frz ks
  |none=>.no
 |_=>.no
def Ff(P:Program)(r:Option Nat)(o:Oper)(a:Act)(E:AB)(objs:AA)(out:AT):Prop:=∀(next:Act→World→Prop)(Q:CC),(∀E' v,U P E' (edit objs out.ed)→Ak E objs E' (edit objs out.ed) (moved out.ed)→E.w.drawn≤E'.w.drawn→N P E' out.v v→next (a.put o.dst v) E'.w)→o.wpIn (fz r) 0 P a E.w next Q
theorem G0.did{r:Option Nat}{o:Oper}{a:Act}{out:AT}(h:G0 P o a.eval E objs out)(hd:∀c,o.op≠.defer c):Ff P r o a E objs out:=by
 intro next Q hn;obtain⟨E',n,v,h1,h2,h3,h4,h5⟩:=h;refine⟨λ_ _=>trivial,?_⟩;rw[iP _ _ _ hd,h1];rcases h2 with rfl|⟨rfl,rfl⟩;·exact hn E' v h3 h4 (MP _ _ _ _ h1) h5
 ·exact hn E' _ h3 h4 (MP _ _ _ _ h1) h5
theorem M6{f:FuncId}(h:Bu P f)(args:Array Value)(w:World):(callFunc f args).run P w=.ok (.enter f args) w:=by
 obtain⟨fn,h1,h2,h3⟩:=h;have h4:fn.body.isNone=false:=by cases hb:fn.body<;>simp_all
 simp only[callFunc,eQ,run_program,eF,h1,h3,h4,eW,gK,fQ]
theorem M7{o:Oper}{x:Operand}{args:Array Operand}{tys:Array TypeId}(BK:o.op=.call {callee:=.value x,args,argTypes:=tys}){f:FuncId}(hc:Bu P f){ρ:Operand→Value}{a b:Array Value}(hx:ρ x=.func (.func f) a b)(w:World):(execOp ρ o).run P w=.ok (.enter f (a++args.map ρ++b)) w:=by simp[execOp,BK,resolve,hx,Deferred.ofValue,invoke,M6 hc]
theorem V8(hκ:Aj P κ){f:V}{args:List V}{ob:Option Prop}{v:V}(h:Kw κ f args=some (ob,v))(ho:Ae ob){S':Nat→Prop}(hS:EO P E.w S'){c:Value}{cs:List Value}(hk:Bg (f::args)=none)(r:AE P ⟨E.w,S',E.loc⟩ (f::args) (c::cs)):∃g a b,c=.func (.func g) a b∧Bu P g∧Calls P g (a++cs.toArray++b) E.w λe w2=>∃u S2,e=.returned u∧EN E.w S' w2 S2∧N P ⟨w2,S2,E.loc⟩ v u:=by
 simp only[Kw]at h;split at h
 ·rename_i g fst caps;split at h;case h_2=>cases h
  ·rename_i k hk';split at h;·cases h
   ·rename_i xs Fz;cases h;obtain⟨a,b,rfl,ra,rb⟩:=IH r.head;have hok:AR P g k:=hκ g _ hk';refine⟨g,a,b,rfl,hok.1,?_⟩;have hcl:∀vs ds,Bg vs=none→AE P ⟨E.w,S',E.loc⟩ vs ds→AE P ⟨E.w,S',λ_=>none⟩ vs ds:=λvs ds hf h=>JE (E:=⟨E.w,S',E.loc⟩) (E':=⟨E.w,S',λ_=>none⟩) (λb hb=>⟨hb,rfl⟩) h hf;have hf:(V.fn (.func g) fst caps).fk=none:=by
     simp only[Bg]at hk;split at hk;·cases hk
     ·rename_i h;exact h
    have hargs:Bg args=none:=by simp only[Bg,hf]at hk;exact hk
    have Sv:Bg fst=none:=by
     simp only[V.fk]at hf;split at hf;·cases hf
     ·rename_i h;exact h
    have Xy:Bg caps=none:=by simp only[V.fk,Sv]at hf;exact hf
    have rs:AE P ⟨E.w,S',λ_=>none⟩ (fst++(args++caps)) (a++cs.toArray++b).toList:=by have :=(hcl _ _ Sv ra).append ((hcl _ _ hargs r.tail).append (hcl _ _ Xy rb));simpa using this
    refine gG (hok.2 E.w S' xs hS ho _ (JY hκ 3 _ _ _ _ _ Fz rs)) ?_;rintro e w2⟨u,S2,rfl,hg,hu⟩;refine⟨u,S2,rfl,hg,?_⟩;exact N.mono (E:=⟨w2,S2,λ_=>none⟩) (E':=⟨w2,S2,E.loc⟩) ⟨λb hb=>⟨hb,rfl⟩,λl L _ h=>by cases h⟩ hu
 ·rename_i ts rs pre fn;split at h;·cases h
  ·rename_i xs Fz;cases h;have r0:=r.head;cases r0 with|pf hp=>obtain⟨g,a,b,rfl,hc,N9⟩:=hp;refine⟨g,a,b,rfl,hc,gG (N9 E.w S' (λk hk=>⟨hk,rfl⟩) hS xs ho cs.toArray (by simpa using Nw Fz r.tail)) ?_⟩;rintro e w2⟨u,S2,rfl,hg,hu⟩;exact⟨u,S2,rfl,hg,Ul hu⟩
 ·cases h
theorem U.os{E:AB}{os objs:AA}(g:U P E objs)(hs:BV os objs):U P E os:=⟨λl o h=>g.at_ l o (hs l o h),λb h=>by obtain⟨l,o,L,h1,h2,h3,h4⟩:=h;exact g.ns b ⟨l,o,L,hs l o h1,h2,h3,h4⟩,g.sl,g.tab,λi j o o' L L' h1 h2 h3 h4 h5 h6 h7=>g.inj i j o o' L L' (hs i o h1) (hs j o' h2) h3 h4 h5 h6 h7⟩
theorem WA(hκ:Aj P κ){r:Option Nat}{o:Oper}{a:Act}{x:Operand}{args:Array Operand}{tys:Array TypeId}(BK:o.op=.call {callee:=.value x,args,argTypes:=tys}){tmps:List (Nat×V)}{ob:Option Prop}{v:V}{os:AA}(h:JA κ os (AL tmps x) (Aw tmps args.toList)=.ok ob v)(ho:Ae ob)(hs:BV os objs)(g:U P E objs)(hx:N P E (AL tmps x) (a.eval x))(hr:∀y∈args.toList,N P E (AL tmps y) (a.eval y)):Ff P r o a E objs ⟨ob,v,none⟩:=by
 intro next Q hn;have hargs:AE P E (AL tmps x::Aw tmps args.toList) (a.eval x::args.toList.map a.eval):=.cons hx (Gj hr);have key:∀f' args' ks,Gi 9 os (AL tmps x::Aw tmps args.toList)=some (f'::args',ks)→Kw κ f' args'=some (ob,v)→ks=[]∨v.plain=true→o.wpIn (fz r) 0 P a E.w next Q:=by
  intro f' args' ks h1 h2 h3;obtain⟨S',k1,k2,k3,k4,k5,_⟩:=Ly h1 (g.os hs) hargs;obtain⟨gf,p,q,e1,e2,e3⟩:=V8 (E:=E) hκ h2 ho ⟨k2,g.tab.mono λb hb=>⟨k1 b hb,rfl⟩⟩ k4 k5;refine⟨λ_ _=>trivial,?_⟩;rw[iP _ _ _ λc=>by rw[BK];simp,M7 BK e2 e1,kA];refine⟨λh=>by simp[fz,Fence.wide]at h,LO ?_⟩;have e3':Calls P gf (p++args.map a.eval++q) E.w λe w2=>∃u S2,e=.returned u∧EN E.w S' w2 S2∧N P ⟨w2,S2,E.loc⟩ v u:=by have :(args.toList.map a.eval).toArray=args.map a.eval:=kC (by rw[iL]);rw[this]at e3;exact e3
  refine gG e3' ?_;rintro e w2⟨u,S2,rfl,hg,hu⟩;rcases h3 with h3|h3;·have e:=k3 h3;subst e;have :=g.grow hg;exact hn ⟨w2,S2,E.loc⟩ u this.1 this.2 hg.drawn hu
  ·have :=g.grow (w:=w2) (S:=E.S) ⟨hg.drawn,hg.os,hg.tape,hg.output,hg.size,hg.frame,λ_ h=>h,λ_ h=>.inl h,λb hb=>gF (g.sl b hb) hg.size⟩;exact hn ⟨w2,E.S,E.loc⟩ u this.1 this.2 hg.drawn (Zq hu h3)
 simp only[JA]at h;split at h
 ·rename_i f' args' ks h1;split at h
  ·rename_i ob' v' h2;split at h;·cases h;exact key _ _ _ h1 h2 (.inl rfl)
   ·split at h;·rename_i hp;cases h;exact key _ _ _ h1 h2 (.inr hp)
    ·cases h
  ·cases h
 ·cases h
def Ii(l:Nat):List Df→Bool
 |[]=>false|.mark k::r=>match Nat.beq k l with|true=>true|false=>Ii l r
 |.fn _ _::r=>Ii l r
def GL(nx:Nat)(df:List Df):Option (Nat×Obj×Bool)→Bool|none=>true|some (l,_,false)=>Nat.ble l nx|some (l,_,true)=>match Nat.ble l nx with|true=>!Ii l df|false=>false
theorem CB.moved{E E':AB}{l:Nat}(hx:BE E E' [l]):∀{df:List Df}{ds:List Deferred},Ii l df=false→CB P E df ds→CB P E' (Fb (Bh l) df) ds
 |[],_,_,h=>h|.mark k::r,_,hm,⟨L,rest,h1,⟨K,hK,h2⟩,h3⟩=>by
  simp only[Ii]at hm;split at hm;·cases hm
  ·rename_i AU;exact⟨L,rest,h1,⟨K,hx.loc k K (by simp;exact fS AU) hK,h2⟩,h3.moved hx hm⟩|.fn g cs::r,_,hm,⟨q,rest,h1,h2,h3⟩=>⟨q,rest,h1,Uk (λv c h=>J8 hx h) h2,h3.moved hx hm⟩
theorem Ud{a:Act}{d t:Nat}{v:Value}(hd:d<a.tmps.size):(a.put (some d) v).tmps.getD t undef=if d=t then v else a.tmps.getD t undef:=by
 simp only[Act.put,dQ,jS];split;·rename_i e;subst e;simp
 ·rfl
theorem Af.setT{cx:Cx}{s s':St}{a:Act}{dst:Option Nat}{v:V}{c:Value}(r:Af P cx s a E)(h:s.setT dst v=some s')(rv:N P E v c):Af P cx s' (a.put dst c) E:=by
 unfold St.setT at h;split at h;·cases h;exact⟨r.good,r.fresh,r.step,r.drawn,r.size,r.df,r.rep⟩
 ·rename_i d;split at h
  ·rename_i hd;obtain⟨nt,tmps,objs,nx,df,wr,di,mv⟩:=s;cases h;have hd:d<nt:=eJ hd;have AS:a.tmps.size=nt:=r.size;refine⟨r.good,r.fresh,r.step,r.drawn,by simp[Act.put,AS],r.df,λt=>?_⟩;rw[Ud (by omega)];show N P E (AF t ((d,v)::tmps)) _;rw[BU];split;·exact rv
   ·exact r.rep t
  ·cases h
theorem Af.edit{cx:Cx}{s:St}{a:Act}{E':AB}{ed:Option (Nat×Obj×Bool)}(r:Af P cx s a E)(Ac:GL s.nx s.df ed=true)(hd:E.w.drawn≤E'.w.drawn)(g:U P E' (YtldikbpclaeajaaDoor.edit s.objs ed))(st:Ak E s.objs E' (YtldikbpclaeajaaDoor.edit s.objs ed) (YtldikbpclaeajaaDoor.moved ed)):Af P cx (s.edit ed) a E':=by
 obtain⟨nt,tmps,objs,nx,df,wr,di,mv⟩:=s;have BJ:∀k,nx≤k→O k objs=none:=λk hk=>by cases h:O k objs with|none=>rfl|some o=>obtain⟨L,hL,_⟩:=r.good.at_ k o h;rw[r.fresh k hk]at hL;cases hL
 have Su:∀l,l≤nx→∀k,FB l nx≤k→nx≤k∧k≠l:=λl hl k hk=>by
  unfold FB at hk;split at hk;·rename_i e;have :=dJ e;omega
  ·rename_i e;have :=fS e;omega
 match ed,Ac,g,st with
 |none,_,g,st=>refine⟨g,λk hk=>?_,r.step.trans st,eO r.drawn hd,r.size,r.df.ext st.ext,λt=>(r.rep t).mono st.ext⟩;rw[st.dom k (BJ k hk)];exact r.fresh k hk|some (l,o,false),Ac,g,st=>
  have hl:l≤nx:=eJ Ac;refine⟨g,λk hk=>?_,r.step.trans st,eO r.drawn hd,r.size,r.df.ext st.ext,λt=>(r.rep t).mono st.ext⟩;obtain⟨h1,h2⟩:=Su l hl k hk;have :O k (YtldikbpclaeajaaDoor.edit objs (some (l,o,false)))=none:=by simp only[YtldikbpclaeajaaDoor.edit];rw[Ad,dK (eS h2)];exact BJ k h1
  rw[st.dom k this];exact r.fresh k h1|some (l,o,true),Ac,g,st=>
  simp only[GL]at Ac;split at Ac
  ·rename_i hl;have hl:l≤nx:=eJ hl;refine⟨g,λk hk=>?_,r.step.trans st,eO r.drawn hd,r.size,r.df.moved st.ext (by simpa using Ac),λt=>?_⟩
   ·obtain⟨h1,h2⟩:=Su l hl k hk;have :O k (YtldikbpclaeajaaDoor.edit objs (some (l,o,true)))=none:=by simp only[YtldikbpclaeajaaDoor.edit];rw[Ad,dK (eS h2),ER,BJ k h1];rfl
    rw[st.dom k this];exact r.fresh k h1
   ·show N P E' (AF t (Cm (Bh l) tmps)) _;rw[Gu,Hf];exact J8 st.ext (r.rep t)
  ·cases Ac
end
section
variable {P : Program} {τ : AK} {κ : AZ}
def freezeL:List Nat→St→St|[],s=>s|l::r,s=>freezeL r (s.freeze l)
theorem VO{cx:Cx}:∀(ks:List Nat)(s:St),Wk P cx s (freezeL ks s)|[],s=>.refl s|l::r,s=>(Ke l).trans (VO r _)
theorem AC.freezeL:∀(ks:List Nat)(s:St),AC s (freezeL ks s)|[],s=>.refl s|l::r,s=>(AC.freeze l s).trans (AC.freezeL r _)
def Iq(κ:AZ)(f:V):Option (Option GG):=match f with
 |.fn (.func g) [] []=>match κ g with|some (.row r)=>some (some r)|some .ins=>some none|_=>none
 |_=>none
def Tg(os:AA)(args:List V):Option AT:=match args with
 |[.osl l,.d (.int .i64) i,.osl k]=>match Nat.beq l k with|true=>none|false=>match O l os with
  |some (.row (.int .i64) xs)=>match O k os with|some (.row (.int .i64) zs)=>some ⟨some (0≤i∧i≤(List.length (α:=Int) xs:Int)∧(List.length (α:=Int) xs+List.length (α:=Int) zs)*8≤140737488355328),.osl l,some (l,.row (.int .i64) (List.take (α:=Int) i.toNat xs++zs++List.drop (α:=Int) i.toNat xs),true)⟩|_=>none
  |_=>none
 |_=>none
def Ir(κ:AZ)(os:AA)(r:Option GG)(args:List V)(n:Nat):Option AT:=match r with
 |none=>Tg os args|some ⟨T,false,ps,pre,fn⟩=>match Bg args with
  |none=>match IJ κ 3 ps args with|some ys=>some ⟨some (pre [] ys),.osl n,some (n,.row T (fn [] ys),false)⟩|none=>none
  |some _=>none
 |some ⟨T,true,ps,pre,fn⟩=>match args with
  |.osl l::rest=>match O l os with
   |some (.row T' xs)=>if h:T'=T then match Bg rest with
    |none=>match IJ κ 3 ps rest with|some ys=>some ⟨some (pre (h▸xs) ys),.osl l,some (l,.row T (fn (h▸xs) ys),true)⟩|none=>none
    |some _=>none else none|_=>none
  |_=>none
inductive I3 where|clo(h:Nat)|lin(c:Mj)
def Vl(P:Program)(g:FuncId):I3→Prop|.clo h=>Mh P g h|.lin c=>Mk P g c
def JD(κ:AZ)(f:V):Option I3:=match f with
 |.fn (.func g) [] []=>match κ g with|some (.clo h)=>some (.clo h)|some (.lin c)=>some (.lin c)|_=>none
 |_=>none
def K5(κ:AZ)(h:I3)(args:List V)(n:Nat):Option AT:=match h with
 |.clo h=>match args with
  |[v]=>match v.solid with|true=>some ⟨none,.fn (.func h) [] [.er [v]],none⟩|false=>none
  |_=>none
 |.lin ⟨ps,pre,fn⟩=>match Bg args with
  |none=>match IJ κ 3 ps args with|some ys=>some ⟨some (pre ys),.agg [.osl n,.d (.int .i64) (fn ys).2],some (n,.row (.int .i64) (fn ys).1,false)⟩|none=>none
  |some _=>none
theorem WC{P:Program}{κ:AZ}(hκ:Aj P κ){f:V}{h:I3}(hc:JD κ f=some h):∃g,f=.fn (.func g) [] []∧Vl P g h:=by
 unfold JD at hc;split at hc
 ·rename_i g;split at hc;·rename_i h' hk;cases hc;exact⟨g,rfl,hκ g _ hk⟩
  ·rename_i c hk;cases hc;exact⟨g,rfl,hκ g _ hk⟩
  ·cases hc
 ·cases hc
def GM(τ:AK)(κ:AZ)(op:Op)(tmps:List (Nat×V))(objs:AA)(nx:Nat):Option AT:=match op with
 |.call {callee:=.value x,args,..}=>match Iq κ (AL tmps x)with|some r=>Ir κ objs r (Aw tmps args.toList) nx|none=>match JD κ (AL tmps x)with|some h=>K5 κ h (Aw tmps args.toList) nx|none=>match JA κ objs (AL tmps x) (Aw tmps args.toList)with|.ok ob v=>some ⟨ob,v,none⟩|_=>none
 |op=>JL τ op tmps objs nx
def Ig(objs:AA)(vs:List V):List Nat:=match Gi 9 objs vs with|some (_,ks)=>ks|none=>[]
def Ix(τ:AK)(κ:AZ)(op:Op)(tmps:List (Nat×V))(objs:AA):List Nat:=match op with
 |.buildSlice t _ parts=>match τ t with
  |some ⟨.sl e,_,_,_,_⟩=>match τ e with|some ⟨_,_,_,_,some _⟩=>Ig objs (Aw tmps (parts.toList.map (·.2)))|_=>[]
  |_=>[]
 |.store _ a x=>match AL tmps a with
  |.rref l _ _=>match O l objs with|some (.vrow ..)=>[]|_=>Ig objs [AL tmps x]
  |_=>[]
 |.mapUpdate _ _ _ x=>Ig objs [AL tmps x]|.call {callee:=.value x,args,..}=>match Iq κ (AL tmps x)with
  |some none=>[]|some (some r)=>match r.own with|false=>Ig objs (Aw tmps args.toList)|true=>Ig objs (Aw tmps args.toList).tail
  |none=>match JD κ (AL tmps x)with|some (.lin _)=>Ig objs (Aw tmps args.toList)|some (.clo _)=>[]|none=>match JA κ objs (AL tmps x) (Aw tmps args.toList)with|.frz ks=>ks|_=>[]
 |_=>[]
def stepU(τ:AK)(κ:AZ)(dst:Option Nat)(op:Op)(s:St):Option (Option Prop×St):=match s with|⟨nt,tmps,objs,nx,df,wr,di,mv⟩=>match freezeL (Ix τ κ op tmps objs) ⟨nt,tmps,objs,nx,df,wr,di,mv⟩with|⟨nt,tmps,objs,nx,df,wr,di,mv⟩=>match GM τ κ op tmps objs nx with|none=>none|some ⟨ob,v,ed⟩=>match GL nx df ed with|false=>none|true=>match(St.mk nt tmps objs nx df wr di mv).edit ed with|⟨nt,tmps,objs,nx,df,wr,di,mv⟩=>match(St.mk nt tmps objs nx df wr di mv).setT dst v with|none=>none|some s'=>some (ob,s')
def V.bare:V→V|.when _ v=>v|v=>v
def G5:List (Nat×V)→List (Nat×V)|[]=>[]|(t,v)::r=>(t,v.bare)::G5 r
theorem O8(t:Nat):∀l:List (Nat×V),AF t (G5 l)=(AF t l).bare
 |[]=>rfl|(u,v)::l=>by
  rw[G5,BU,BU];split;·rfl
  ·exact O8 t l
def K8(tmps:List (Nat×V)):Operand→Option Bool
 |.tmp t=>match AF t tmps with|.when q _=>some q|_=>none
 |_=>none
def GI(tmps:List (Nat×V)):List Operand→List Bool|[]=>[]|x::l=>match K8 tmps x with|some q=>q::GI tmps l|none=>GI tmps l
def Mr:List Bool→Prop→Prop|[],p=>p|q::l,p=>q=true∧Mr l p
def IN(g:Bool)(qs:List Bool)(ob:Option Prop):Option Prop:=match qs with
 |[]=>match ob with|none=>none|some p=>some (g=true→p)
 |qs=>some (g=true→Mr qs (Ae ob))
theorem Ms{p:Prop}:∀{l:List Bool},Mr l p→p∧∀q∈l,q=true|[],h=>⟨h,λq hq=>by simp at hq⟩|q::l,h=>by obtain⟨h1,h2⟩:=Ms h.2;exact⟨h1,λr hr=>(List.mem_cons.1 hr).elim (λe=>e▸h.1) (h2 r)⟩
theorem Ja{g:Bool}{qs:List Bool}{ob:Option Prop}(h:Ae (IN g qs ob))(hg:g=true):Ae ob∧∀q∈qs,q=true:=by cases qs with
 |nil=>cases ob with|none=>exact⟨trivial,λq hq=>by simp at hq⟩|some p=>exact Ms (l:=[]) (h hg)
 |cons q l=>exact Ms (l:=q::l) (h hg)
theorem NC{tmps:List (Nat×V)}:∀{l:List Operand}{x:Operand},x∈l→∀q,K8 tmps x=some q→q∈GI tmps l
 |y::l,x,hx,q,hq=>by
  rcases List.mem_cons.1 hx with rfl|hx;·simp only[GI,hq];exact iW
  ·have :=NC hx q hq;simp only[GI];split;·exact dS _ this
   ·exact this
theorem Qu{E:AB}{tmps:List (Nat×V)}{x:Operand}{c:Value}(r:N P E (AL tmps x) c)(h:∀q,K8 tmps x=some q→q=true):N P E (AL (G5 tmps) x) c:=by cases x with
 |tmp t=>show N P E (AF t (G5 tmps)) c;rw[O8];have h':∀q v,AF t tmps=.when q v→q=true:=λq v e=>h q (by simp[K8,e]);change N P E (AF t tmps) c at r;generalize AF t tmps=v at r h';cases v with
  |when q v=>cases r with|when h1 h2=>exact h1 (h' q v rfl)
  |_=>exact r
 |_=>exact r
def G4(u:Nat):List (Nat×V)→List (Nat×V)|[]=>[]|(t,v)::r=>match Nat.beq t u with|true=>(t,v.bare)::G4 u r|false=>(t,v)::G4 u r
theorem UC(u t:Nat):∀l:List (Nat×V),AF t (G4 u l)=if t=u then(AF t l).bare else AF t l
 |[]=>by simp only[G4];split<;>rfl|(k,v)::l=>by
  have ih:=UC u t l;simp only[G4];split
  ·rename_i hk;have hk:=dJ hk;rw[BU,BU];split;·rename_i e;rw[dO (by omega)]
   ·exact ih
  ·rename_i hk;have hk:k≠u:=λe=>by rw[e,lP]at hk;cases hk
   rw[BU,BU];split;·rename_i e;rw[dK (by omega)]
   ·exact ih
def I8(op:Op)(tmps:List (Nat×V)):List (Nat×V):=match op with
 |.pick c _ _=>match c with|.tmp u=>G4 u tmps|_=>tmps
 |_=>G5 tmps
def GJ(op:Op)(tmps:List (Nat×V)):List Bool:=match op with|.pick c _ _=>GI tmps [c]|_=>GI tmps op.operands.toList
def Jb(want:Bool)(v:V):Option Bool:=match v with
 |.d .bool b=>match want with|true=>some b|false=>some !b
 |.when q (.d .bool b)=>match want with|true=>some (q&&b)|false=>some (q&&!b)
 |_=>none
def JX(ops:List Oper)(j:Nat):Option Nat:=match ops[j]? with|some ⟨some d,_,_,_,_,_⟩=>some d|_=>none
def stepG(τ:AK)(κ:AZ)(dst:Option Nat)(op:Op)(g:Bool)(s:St):Option (Option Prop×St):=match s with|⟨nt,tmps,objs,nx,df,wr,di,mv⟩=>match GM τ κ op (I8 op tmps) objs nx with
 |some ⟨ob,v,none⟩=>match(St.mk nt tmps objs nx df wr di mv).setT dst (.when g v)with|some s'=>some (IN g (GJ op tmps) ob,s')|none=>none
 |_=>none
theorem M3{E:AB}{op:Op}{tmps:List (Nat×V)}{x:Operand}{c:Value}(hx:x∈op.operands)(r:N P E (AL tmps x) c)(h:∀q∈GJ op tmps,q=true):N P E (AL (I8 op tmps) x) c:=by
 unfold I8;split
 ·rename_i c0 a b;split;·rename_i u;cases x with
   |tmp t=>
    show N P E (AF t (G4 u tmps)) c;rw[UC];split;·rename_i e;subst e;have :=Qu r λq hq=>h q (NC iW q hq);change N P E (AF t (G5 tmps)) c at this;rw[O8]at this;exact this
    ·exact r|_=>exact r
  ·exact r
 ·rename_i hn;have e:GJ op tmps=GI tmps op.operands.toList:=by
   unfold GJ;split;·rename_i c0 a b;exact absurd rfl (hn c0 a b)
   ·rfl
  rw[e]at h;exact Qu r λq hq=>h q (NC (Array.mem_toList_iff.2 hx) q hq)
def Vm(P:Program)(g:FuncId):Option GG→Prop|some r=>Qd P g r|none=>QZ P g
theorem aB(hκ:Aj P κ){f:V}{r:Option GG}(h:Iq κ f=some r):∃g,f=.fn (.func g) [] []∧Vm P g r:=by
 unfold Iq at h;split at h
 ·rename_i g;split at h;·rename_i r' hk;cases h;exact⟨g,rfl,hκ g _ hk⟩
  ·rename_i hk;cases h;exact⟨g,rfl,hκ g _ hk⟩
  ·cases h
 ·cases h
theorem JU{E:AB}{g:FuncId}{c:Value}(h:N P E (.fn (.func g) [] []) c):c=.func (.func g) #[] #[]:=by
 obtain⟨p,q,rfl,k1,k2⟩:=IH h;have h1:p=#[]:=by have :=k1.1;simpa using this
 have h2:q=#[]:=by have :=k2.1;simpa using this
 rw[h1,h2]
theorem A7.put{E:AB}{objs:AA}{l:Nat}{L K:AH}{T:Ty}{xs zs:List T.den}{w:World}(h:A7 P E L T xs w K zs)(g:U P E objs)(AI:O l objs=some (.row T xs))(hL:E.loc l=some L):U P (E.setL w l K) (edit objs (some (l,.row T zs,true)))∧Ak E objs (E.setL w l K) (edit objs (some (l,.row T zs,true))) [l]:=by obtain⟨row,hw,BW,BJ,Bv,_⟩:=h;exact U.put g (mv:=true) (o':=.row T zs) (L':=K) AI hL hw BW (λh=>by cases h) (BJ _) Bv
theorem Uo(hκ:Aj P κ){f:V}{r:Option GG}(hr:Iq κ f=some r){os objs:AA}{args:List V}{n:Nat}{out:AT}(h:Ir κ os r args n=some out)(hs:BV os objs)(ho:Ae out.ob){E:AB}(g:U P E objs){c:Value}{cs:List Value}(rf:N P E f c)(ra:AE P E args cs):∃gf,c=.func (.func gf) #[] #[]∧Bu P gf∧∃T,(∃zs,out.v=.osl n∧out.ed=some (n,.row T zs,false)∧Calls P gf cs.toArray E.w λe w2=>∃K,e=.returned K.v∧E.w.grownBy w2 none∧E.w.drawn≤w2.drawn∧(∀lo,AY P ⟨w2,E.S,lo⟩ K (.row T zs))∧((Obj.row T zs).has K→E.w.heap.size≤K.b))∨∃l L xs zs,O l os=some (.row T xs)∧E.loc l=some L∧out.v=.osl l∧out.ed=some (l,.row T zs,true)∧Calls P gf cs.toArray E.w λe w2=>∃K,e=.returned K.v∧A7 P E L T xs w2 K zs:=by obtain⟨gf,rfl,hok⟩:=aB hκ hr;have hcl:∀vs ds,Bg vs=none→AE P E vs ds→AE P ⟨E.w,E.S,λ_=>none⟩ vs ds:=λvs ds hf h=>JE (E:=E) (E':=⟨E.w,E.S,λ_=>none⟩) (λb hb=>⟨hb,rfl⟩) h hf;match r,hok with
 |none,hok=>
  refine⟨gf,JU rf,hok.1,.int .i64,?_⟩;unfold Ir Tg at h;simp only at h;split at h
  ·rename_i l i k;split at h;·cases h
   ·rename_i AU;split at h
    ·rename_i xs hl;split at h;·rename_i zs hk;cases h;obtain⟨h0,h1,h2⟩:=ho;match cs,ra with|[a,b,c],ra=>obtain⟨L,hL,rfl⟩:=DB ra.head;have e:=ra.tail.head.int_inv;subst e;obtain⟨K,hK,rfl⟩:=DB ra.tail.tail.head;exact .inr ⟨l,L,xs,_,hl,hL,rfl,rfl,hok.2 E objs l k L K xs zs i g (hs l _ hl) (hs k _ hk) (fS AU) hL hK h0 h1 h2⟩|[],ra=>exact absurd ra.1 (by simp)|[_],ra=>exact absurd ra.1 (by simp)|[_,_],ra=>exact absurd ra.1 (by simp)|_::_::_::_::_,ra=>exact absurd ra.1 (by simp)
     ·cases h
    ·cases h
  ·cases h|some ⟨T,false,ps,pre,fn⟩,hok=>
  refine⟨gf,JU rf,hok.1,T,?_⟩;unfold Ir at h;simp only at h;split at h
  ·rename_i hk;split at h;·rename_i ys CW;cases h;exact .inl ⟨_,rfl,rfl,hok.2 E.w E.S ys g.sok ho _ (JY hκ 3 _ _ _ _ _ CW (by simpa using hcl _ _ hk ra))⟩
   ·cases h
  ·cases h|some ⟨T,true,ps,pre,fn⟩,hok=>
  refine⟨gf,JU rf,hok.1,T,?_⟩;unfold Ir at h;simp only at h;split at h
  ·rename_i l rest;split at h
   ·rename_i T' xs AI;split at h
    ·rename_i hT;subst hT;split at h
     ·rename_i hk;split at h;·rename_i ys CW;cases h;match cs,ra with|[],ra=>exact absurd ra.1 (by simp)|c::cs,ra=>obtain⟨L,hL,rfl⟩:=DB ra.head;exact .inr ⟨l,L,xs,_,AI,hL,rfl,rfl,hok.2 E objs l L xs ys g (hs l _ AI) hL ho cs (JY hκ 3 _ _ _ _ _ CW (hcl _ _ hk ra.tail))⟩
      ·cases h
     ·cases h
    ·cases h
   ·cases h
  ·cases h
theorem JB{r:Option Nat}{o:Oper}{a:Act}{x:Operand}{args:Array Operand}{tys:Array TypeId}(BK:o.op=.call {callee:=.value x,args,argTypes:=tys}){gf:FuncId}(hx:a.eval x=.func (.func gf) #[] #[])(hc:Bu P gf){E:AB}{R:Ending→World→Prop}(h:Calls P gf (args.toList.map a.eval).toArray E.w R){next:Act→World→Prop}{Q:CC}(hn:∀e w2,R e w2→∃u,e=.returned u∧next (a.put o.dst u) w2):o.wpIn (fz r) 0 P a E.w next Q:=by
 refine⟨λ_ _=>trivial,?_⟩;rw[iP _ _ _ λc=>by rw[BK];simp,M7 BK hc hx,kA];refine⟨λh=>by simp[fz,Fence.wide]at h,LO ?_⟩;have e3:Calls P gf (#[]++args.map a.eval++#[]) E.w R:=by have :(args.toList.map a.eval).toArray=args.map a.eval:=kC (by rw[iL]);rw[this]at h;simpa using h
 refine gG e3 ?_;intro e w2 hR;obtain⟨u,rfl,hu⟩:=hn e w2 hR;exact hu
theorem aC(hκ:Aj P κ){r:Option Nat}{o:Oper}{a:Act}{x:Operand}{args:Array Operand}{tys:Array TypeId}(BK:o.op=.call {callee:=.value x,args,argTypes:=tys}){tmps:List (Nat×V)}{rc:Option GG}{out:AT}{n:Nat}{os objs:AA}{E:AB}(hr:Iq κ (AL tmps x)=some rc)(h:Ir κ os rc (Aw tmps args.toList) n=some out)(ho:Ae out.ob)(hs:BV os objs)(g:U P E objs)(hf:E.loc n=none)(hx:N P E (AL tmps x) (a.eval x))(Of:∀y∈args.toList,N P E (AL tmps y) (a.eval y)):Ff P r o a E objs out:=by
 intro next Q hn;obtain⟨gf,e1,e2,T,e3⟩:=Uo hκ hr h hs ho g hx (Gj Of);rcases e3 with⟨zs,h1,h2,hc⟩|⟨l,L,xs,zs,h0,hL,h1,h2,hc⟩;·refine JB BK e1 e2 hc ?_;rintro e w2⟨K,rfl,hg,hd,hat,Bv⟩;obtain⟨g',st⟩:=U.push g (w:=w2) (l:=n) (L:=K) (o:=.row T zs) hf hg (hat _) Bv;rw[h1,h2]at hn;exact⟨_,rfl,hn (E.setL w2 n K) K.v g' st hd (.osl (A6 _ _ _ _))⟩
 ·refine JB BK e1 e2 hc ?_;rintro e w2⟨K,rfl,hA⟩;obtain⟨g',st⟩:=hA.put g (hs l _ h0) hL;have hd:E.w.drawn≤w2.drawn:=by obtain⟨_,_,_,_,_,h⟩:=hA;exact h
  rw[h1,h2]at hn;exact⟨_,rfl,hn (E.setL w2 l K) K.v g' st hd (.osl (A6 _ _ _ _))⟩
theorem WD(hκ:Aj P κ){r:Option Nat}{o:Oper}{a:Act}{x:Operand}{args:Array Operand}{tys:Array TypeId}(BK:o.op=.call {callee:=.value x,args,argTypes:=tys}){tmps:List (Nat×V)}{h:I3}{out:AT}{objs:AA}{E:AB}{n:Nat}(hc:JD κ (AL tmps x)=some h)(ho:K5 κ h (Aw tmps args.toList) n=some out)(Bw:Ae out.ob)(g:U P E objs)(hf:E.loc n=none)(hx:N P E (AL tmps x) (a.eval x))(Of:∀y∈args.toList,N P E (AL tmps y) (a.eval y)):Ff P r o a E objs out:=by
 intro next Q hn;have ra:AE P E (Aw tmps args.toList) (args.toList.map a.eval):=Gj Of;obtain⟨gf,hf',hok⟩:=WC hκ hc;rw[hf']at hx;unfold K5 at ho;split at ho
 ·rename_i h;have hok:Mh P gf h:=hok;split at ho
  ·rename_i v hv;rw[hv]at ra;split at ho;·rename_i hs;cases ho;obtain⟨c,hcs,rc⟩:=ra.single;refine JB (R:=λe w2=>∃u E',e=.returned u∧E'.w=w2∧U P E' objs∧Ak E objs E' objs []∧E.w.drawn≤w2.drawn∧N P E' (.fn (.func h) [] [.er [v]]) u) BK (JU hx) hok.1 (by rw[hcs];exact hok.2 E objs v c g hs rc) ?_;rintro e w2⟨u,E',rfl,rfl,g',st,hd,hu⟩;exact⟨u,rfl,hn E' u g' st hd hu⟩
   ·cases ho
  ·cases ho
 ·rename_i ps pre fn;have hok:Mk P gf ⟨ps,pre,fn⟩:=hok;split at ho
  ·rename_i hk;split at ho;·rename_i ys CW;cases ho;have hcl:AE P ⟨E.w,E.S,λ_=>none⟩ (Aw tmps args.toList) (args.toList.map a.eval):=JE (E:=E) (E':=⟨E.w,E.S,λ_=>none⟩) (λb hb=>⟨hb,rfl⟩) ra hk;refine JB (R:=λe w2=>∃u E',e=.returned u∧E'.w=w2∧U P E' ((n,.row (.int .i64) (fn ys).1)::objs)∧Ak E objs E' ((n,.row (.int .i64) (fn ys).1)::objs) []∧E.w.drawn≤w2.drawn∧N P E' (.agg [.osl n,.d (.int .i64) (fn ys).2]) u) BK (JU hx) hok.1 (hok.2 E objs n ys g hf Bw _ (JY hκ 3 _ _ _ _ _ CW (by simpa using hcl))) ?_;rintro e w2⟨u,E',rfl,rfl,g',st,hd,hu⟩;exact⟨u,rfl,hn E' u g' st hd hu⟩
   ·cases ho
  ·cases ho
theorem LJ(hτ:Ah P τ)(hκ:Aj P κ){r:Option Nat}{o:Oper}{tmps:List (Nat×V)}{os objs:AA}{nx:Nat}{out:AT}{E:AB}{a:Act}(h:GM τ κ o.op tmps os nx=some out)(hs:BV os objs)(ho:Ae out.ob)(g:U P E objs)(hf:E.loc nx=none)(hr:∀x∈o.op.operands,N P E (AL tmps x) (a.eval x)):Ff P r o a E objs out:=by
 have plain:(∀x args tys,o.op≠.call {callee:=.value x,args,argTypes:=tys})→JL τ o.op tmps os nx=some out→Ff P r o a E objs out:=λhn he=>(W8 hτ he hs ho g hf hr λ_=>rfl).did λc e=>by rw[e]at he;cases he
 unfold GM at h;split at h
 ·rename_i x args tys BK;split at h;·rename_i rc A1;exact aC hκ BK A1 h ho hs g hf (hr x (by rw[BK];simp[Op.operands,Call.operands])) λy hy=>hr y (by rw[BK];simp only[Op.operands,Call.operands];simp[Array.mem_toList_iff.1 hy])
  ·split at h;·rename_i k hk;exact WD hκ BK hk h ho g hf (hr x (by rw[BK];simp[Op.operands,Call.operands])) λy hy=>hr y (by rw[BK];simp only[Op.operands,Call.operands];simp[Array.mem_toList_iff.1 hy])
   ·split at h;·rename_i ob v hc;cases h;exact call_did' hκ BK hc hs ho g λy hy=>hr y (by rw[BK];exact hy)
    ·cases h
 ·rename_i hn;exact plain (λx args tys e=>hn x args tys e) h where call_did'{κ:AZ}(hκ:Aj P κ){E:AB}{os objs:AA}{r:Option Nat}{o:Oper}{a:Act}{x:Operand}{args:Array Operand}{tys:Array TypeId}(BK:o.op=.call {callee:=.value x,args,argTypes:=tys}){tmps:List (Nat×V)}{ob:Option Prop}{v:V}(h:JA κ os (AL tmps x) (Aw tmps args.toList)=.ok ob v)(hs:BV os objs)(ho:Ae ob)(g:U P E objs)(hr:∀y∈(Op.call {callee:=.value x,args,argTypes:=tys}).operands,N P E (AL tmps y) (a.eval y)):Ff P r o a E objs ⟨ob,v,none⟩:=WA hκ BK h ho hs g (hr x (by simp[Op.operands,Call.operands])) λy hy=>hr y (by simp only[Op.operands,Call.operands];simp[Array.mem_toList_iff.1 hy])
theorem bA(hτ:Ah P τ)(hκ:Aj P κ){r:Option Nat}{cx:Cx}{o:Oper}{s s':St}{ob:Option Prop}{a:Act}{w:World}(h:stepU τ κ o.dst o.op s=some (ob,s'))(ho:Ae ob)(hr:Ab P cx s a w){next:Act→World→Prop}{Q:CC}(hn:∀a' w',Ab P cx s' a' w'→next a' w'):o.wpIn (fz r) 0 P a w next Q:=by
 obtain⟨nt,tmps,objs,nx,df,wr,di,mv⟩:=s;unfold stepU at h;simp only at h;have hr':=VO (P:=P) (cx:=cx) (Ix τ κ o.op tmps objs) _ a w hr;revert h hr';generalize freezeL (Ix τ κ o.op tmps objs) ⟨nt,tmps,objs,nx,df,wr,di,mv⟩=s1;obtain⟨nt,tmps,objs,nx,df,wr,di,mv⟩:=s1;rintro h⟨E,rfl,r1⟩;simp only at h;split at h;·cases h
 ·rename_i ob' v ed he;split at h;·cases h
  ·rename_i Ac;revert h;generalize Fx:(St.mk nt tmps objs nx df wr di mv).edit ed=s2;obtain⟨nt2,Gv,KJ,nx2,df2,wr2,di2,mv2⟩:=s2;intro h;simp only at h;split at h;·cases h
   ·rename_i s3 Ha;cases h;refine LJ hτ hκ he (λ_ _ h=>h) ho r1.good (r1.fresh nx (dT _)) (λx _=>Fm r1.rep x) _ Q λE' u k1 k2 kd k3=>hn _ _ ⟨E',rfl,?_⟩;rw[←Fx]at Ha;exact Af.setT (Af.edit r1 Ac kd k1 k2) Ha k3
theorem AC.stepU{dst:Option Nat}{op:Op}{s s':St}{ob:Option Prop}(h:stepU τ κ dst op s=some (ob,s')):AC s s':=by
 obtain⟨nt,tmps,objs,nx,df,wr,di,mv⟩:=s;unfold YtldikbpclaeajaaDoor.stepU at h;simp only at h;have hi:=AC.freezeL (Ix τ κ op tmps objs) ⟨nt,tmps,objs,nx,df,wr,di,mv⟩;revert h hi;generalize YtldikbpclaeajaaDoor.freezeL (Ix τ κ op tmps objs) ⟨nt,tmps,objs,nx,df,wr,di,mv⟩=s1;obtain⟨nt,tmps,objs,nx,df,wr,di,mv⟩:=s1;intro h hi;simp only at h;split at h;·cases h
 ·rename_i ob' v ed _;split at h;·cases h
  ·revert h;generalize Fx:(St.mk nt tmps objs nx df wr di mv).edit ed=s2;have hj:=AC.edit (St.mk nt tmps objs nx df wr di mv) ed;rw[Fx]at hj;obtain⟨nt2,Gv,KJ,nx2,df2,wr2,di2,mv2⟩:=s2;intro h;simp only at h;split at h;·cases h
   ·rename_i s3 Ha;cases h;exact(hi.trans hj).trans (AC.setT Ha)
theorem VL{E:AB}{ops:Array Oper}{o:Oper}{j gd:Nat}{want g:Bool}{v:V}{a:Act}(hg:o.guard=some (j,want))(EF:JX ops.toList j=some gd)(hv:Jb want v=some g)(rg:N P E v (a.tmps.getD gd undef)):Region.wanted o (yielded ops a.tmps)=g:=by
 have YD:(ops[j]?).bind (·.dst)=some gd:=by
  unfold JX at EF;split at EF;·rename_i h;cases EF;rw[fD]at h;rw[h];rfl
  ·cases EF
 have hy:yielded ops a.tmps j=match a.tmps[gd]? with|some (.bool b)=>some b|_=>none:=by unfold yielded;rw[YD];rfl
 simp only[Region.wanted,hg,hy];have BA:a.tmps.getD gd undef=(a.tmps[gd]?).getD undef:=by rw[dQ]
 rw[BA]at rg;unfold Jb at hv;split at hv;·rename_i b;have :=rg.bool_inv;cases hq:a.tmps[gd]? with|none=>rw[hq]at this;cases this|some c=>rw[hq]at this;simp at this;subst this;cases b<;>cases want<;>cases hv<;>rfl
 ·rename_i q b;cases rg with|when k1 k2=>cases q with
  |true=>have :=(k1 rfl).bool_inv;cases hq:a.tmps[gd]? with|none=>rw[hq]at this;cases this|some c=>rw[hq]at this;simp at this;subst this;cases b<;>cases want<;>cases hv<;>rfl
  |false=>have :=k2 rfl;cases hq:a.tmps[gd]? with|none=>cases want<;>cases hv<;>rfl|some c=>rw[hq]at this;simp at this;subst this;cases want<;>cases hv<;>rfl
 ·cases hv
theorem aZ(hτ:Ah P τ)(hκ:Aj P κ){r:Option Nat}{cx:Cx}{o:Oper}{s s':St}{ob:Option Prop}{g:Bool}{a:Act}{w:World}(h:stepG τ κ o.dst o.op g s=some (ob,s'))(ho:Ae ob)(hr:Ab P cx s a w){next:Act→World→Prop}{Q:CC}(hn:∀a' w',Ab P cx s' a' w'→next a' w'):(g=true→o.wpIn (fz r) 0 P a w next Q)∧(g=false→next (a.put o.dst undef) w):=by
 obtain⟨nt,tmps,objs,nx,df,wr,di,mv⟩:=s;unfold stepG at h;simp only at h;split at h
 ·rename_i ob' v he;split at h
  ·rename_i s3 Ha;cases h;obtain⟨E,rfl,r1⟩:=hr;refine⟨λhg=>?_,λhg=>?_⟩;·obtain⟨k0,kc⟩:=Ja ho hg;refine LJ hτ hκ he (λ_ _ h=>h) k0 r1.good (r1.fresh nx (dT _)) (λx hx=>M3 hx (Fm r1.rep x) kc) _ Q λE' u k1 k2 kd k3=>hn _ _ ⟨E',rfl,?_⟩;exact Af.setT (Af.edit (ed:=none) r1 rfl kd k1 k2) Ha (.when (λ_=>k3) λe=>by rw[hg]at e;cases e)
   ·exact hn _ _ ⟨E,rfl,Af.setT r1 Ha (.when (λe=>by rw[hg]at e;cases e) λ_=>rfl)⟩
  ·cases h
 ·cases h
theorem AC.stepG{dst:Option Nat}{op:Op}{g:Bool}{s s':St}{ob:Option Prop}(h:stepG τ κ dst op g s=some (ob,s')):AC s s':=by
 obtain⟨nt,tmps,objs,nx,df,wr,di,mv⟩:=s;unfold YtldikbpclaeajaaDoor.stepG at h;simp only at h;split at h
 ·split at h;·rename_i hs;cases h;exact AC.setT hs
  ·cases h
 ·cases h
end
section
variable {P : Program} {τ : AK} {κ : AZ}
def G2(ob:Option Prop)(k:Prop):Prop:=match ob with|none=>k|some p=>p∧k
theorem Mu{ob:Option Prop}{k:Prop}(h:G2 ob k):Ae ob∧k:=by cases ob with|none=>exact⟨trivial,h⟩|some p=>exact h
def A2(n:Nat):List Nat→Bool|[]=>false|m::l=>match Nat.beq m n with|true=>true|false=>A2 n l
theorem Cr{n:Nat}:∀{l:List Nat},A2 n l=true↔n∈l
 |[]=>by simp[A2]|m::l=>by
  simp only[A2,eA];split;·rename_i h;exact⟨λ_=>.inl (dJ h).symm,λ_=>rfl⟩
  ·rename_i h;rw[Cr (l:=l)];exact⟨.inr,λh'=>h'.elim (λe=>absurd e.symm (fS h)) id⟩
abbrev XT:=Oper→St→(St→Prop)→Prop
def I4(P:Program)(r:Option Nat)(cx:Cx)(X:XT):Prop:=∀(o:Oper)(s:St)(k:St→Prop)(a:Act)(w:World)(next:Act→World→Prop)(Q:CC),o.guard=none→X o s k→Ab P cx s a w→(∀s' a' w',AC s s'→k s'→Ab P cx s' a' w'→next a' w')→o.wpIn (fz r) 0 P a w next Q
def Cu(τ:AK)(κ:AZ)(X:XT)(ops:List Oper):List Oper→List Nat→St→(St→Prop)→Prop|[],_,s,k=>k s|⟨dst,op,ty,po,af,guard⟩::l,kn,s,k=>match guard with
 |none=>match stepU τ κ dst op s with|some (ob,s')=>G2 ob (Cu τ κ X ops l kn s' k)|none=>X ⟨dst,op,ty,po,af,none⟩ s λs'=>Cu τ κ X ops l kn s' k
 |some (j,want)=>match JX ops j with|none=>False|some gd=>match AF gd s.tmps with|v=>match Jb want v with|none=>False|some g=>match A2 j kn with|true=>cond g (match stepU τ κ dst op s with|some (ob,s')=>G2 ob (Cu τ κ X ops l kn s' k)|none=>X ⟨dst,op,ty,po,af,none⟩ s λs'=>Cu τ κ X ops l kn s' k) (match s.setT dst .any with|some s'=>Cu τ κ X ops l kn s' k|none=>False)|false=>match stepG τ κ dst op g s with|some (ob,s')=>G2 ob (Cu τ κ X ops l kn s' k)|none=>match v with
  |.d .bool b=>cond g (match s.setT (some gd) (.d .bool want)with
   |some s1=>match stepU τ κ dst op s1 with|some (ob,s')=>G2 ob (Cu τ κ X ops l (j::kn) s' k)|none=>X ⟨dst,op,ty,po,af,none⟩ s1 λs'=>Cu τ κ X ops l (j::kn) s' k
   |none=>False) (match s.setT (some gd) (.d .bool !want)with
   |some s1=>match s1.setT dst .any with|some s'=>Cu τ κ X ops l (j::kn) s' k|none=>False
   |none=>False)|_=>False
theorem bS{F:Fence}{n:Nat}{o:Oper}{g:Option (Nat×Bool)}{a:Act}{w:World}{next:Act→World→Prop}{Q:CC}(h:Oper.wpIn F n P {o with guard:=g} a w next Q):o.wpIn F n P a w next Q:=h
theorem Ab.setT_same{cx:Cx}{s s':St}{a:Act}{w:World}{d:Nat}{v:V}(hr:Ab P cx s a w)(h:s.setT (some d) v=some s')(hv:∀E,Af P cx s a E→N P E v (a.tmps.getD d undef)):Ab P cx s' a w:=by
 obtain⟨E,rfl,r⟩:=hr;refine⟨E,rfl,?_⟩;have :=Af.setT r h (hv E r);have hd:d<a.tmps.size:=by
  unfold St.setT at h;split at h;·rename_i he;cases he
  ·rename_i d' he;cases he;split at h;·rename_i AM;have h0:d<s.nt:=eJ AM;have h1:=r.size;omega
   ·cases h
 have e:a.put (some d) (a.tmps.getD d undef)=a:=by
  obtain⟨t,ds⟩:=a;simp only[Act.put];congr 1;apply Array.ext (by simp);intro i h1 h2;rw[Array.getElem_setIfInBounds];split;·rename_i e;subst e;rfl
  ·rfl
 rwa[e]at this
theorem PQ(hτ:Ah P τ)(hκ:Aj P κ){r:Option Nat}{cx:Cx}{X:XT}(hX:I4 P r cx X){ops:Array Oper}{Q:CC}:∀{l:List Oper}{is:List Nat}{kn:List Nat}{s:St}{k:St→Prop}{a:Act}{w:World},l.map some=is.map (λi=>ops[i]?)→Cu τ κ X ops.toList l kn s k→Ab P cx s a w→(∀s' a' w',AC s s'→k s'→Ab P cx s' a' w'→Q .normal a' w')→wpOpsIn (fz r) 0 P ops Q is a w
  |[],[],_,s,k,a,w,_,h,hr,hk=>hk s a w (.refl s) h hr|[],_::_,_,_,_,_,_,h,_,_,_=>by simp at h|_::_,[],_,_,_,_,_,h,_,_,_=>by simp at h|⟨dst,op,ty,po,af,guard⟩::l,i::is,kn,s,k,a,w,hl,h,hr,hk=>by
    simp only[fK,hE]at hl;have hi:ops[i]?=some ⟨dst,op,ty,po,af,guard⟩:=hl.1.symm;have hl':=hl.2;rw[wpOpsIn_cons];unfold wpOpIn;rw[hi];simp only;have next:∀(kn':List Nat)(s':St),AC s s'→Cu τ κ X ops.toList l kn' s' k→∀a' w',Ab P cx s' a' w'→wpOpsIn (fz r) 0 P ops Q is a' w':=λkn' s' hi' h' a' w' hr'=>PQ hτ hκ hX hl' h' hr' λs'' a'' w'' hj h'' hr''=>hk s'' a'' w'' (hi'.trans hj) h'' hr'';have run:∀(kn':List Nat)(s1:St),AC s s1→Ab P cx s1 a w→(match YtldikbpclaeajaaDoor.stepU τ κ dst op s1 with|some (ob,s')=>G2 ob (Cu τ κ X ops.toList l kn' s' k)|none=>X ⟨dst,op,ty,po,af,none⟩ s1 λs'=>Cu τ κ X ops.toList l kn' s' k)→Oper.wpIn (fz r) 0 P ⟨dst,op,ty,po,af,guard⟩ a w (wpOpsIn (fz r) 0 P ops Q is) Q:=by
      intro kn' s1 hi1 hr1 h1;split at h1;·rename_i ob s' hs;obtain⟨ho,h2⟩:=Mu h1;exact bA (o:=⟨dst,op,ty,po,af,guard⟩) hτ hκ hs ho hr1 (next kn' s' (hi1.trans (AC.stepU hs)) h2)
      ·exact bS (g:=none) (hX ⟨dst,op,ty,po,af,none⟩ s1 _ a w _ Q rfl h1 hr1 λs' a' w' hj h2 J1=>next kn' s' (hi1.trans hj) h2 a' w' J1)
    cases guard with|none=>simp only[Cu]at h;rw[dO (by simp[Region.wanted])];exact run kn s (.refl s) hr h|some jw=>
      obtain⟨j,want⟩:=jw;simp only[Cu]at h;split at h;·exact h.elim
      · rename_i gd EF;split at h;·exact h.elim
        · rename_i g hg;have hw:Region.wanted ⟨dst,op,ty,po,af,some (j,want)⟩ (yielded ops a.tmps)=g:=by obtain⟨E,_,r1⟩:=id hr;exact VL rfl EF hg (r1.rep gd)
          rw[hw];have skip:∀(kn':List Nat)(s1 s':St),AC s s1→Ab P cx s1 a w→s1.setT dst .any=some s'→Cu τ κ X ops.toList l kn' s' k→(∀f,Oper.about P w a.eval ⟨dst,op,ty,po,af,some (j,want)⟩=some f→(fz r).fn f)∧wpOpsIn (fz r) 0 P ops Q is (a.put dst undef) w:=λkn' s1 s' hi1 hr1 hs h1=>⟨λ_ _=>trivial,by obtain⟨E,rfl,r1⟩:=hr1;exact next kn' s' (hi1.trans (AC.setT hs)) h1 _ _ ⟨E,rfl,Af.setT r1 hs (.any _)⟩⟩;split at h;·cases g with|true=>exact run kn s (.refl s) hr h|false=>
              simp only[dN]at h;rw[dK (by simp)];split at h;·rename_i s' hs;exact skip kn s s' (.refl s) hr hs h
              ·exact h.elim
          · split at h;·rename_i ob s' hs;obtain⟨ho,h2⟩:=Mu h;have :=aZ (o:=⟨dst,op,ty,po,af,some (j,want)⟩) (r:=r) (Q:=Q) hτ hκ hs ho hr (next kn s' (AC.stepG hs) h2);cases g with|true=>exact this.1 rfl|false=>rw[dK (by simp)];exact⟨λ_ _=>trivial,this.2 rfl⟩
            · split at h
              · rename_i b hb;have Sw:g=true∧b=want∨g=false∧b=!want:=by rw[hb]at hg;simp only[Jb]at hg;cases want<;>cases b<;>cases hg<;>simp
                cases g with
                |true=>
                  simp only[dV]at h;have e:b=want:=by simpa using Sw
                  split at h;·rename_i s1 Dz;exact run (j::kn) s1 (AC.setT Dz) (hr.setT_same Dz λE r1=>by have :=r1.rep gd;rw[hb,e]at this;exact this) h
                  ·exact h.elim|false=>
                  simp only[dN]at h;have e:b=!want:=by simpa using Sw
                  rw[dK (by simp)];split at h
                  · rename_i s1 Dz;split at h;·rename_i s' hs';exact skip (j::kn) s1 s' (AC.setT Dz) (hr.setT_same Dz λE r1=>by have :=r1.rep gd;rw[hb,e]at this;exact this) hs' h
                    ·exact h.elim
                  ·exact h.elim
              ·exact h.elim
end
section
variable {P : Program} {τ : AK} {κ : AZ}
def AB.cut(E:AB)(n:Nat):AB:=⟨E.w,E.S,λl=>if l<n then E.loc l else none⟩
theorem Eh{E:AB}{n l:Nat}{L:AH}(h:E.loc l=some L)(hl:l<n):(E.cut n).loc l=some L:=by simp only[AB.cut,dO hl,h]
def E8(P:Program)(n:Nat)(v:V):Prop:=∀E c,N P E v c→N P (E.cut n) v c
theorem E8.of{E0:AB}{n:Nat}(hf:∀l,n≤l→E0.loc l=none){v:V}{c0:Value}(r:N P E0 v c0):E8 P n v:=by
 have AM:∀{l L},E0.loc l=some L→l<n:=λ{l L}h=>gU λhle=>by rw[hf l hle]at h;cases h
 induction r with
 |any v=>exact λE c _=>.any c|d hc=>intro E c r;cases r with|d h=>exact .d h
 |nilp=>intro E c r;cases r;exact .nilp|nilf=>intro E c r;cases r;exact .nilf|nils a=>intro E c r;cases r with|nils a=>exact .nils a
 |nilm=>intro E c r;cases r;exact .nilm|fn h1 h2 _ _ i1 i2=>intro E c r;cases r with|fn k1 k2 k3 k4=>exact .fn k1 k2 (λj hj=>i1 j hj _ _ (k3 j hj)) λj hj=>i2 j hj _ _ (k4 j hj)
 |agg h1 _ i1=>intro E c r;cases r with|agg k1 k2=>exact .agg k1 λj hj=>i1 j hj _ _ (k2 j hj)
 |tup h1 _ i1=>intro E c r;cases r with|tup k1 k2=>exact .tup k1 λj hj=>i1 j hj _ _ (k2 j hj)
 |er c hb hc _ i=>intro E c r;cases r with|er c' k1 k2 k3=>exact .er c' k1 k2 λj hj=>i j hj _ _ (k3 j hj)
 |ref k=>intro E c r;cases r with|ref h=>exact .ref (Eh h (AM k))
 |rref k=>intro E c r;cases r with|rref h=>exact .rref (Eh h (AM k))
 |osl k=>intro E c r;cases r with|osl h=>exact .osl (Eh h (AM k))
 |osp k kp=>intro E c r;cases r with|osp h hp=>exact .osp (Eh h (AM k)) hp
 |map k=>intro E c r;cases r with|map h=>exact .map (Eh h (AM k))
 |when h1 h2 i1=>intro E c r;cases r with|when k1 k2=>exact .when (λe=>i1 e _ _ (k1 e)) k2
 |opt h1 h2 i1=>intro E c r;cases r with|opt k1 k2=>exact .opt (λe=>i1 e _ _ (k1 e)) k2
 |pf k=>intro E c r;cases r with|pf h=>exact .pf h
 |yl k=>intro E c r;cases r with|yl h=>exact .yl (Eh h (AM k))
 |bsl k=>intro E c r;cases r with|bsl h=>exact .bsl (Eh h (AM k))
def Gz(P:Program)(n:Nat)(o:Obj):Prop:=∀E L,AY P E L o→AY P (E.cut n) L o
theorem Ux{E0:AB}{n:Nat}(hf:∀l,n≤l→E0.loc l=none){t:Ty}{xs:List (List t.den)}{s:List V}{m:Nat}{L0:AH}(h:AY P E0 L0 (.vrow t xs s m)):∀j,j<s.length→E8 P n (s.getD j .any):=by
 intro j hj;obtain⟨h1,h2,h3,e',cs',h4,h5|⟨cur',h5,h6,h7,h8,h9,Au,CG,C7,DJ⟩⟩:=h;·rw[h5.2]at h3;omega
 ·exact E8.of hf (C7 j hj)
theorem Gz.vrow{n:Nat}{t:Ty}{xs:List (List t.den)}{s:List V}{m:Nat}(h:∀j,j<s.length→E8 P n (s.getD j .any)):Gz P n (.vrow t xs s m):=by
 intro E L k;obtain⟨k1,k2,k3,e,cs,k4,k5⟩:=k;refine⟨k1,k2,k3,e,cs,k4,?_⟩;rcases k5 with k5|⟨cur,k5,k6,k7,k8,k9,k10,k11,k12,k13⟩;·exact .inl k5
 ·exact .inr ⟨cur,k5,k6,k7,k8,k9,k10,k11,λj hj=>h j hj _ _ (k12 j hj),k13⟩
theorem Gz.of{E0:AB}{n:Nat}(hf:∀l,n≤l→E0.loc l=none){o:Obj}{L0:AH}(h:AY P E0 L0 o):Gz P n o:=by intro E L k;cases o with|dead=>trivial|box cs=>obtain⟨_,_,_,_,h3⟩:=h;obtain⟨vals,t,k1,k2,k3⟩:=k;exact⟨vals,t,k1,k2,λj hj=>E8.of hf (h3 j hj) _ _ (k3 j hj)⟩|row t xs=>exact k|vrow t xs s m=>exact Gz.vrow (Ux hf h) E L k|smap t m=>exact k|imap t m=>exact k|lrec nt tmps ps a b st j=>obtain⟨_,_,_,h3,_⟩:=h;obtain⟨r,k1,k2,k3,k4⟩:=k;exact⟨r,k1,k2,λt=>E8.of hf (h3 t) _ _ (k3 t),k4⟩|dfb=>exact k
theorem CB.cut{E0 E:AB}{n:Nat}(hf:∀l,n≤l→E0.loc l=none):∀{df:List Df}{d0 ds:List Deferred},CB P E0 df d0→CB P E df ds→CB P (E.cut n) df ds|[],_,_,_,h=>h|.mark l::r,_,_,⟨_,_,_,⟨K0,h2,_⟩,h3⟩,⟨L,rest,k1,⟨K,k2,k3⟩,k4⟩=>⟨L,rest,k1,⟨K,Eh k2 (gU λhle=>by rw[hf l hle]at h2;cases h2),k3⟩,h3.cut hf k4⟩|.fn g cs::r,_,_,⟨_,_,_,h2,h3⟩,⟨q,rest,k1,k2,k3⟩=>⟨q,rest,k1,⟨k2.1,λj hj=>E8.of hf (h2.2 j hj) _ _ (k2.2 j hj)⟩,h3.cut hf k3⟩
inductive Vy where|t(t:Nat)(T:Ty)|cell(l j:Nat)(T:Ty)|row(l:Nat)(T:Ty)|vrow(l:Nat)(T:Ty)(k:Option Nat)|smap(l:Nat)(T:Ty)|imap(l:Nat)(T:Ty)
@[reducible]def Vy.den:Vy→Type|.t _ T=>T.den|.cell _ _ T=>T.den|.row _ T=>List T.den|.vrow _ T _=>List (List T.den)×Nat|.smap _ T=>ByteArray→Option T.den|.imap _ T=>Int→Option T.den
@[reducible]def CF:List Vy→Type|[]=>Unit|[v]=>v.den|v::u::l=>v.den×CF (u::l)
structure LA where
 vs:List Vy
 es:List Nat
 an:List Nat
 dd:List Nat
def HF(l j:Nat):(v:Vy)→v.den→Option V
 |.cell k i T,y=>match Nat.beq k l with
  |true=>match Nat.beq i j with|true=>some (D6 T y)|false=>none
  |false=>none
 |_,_=>none
def Uw:Option Nat→List V|none=>[]|some k=>[.osl k]
def Ds(l:Nat):(v:Vy)→v.den→Option Obj
 |.row k T,y=>match Nat.beq k l with|true=>some (.row T y)|false=>none
 |.vrow k T so,y=>match Nat.beq k l with|true=>some (.vrow T y.1 (Uw so) y.2)|false=>none
 |.smap k T,y=>match Nat.beq k l with|true=>some (.smap T y)|false=>none
 |.imap k T,y=>match Nat.beq k l with|true=>some (.imap T y)|false=>none
 |_,_=>none
def Dt{α:Type}(f:(v:Vy)→v.den→Option α):(vs:List Vy)→CF vs→Option α|[],_=>none|[v],y=>f v y|v::u::l,y=>match f v y.1 with|some r=>some r|none=>Dt f (u::l) y.2
def Vy.key:Vy→Option Nat|.t _ _=>none|.cell l _ _|.row l _|.vrow l _ _|.smap l _|.imap l _=>some l
def DP:List Vy→List Nat|[]=>[]|v::r=>match v.key with
 |some l=>match A2 l (DP r)with|true=>DP r|false=>l::DP r
 |none=>DP r
def Gl(vs:List Vy)(y:CF vs)(l:Nat):Nat→List V→List V|_,[]=>[]|j,v::r=>(match Dt (HF l j) vs y with|some u=>u|none=>v)::Gl vs y l (j+1) r
def PK(vs:List Vy)(dd:List Nat)(y:CF vs)(l:Nat)(o:Obj):Obj:=match A2 l dd with|true=>.dead|false=>match Dt (Ds l) vs y with|some o'=>o'|none=>match o with|.box cs=>.box (Gl vs y l 0 cs)|o=>o
def FL(vs:List Vy)(dd:List Nat)(y:CF vs)(objs:AA):List Nat→AA|[]=>objs|l::ks=>match O l objs with|some o=>(l,PK vs dd y l o)::FL vs dd y objs ks|none=>FL vs dd y objs ks
def G1:List Nat→List (Nat×V)→List (Nat×V)|[],tm=>tm|t::r,tm=>(t,.any)::G1 r tm
def ET:(vs:List Vy)→CF vs→List (Nat×V)→List (Nat×V)
 |[],_,tm=>tm|[v],y,tm=>match v,y with|.t t T,y=>(t,D6 T y)::tm|_,_=>tm
 |v::u::l,y,tm=>match v,y with|.t t T,y=>(t,D6 T y.1)::ET (u::l) y.2 tm|_,y=>ET (u::l) y.2 tm
def LA.keys(la:LA):List Nat:=DP la.vs++la.dd
def LA.tmps:List Vy→List Nat|[]=>[]|.t t _::r=>t::LA.tmps r|_::r=>LA.tmps r
def head(la:LA)(s:St)(y:CF la.vs):St:=match la,s,y with|⟨vs,es,an,dd⟩,⟨nt,tmps,objs,nx,df,wr,di,mv⟩,y=>match DP vs++dd with|ks=>⟨nt,G1 an (ET vs y tmps),FL vs dd y objs ks,nx,df,[],[],ks++mv⟩
mutual
def V.eqb:V→V→Bool
 |.any,.any=>true|.nilp,.nilp=>true|.nilf,.nilf=>true|.nils,.nils=>true|.nilm,.nilm=>true|.fn (.func f) a b,v=>match v with
  |.fn (.func g) a' b'=>match Nat.beq f g with
   |true=>match EQ a a' with|true=>EQ b b'|false=>false
   |false=>false
  |_=>false
 |.agg a,v=>match v with|.agg b=>EQ a b|_=>false
 |.er a,v=>match v with|.er b=>EQ a b|_=>false
 |.ref l o,v=>match v with
  |.ref k q=>match Nat.beq l k with|true=>Nat.beq o q|false=>false
  |_=>false
 |.osl l,v=>match v with|.osl k=>Nat.beq l k|_=>false
 |.map l,v=>match v with|.map k=>Nat.beq l k|_=>false
 |.yl l,v=>match v with|.yl k=>Nat.beq l k|_=>false
 |.bsl l n,v=>match v with
  |.bsl k m=>match Nat.beq l k with|true=>Nat.beq n m|false=>false
  |_=>false
 |_,_=>false
def EQ:List V→List V→Bool
 |[],[]=>true|v::l,u::m=>match V.eqb v u with|true=>EQ l m|false=>false
 |_,_=>false
end
mutual
theorem Nj:∀{a b:V},a.eqb b=true→a=b
 |.any,b,h=>by cases b<;>first|rfl|(simp[V.eqb]at h)
 |.nilp,b,h=>by cases b<;>first|rfl|(simp[V.eqb]at h)
 |.nilf,b,h=>by cases b<;>first|rfl|(simp[V.eqb]at h)
 |.nils,b,h=>by cases b<;>first|rfl|(simp[V.eqb]at h)
 |.nilm,b,h=>by cases b<;>first|rfl|(simp[V.eqb]at h)
 |.fn f a b,v,h=>by
  cases f<;>try(simp[V.eqb]at h;done)
  cases v<;>try(simp[V.eqb]at h;done)
  rename_i g a' b';cases g<;>try(simp[V.eqb]at h;done)
  simp only[V.eqb]at h;split at h
  ·rename_i h1;split at h;·rename_i h2;rw[dJ h1,GN h2,GN h]
   ·cases h
  ·cases h|.agg a,v,h=>by
  cases v<;>simp only[V.eqb]at h<;>try(cases h;done)
  rw[GN h]|.er a,v,h=>by
  cases v<;>simp only[V.eqb]at h<;>try(cases h;done)
  rw[GN h]|.ref l o,v,h=>by
  cases v<;>simp only[V.eqb]at h<;>try(cases h;done)
  split at h;·rename_i h1;rw[dJ h1,dJ h]
  ·cases h|.osl l,v,h=>by
  cases v<;>simp only[V.eqb]at h<;>try(cases h;done)
  rw[dJ h]|.map l,v,h=>by
  cases v<;>simp only[V.eqb]at h<;>try(cases h;done)
  rw[dJ h]|.yl l,v,h=>by
  cases v<;>simp only[V.eqb]at h<;>try(cases h;done)
  rw[dJ h]|.bsl l n,v,h=>by
  cases v<;>simp only[V.eqb]at h<;>try(cases h;done)
  split at h;·rename_i h1;rw[dJ h1,dJ h]
  ·cases h|.d _ _,_,h=>by simp[V.eqb]at h|.tup _,_,h=>by simp[V.eqb]at h|.rref ..,_,h=>by simp[V.eqb]at h|.osp ..,_,h=>by simp[V.eqb]at h|.when ..,_,h=>by simp[V.eqb]at h|.opt ..,_,h=>by simp[V.eqb]at h|.pf ..,_,h=>by simp[V.eqb]at h
theorem GN:∀{a b:List V},EQ a b=true→a=b
 |[],[],_=>rfl|v::l,u::m,h=>by
  simp only[EQ]at h;split at h;·rename_i h1;rw[Nj h1,GN h]
  ·cases h|[],_::_,h=>by simp[EQ]at h|_::_,[],h=>by simp[EQ]at h
end
def FE(s:St):(v:Vy)→Option v.den
 |.t t T=>getD T (AF t s.tmps)|.cell l j T=>match O l s.objs with|some (.box cs)=>getD T (cs.getD j .any)|_=>none
 |.row l T=>match O l s.objs with|some (.row T' xs)=>if h:T'=T then some (h▸xs)else none|_=>none
 |.vrow l T so=>match O l s.objs with
  |some (.vrow T' xs cs m)=>match EQ cs (Uw so)with|true=>if h:T'=T then some (h▸xs,m)else none|false=>none
  |_=>none
 |.smap l T=>match O l s.objs with|some (.smap T' m)=>if h:T'=T then some (h▸m)else none|_=>none
 |.imap l T=>match O l s.objs with|some (.imap T' m)=>if h:T'=T then some (h▸m)else none|_=>none
def IK(s:St):(vs:List Vy)→Option (CF vs)|[]=>some ()|[v]=>FE s v|v::u::l=>match FE s v with
 |some x=>match IK s (u::l)with|some y=>some (x,y)|none=>none
 |none=>none
def frzT(t:Nat):Nat→St→St|0,s=>s|n+1,s=>match(AF t s.tmps).fk with|none=>s|some l=>match s.freeze l with|⟨nt,tmps,objs,nx,df,wr,di,mv⟩=>frzT t n ⟨nt,tmps,objs,nx,df,wr,di,mv⟩
def frzC(l j:Nat):Nat→St→St|0,s=>s|n+1,s=>match O l s.objs with
 |some (.box cs)=>match(cs.getD j .any).fk with|none=>s|some k=>match s.freeze k with|⟨nt,tmps,objs,nx,df,wr,di,mv⟩=>frzC l j n ⟨nt,tmps,objs,nx,df,wr,di,mv⟩
 |_=>s
def frzVs:List Vy→St→St|[],s=>s|.t t _::r,s=>frzVs r (frzT t 5 s)|.cell l j _::r,s=>frzVs r (frzC l j 5 s)|_::r,s=>frzVs r s
def Gd(l j:Nat):List Vy→Bool
 |[]=>false|.cell k i _::r=>match Nat.beq k l with
  |true=>match Nat.beq i j with|true=>true|false=>Gd l j r
  |false=>Gd l j r
 |_::r=>Gd l j r
def FY(l:Nat):List Vy→Bool
 |[]=>false|.row k _::r|.vrow k _ _::r|.smap k _::r|.imap k _::r=>match Nat.beq k l with|true=>true|false=>FY l r
 |_::r=>FY l r
def EP(vs:List Vy)(l:Nat):Nat→List V→List V→Bool
 |_,[],[]=>true|j,a::l1,b::l2=>match Gd l j vs with|true=>EP vs l (j+1) l1 l2|false=>match a.eqb b with|true=>EP vs l (j+1) l1 l2|false=>false
 |_,_,_=>false
def Lw(vs:List Vy)(dd:List Nat)(o0 o1:AA)(l:Nat):Bool:=match O l o1 with|none=>false|some p=>match O l o0 with|none=>false|some q=>match A2 l dd with|true=>true|false=>match FY l vs with
 |true=>match p with
  |.vrow _ _ c1 _=>match q with|.vrow _ _ c0 _=>EQ c1 c0|_=>false
  |_=>true
 |false=>match p with
  |.box cs1=>match q with|.box cs=>EP vs l 0 cs cs1|_=>false
  |_=>false
def Lx(vs:List Vy)(dd:List Nat)(o0 o1:AA):List Nat→Bool|[]=>true|l::r=>match Lw vs dd o0 o1 l with|true=>Lx vs dd o0 o1 r|false=>false
def Hw(la:LA)(t0 t1:List (Nat×V)):List Nat→Bool|[]=>true|t::r=>match A2 t la.an with|true=>Hw la t0 t1 r|false=>match A2 t (LA.tmps la.vs)with|true=>Hw la t0 t1 r|false=>match A2 t la.es with
 |true=>match(AF t t0).eqb (AF t t1)with|true=>Hw la t0 t1 r|false=>false
 |false=>false
def KY(ks:List Nat)(nx:Nat):List Nat→Bool|[]=>true|l::r=>match Nat.ble nx l with|true=>KY ks nx r|false=>match A2 l ks with|true=>KY ks nx r|false=>false
def G7(ks:List Nat)(nx:Nat)(o0 o1:AA):List Nat→Bool|[]=>true|l::r=>match Nat.ble nx l with|true=>G7 ks nx o0 o1 r|false=>match A2 l ks with|true=>G7 ks nx o0 o1 r|false=>match O l o0 with
 |some (.box cs)=>match O l o1 with
  |some (.box cs1)=>match EQ cs cs1 with|true=>G7 ks nx o0 o1 r|false=>false
  |_=>false
 |_=>false
def back(la:LA)(s0 s:St):Option (CF la.vs):=match frzVs la.vs s with|s1=>match IK s1 la.vs with|none=>none|some y=>match Hw la s0.tmps s1.tmps s1.wr with|false=>none|true=>match A2 s0.nt s1.wr with|true=>none|false=>match G7 la.keys s0.nx s0.objs s1.objs s1.di with|false=>none|true=>match KY (la.keys++s0.mv) s0.nx s1.mv with|false=>none|true=>match Lx la.vs la.dd s0.objs s1.objs la.keys with|false=>none|true=>some y
end
section
variable {P : Program} {τ : AK} {κ : AZ}
theorem Kp{E:AB}{T:Ty}{x:T.den}{lo:Nat→Option AH}{c:Value}(h:Gy E.w E.S T x c):N P ⟨E.w,E.S,lo⟩ (D6 T x) c:=I6 h
theorem Sn{E:AB}{lo:Nat→Option AH}{s1:St}{t:Nat}{c:Value}{tm:List (Nat×V)}(hr:N P E (AF t s1.tmps) c):∀{vs:List Vy}{y:CF vs},IK s1 vs=some y→(t∉LA.tmps vs→N P ⟨E.w,E.S,lo⟩ (AF t tm) c)→N P ⟨E.w,E.S,lo⟩ (AF t (ET vs y tm)) c
 |[],_,_,h=>h (by simp[LA.tmps])|[v],y,hy,h=>by cases v with
  |t u T=>
   simp only[ET,BU];split;·rename_i e;subst e;exact Kp (GQ hy hr)
   ·rename_i e;exact h (by simp[LA.tmps];exact eS e)|_=>exact h (by simp[LA.tmps])
 |v::u::l,y,hy,h=>by
  simp only[IK]at hy;split at hy
  ·rename_i x hx;split at hy;·rename_i y' hy';cases hy;have ih:=λh'=>Sn (E:=E) (lo:=lo) (tm:=tm) hr (vs:=u::l) (y:=y') hy' h';cases v with
    |t w T=>
     simp only[ET,BU];split;·rename_i e;subst e;exact Kp (GQ hx hr)
     ·rename_i e;exact ih λhn=>h (by simp only[LA.tmps,eA,fJ];exact⟨eS e,hn⟩)|_=>exact ih h
   ·cases hy
  ·cases hy
theorem Mt{t:Nat}{tm:List (Nat×V)}:∀an:List Nat,AF t (G1 an tm)=if t∈an then .any else AF t tm
 |[]=>by simp[G1]|u::r=>by
  simp only[G1,BU,Mt r,eA];by_cases e:u=t;·simp[e]
  ·rw[dK e];by_cases h:t∈r;·rw[dO h,dO (.inr h)]
   ·rw[dK h,dK (by rintro(h'|h');exact e h'.symm;exact h h')]
theorem IQ{vs:List Vy}{dd:List Nat}{y:CF vs}{objs:AA}{l:Nat}:∀ks:List Nat,O l (FL vs dd y objs ks)=if l∈ks then(O l objs).map (PK vs dd y l)else O l objs
 |[]=>by simp[FL]|k::ks=>by
  simp only[FL];split
  ·rename_i o ho;rw[Ad];split;·rename_i e;subst e;simp[ho]
   ·rename_i e;rw[IQ ks];by_cases h:l∈ks;·rw[dO h,dO (dS _ h)]
    ·rw[dK h,dK (by simp only[eA,fJ];exact⟨eS e,h⟩)]
  ·rename_i ho;rw[IQ ks];by_cases h:l∈ks;·rw[dO h,dO (dS _ h)]
   ·by_cases e:l=k;·subst e;rw[dK h,dO iW,ho];rfl
    ·rw[dK h,dK (by simp only[eA,fJ];exact⟨e,h⟩)]
theorem Nq{α:Type}{f:(v:Vy)→v.den→Option α}{s1:St}:∀{vs:List Vy}{y:CF vs}{r:α},IK s1 vs=some y→Dt f vs y=some r→∃v x,v∈vs∧FE s1 v=some x∧f v x=some r
 |[],_,_,_,h=>by cases h|[v],y,r,hy,h=>⟨v,y,by simp,hy,h⟩|v::u::l,y,r,hy,h=>by
  simp only[IK]at hy;split at hy
  ·rename_i x hx;split at hy
   ·rename_i y' hy';cases hy;simp only[Dt]at h;split at h;·rename_i r' hr';cases h;exact⟨v,x,by simp,hx,hr'⟩
    ·obtain⟨v',x',h1,h2,h3⟩:=Nq (vs:=u::l) hy' h;exact⟨v',x',dS _ h1,h2,h3⟩
   ·cases hy
  ·cases hy
theorem XJ{s1:St}{l:Nat}{v:Vy}{x:v.den}{o:Obj}(h1:FE s1 v=some x)(h2:Ds l v x=some o):O l s1.objs=some o:=by cases v with
 |t _ _=>cases h2|cell _ _ _=>cases h2|row k T=>
  simp only[Ds]at h2;split at h2
  ·rename_i e;cases h2;have :=dJ e;subst this;simp only[FE]at h1;split at h1
   ·rename_i T' xs ho;split at h1;·rename_i e;subst e;cases h1;exact ho
    ·cases h1
   ·cases h1
  ·cases h2|vrow k T so=>
  simp only[Ds]at h2;split at h2
  ·rename_i e;cases h2;have :=dJ e;subst this;simp only[FE]at h1;split at h1
   ·rename_i T' xs cs m ho;split at h1
    ·rename_i hc;split at h1;·rename_i e;subst e;cases h1;rw[GN hc]at ho;exact ho
     ·cases h1
    ·cases h1
   ·cases h1
  ·cases h2|smap k T=>
  simp only[Ds]at h2;split at h2
  ·rename_i e;cases h2;have :=dJ e;subst this;simp only[FE]at h1;split at h1
   ·rename_i T' xs ho;split at h1;·rename_i e;subst e;cases h1;exact ho
    ·cases h1
   ·cases h1
  ·cases h2|imap k T=>
  simp only[Ds]at h2;split at h2
  ·rename_i e;cases h2;have :=dJ e;subst this;simp only[FE]at h1;split at h1
   ·rename_i T' xs ho;split at h1;·rename_i e;subst e;cases h1;exact ho
    ·cases h1
   ·cases h1
  ·cases h2
theorem XI{s1:St}{l j:Nat}{v:Vy}{x:v.den}{u:V}{cs:List V}{E:AB}{c:Value}{lo:Nat→Option AH}(h1:FE s1 v=some x)(h2:HF l j v x=some u)(ho:O l s1.objs=some (.box cs))(r:N P E (cs.getD j .any) c):N P ⟨E.w,E.S,lo⟩ u c:=by cases v with
 |cell k i T=>
  simp only[HF]at h2;split at h2
  ·rename_i e1;split at h2;·rename_i e2;cases h2;have :=dJ e1;subst this;have :=dJ e2;subst this;simp only[FE,ho]at h1;exact Kp (GQ h1 r)
   ·cases h2
  ·cases h2|_=>cases h2
theorem ZE{vs:List Vy}{y:CF vs}{l:Nat}(h:FY l vs=false):Dt (Ds l) vs y=none:=by induction vs with|nil=>rfl|cons v r ih=>
 have h1:∀x,Ds l v x=none:=λx=>by cases v<;>simp only[FY]at h<;>simp only[Ds];all_goals(split at h;cases h;first|rfl|(rename_i e;rw[e]))
 have h2:FY l r=false:=by cases v<;>simp only[FY]at h<;>first|exact h|(split at h;cases h;exact h)
 cases r with|nil=>exact h1 y|cons u l'=>simp only[Dt];rw[h1];exact ih h2
theorem Tj{s1:St}{l:Nat}:∀{vs:List Vy}{y:CF vs},FY l vs=true→∃o,Dt (Ds l) vs y=some o
 |[],_,h=>by cases h|[v],y,h=>by
  cases v<;>simp only[FY]at h<;>try(cases h;done)
  all_goals(split at h<;>try(cases h;done));rename_i e;simp only[Dt,Ds,e];exact⟨_,rfl⟩|v::u::l',y,h=>by
  simp only[Dt];split;·exact⟨_,rfl⟩
  ·rename_i hn;refine Tj (s1:=s1) ?_;cases v<;>simp only[FY]at h⊢<;>first|exact h|skip
   all_goals(split at h;rename_i e;simp only[Ds,e]at hn;cases hn;exact h)
theorem M8{vs:List Vy}{l:Nat}:∀{j:Nat}{a b:List V},EP vs l j a b=true→a.length=b.length
 |_,[],[],_=>rfl|j,a::l1,b::l2,h=>by
  simp only[EP]at h;split at h;·simp[M8 h]
  ·split at h;·simp[M8 h]
   ·cases h|_,[],_::_,h=>by simp[EP]at h|_,_::_,[],h=>by simp[EP]at h
theorem Ti{l j:Nat}:∀{vs:List Vy}{y:CF vs},Gd l j vs=true→∃o,Dt (HF l j) vs y=some o
 |[],_,h=>by cases h|[v],y,h=>by
  cases v<;>simp only[Gd]at h<;>try(cases h;done)
  split at h<;>try(cases h;done)
  rename_i e1;split at h<;>try(cases h;done)
  rename_i e2;simp only[Dt,HF,e1,e2];exact⟨_,rfl⟩|v::u::l',y,h=>by
  simp only[Dt];split;·exact⟨_,rfl⟩
  ·rename_i hn;refine Ti ?_;cases v<;>simp only[Gd]at h⊢<;>first|exact h|skip
   split at h
   ·rename_i e1;split at h;·rename_i e2;simp only[HF,e1,e2]at hn;cases hn
    ·exact h
   ·exact h
theorem PJ{vs:List Vy}{y:CF vs}{l:Nat}:∀{j:Nat}{cs:List V},(Gl vs y l j cs).length=cs.length|_,[]=>rfl|j,v::r=>by simp only[Gl,dX,PJ]
theorem UO{vs:List Vy}{y:CF vs}{l:Nat}:∀{j:Nat}{cs:List V}{i:Nat},i<cs.length→(Gl vs y l j cs).getD i .any=match Dt (HF l (j+i)) vs y with|some u=>u|none=>cs.getD i .any
 |_,[],i,h=>by simp at h|j,v::r,0,_=>by first|(simp[Gl];done)|(simp[Gl];rfl)
 |j,v::r,i+1,h=>by simp only[Gl,jP];rw[UO (by simpa using h),show j+1+i=j+(i+1)from by omega]
theorem Q3{vs:List Vy}{l:Nat}:∀{j:Nat}{a b:List V}{i:Nat},EP vs l j a b=true→i<a.length→Gd l (j+i) vs=true∨a.getD i .any=b.getD i .any
 |_,[],_,_,_,h=>by simp at h|j,a::l1,[],_,h,_=>by simp[EP]at h|j,a::l1,b::l2,0,h,_=>by
  simp only[EP]at h;split at h;·rename_i e;exact .inl e
  ·split at h;·rename_i e;exact .inr (by simpa using Nj e)
   ·cases h|j,a::l1,b::l2,i+1,h,hi=>by
  have h':EP vs l (j+1) l1 l2=true:=by
   simp only[EP]at h;split at h;·exact h
   ·split at h;·exact h
    ·cases h
  have :=Q3 (i:=i) h' (by simpa using hi);rw[show j+1+i=j+(i+1)from by omega]at this;simpa using this
theorem O2{vs:List Vy}{dd:List Nat}{o0 o1:AA}:∀{ks:List Nat},Lx vs dd o0 o1 ks=true→∀l∈ks,Lw vs dd o0 o1 l=true
 |[],_,l,h=>by simp at h|k::r,h,l,hl=>by
  simp only[Lx]at h;split at h
  ·rename_i h1;rcases List.mem_cons.1 hl with rfl|hl;·exact h1
   ·exact O2 h l hl
  ·cases h
theorem P7{ks:List Nat}{nx:Nat}:∀{r:List Nat},KY ks nx r=true→∀l∈r,nx≤l∨l∈ks
 |[],_,l,h=>by simp at h|k::r,h,l,hl=>by
  simp only[KY]at h;split at h
  ·rename_i h1;rcases List.mem_cons.1 hl with rfl|hl;·exact .inl (eJ h1)
   ·exact P7 h l hl
  ·split at h
   ·rename_i h1;rcases List.mem_cons.1 hl with rfl|hl;·exact .inr (Cr.1 h1)
    ·exact P7 h l hl
   ·cases h
theorem NH{ks:List Nat}{nx:Nat}{o0 o1:AA}:∀{r:List Nat},G7 ks nx o0 o1 r=true→∀l∈r,nx≤l∨l∈ks∨∃cs,O l o0=some (.box cs)∧O l o1=some (.box cs)
 |[],_,l,h=>by simp at h|k::r,h,l,hl=>by
  simp only[G7]at h;have key:(l=k→nx≤l∨l∈ks∨∃cs,O l o0=some (.box cs)∧O l o1=some (.box cs))→G7 ks nx o0 o1 r=true→nx≤l∨l∈ks∨∃cs,O l o0=some (.box cs)∧O l o1=some (.box cs):=λh1 h2=>(List.mem_cons.1 hl).elim h1 (NH h2 l);split at h;·rename_i h1;exact key (λe=>.inl (e▸eJ h1)) h
  ·split at h;·rename_i h1;exact key (λe=>.inr (.inl (e▸Cr.1 h1))) h
   ·split at h
    ·rename_i cs h0;split at h
     ·rename_i cs1 h2;split at h;·rename_i h3;exact key (λe=>.inr (.inr ⟨cs,e▸h0,by rw[e,h2,GN h3]⟩)) h
      ·cases h
     ·cases h
    ·cases h
theorem VQ{la:LA}{t0 t1:List (Nat×V)}:∀{r:List Nat},Hw la t0 t1 r=true→∀t∈r,t∈la.an∨t∈LA.tmps la.vs∨AF t t0=AF t t1
 |[],_,l,h=>by simp at h|k::r,h,t,ht=>by
  simp only[Hw]at h;have key:(t=k→t∈la.an∨t∈LA.tmps la.vs∨AF t t0=AF t t1)→Hw la t0 t1 r=true→t∈la.an∨t∈LA.tmps la.vs∨AF t t0=AF t t1:=λh1 h2=>(List.mem_cons.1 ht).elim h1 (VQ h2 t);split at h;·rename_i h1;exact key (λe=>.inl (e▸Cr.1 h1)) h
  ·split at h;·rename_i h1;exact key (λe=>.inr (.inl (e▸Cr.1 h1))) h
   ·split at h
    ·split at h;·rename_i h1;exact key (λe=>.inr (.inr (e▸Nj h1))) h
     ·cases h
    ·cases h
theorem QH{cx:Cx}(t:Nat):∀(n:Nat)(s:St),Wk P cx s (frzT t n s)
 |0,s=>.refl s|n+1,s=>by
  simp only[frzT];split;·exact .refl s
  ·rename_i l hl;exact(Ke l).trans (QH t n _)
theorem AC.frzT(t:Nat):∀(n:Nat)(s:St),AC s (frzT t n s)
 |0,s=>.refl s|n+1,s=>by
  simp only[YtldikbpclaeajaaDoor.frzT];split;·exact .refl s
  ·rename_i l hl;exact(AC.freeze l s).trans (AC.frzT t n _)
theorem VP{cx:Cx}(l j:Nat):∀(n:Nat)(s:St),Wk P cx s (frzC l j n s)
 |0,s=>.refl s|n+1,s=>by
  simp only[frzC];split
  ·split;·exact .refl s
   ·exact(Ke _).trans (VP l j n _)
  ·exact .refl s
theorem AC.frzC(l j:Nat):∀(n:Nat)(s:St),AC s (frzC l j n s)
 |0,s=>.refl s|n+1,s=>by
  simp only[YtldikbpclaeajaaDoor.frzC];split
  ·split;·exact .refl s
   ·exact(AC.freeze _ s).trans (AC.frzC l j n _)
  ·exact .refl s
theorem Kf{cx:Cx}:∀(vs:List Vy)(s:St),Wk P cx s (frzVs vs s)|[],s=>.refl s|v::r,s=>by cases v<;>simp only[frzVs]<;>first|exact Kf r s|exact(QH _ _ s).trans (Kf r _)|exact(VP _ _ _ s).trans (Kf r _)
theorem AC.frzVs:∀(vs:List Vy)(s:St),AC s (frzVs vs s)|[],s=>.refl s|v::r,s=>by cases v<;>simp only[YtldikbpclaeajaaDoor.frzVs]<;>first|exact AC.frzVs r s|exact(AC.frzT _ _ s).trans (AC.frzVs r _)|exact(AC.frzC _ _ _ s).trans (AC.frzVs r _)
end
section
variable {P : Program} {τ : AK} {κ : AZ}
structure Hd(la:LA)(s0 s:St):Prop where
 nt:s.nt=s0.nt
 nx:s0.nx≤s.nx
 tmp:∀t,t∉s.wr→t∉la.an→t∉LA.tmps la.vs→AF t s.tmps=AF t s0.tmps
 obj:∀l,l∉s.di→l∉la.keys→O l s.objs=O l s0.objs
 df:s0.nt∉s.wr→s.df=s0.df
theorem Hd.inv{la:LA}{s0 s s':St}(h:Hd la s0 s)(k:AC s s'):Hd la s0 s':=⟨k.nt.trans h.nt,eO h.nx k.nx,λt h1 h2 h3=>(k.tmp t h1).trans (h.tmp t (λhm=>h1 (k.wr t hm)) h2 h3),λl h1 h2=>(k.obj l h1).trans (h.obj l (λhm=>h1 (k.di l hm)) h2),λh1=>(k.df (by rw[h.nt];exact h1)).trans (h.df λhm=>h1 (k.wr _ hm))⟩
def St.clr(s:St):St:=match s with|⟨nt,tmps,objs,nx,df,wr,di,mv⟩=>⟨nt,tmps,objs,nx,df,[],[],mv⟩
theorem Hd.clr(la:LA)(s0:St):Hd la s0 s0.clr:=⟨rfl,dT _,λ_ _ _ _=>rfl,λ_ _ _=>rfl,λ_=>rfl⟩
theorem OJ{t:Nat}{tm:List (Nat×V)}:∀{vs:List Vy}{y:CF vs},t∉LA.tmps vs→AF t (ET vs y tm)=AF t tm
 |[],_,_=>rfl|[v],y,h=>by cases v with|t u T=>simp only[LA.tmps,eA,fJ]at h;simp only[ET,BU];rw[dK (eS h.1)]|_=>rfl
 |v::u::l,y,h=>by cases v with|t w T=>simp only[LA.tmps,eA,fJ]at h;simp only[ET,BU];rw[dK (eS h.1)];exact OJ h.2|_=>simp only[ET];exact OJ h
theorem Hd.head(la:LA)(s0:St)(y:CF la.vs):Hd la s0 (head la s0 y):=by
 obtain⟨vs,es,an,dd⟩:=la;obtain⟨nt,tmps,objs,nx,df,wr,di,mv⟩:=s0;refine⟨rfl,dT _,λt _ h2 h3=>?_,λl _ h2=>?_,λ_=>rfl⟩;·show AF t (G1 an (ET vs y tmps))=AF t tmps;rw[Mt,dK h2];exact OJ h3
 ·show O l (FL vs dd y objs (DP vs++dd))=O l objs;rw[IQ,dK (show l∉DP vs++dd from h2)]
theorem PU{E E':AB}{objs BX:AA}(tr:∀l o,O l BX=some o→∃o1 L,O l objs=some o1∧E.loc l=some L∧E'.loc l=some L∧(∀L,o.has L→o1.has L)∧(AY P E L o1→AY P E' L o)){b:Nat}(h:Bi E' BX b):Bi E objs b:=by obtain⟨l,o,L,h1,h2,h3,h4⟩:=h;obtain⟨o1,L1,k1,k2,k3,k4,k5⟩:=tr l o h1;rw[k3]at h2;cases h2;exact⟨l,o1,L,k1,k2,k4 L h3,h4⟩
theorem U.sub{E E':AB}{objs BX:AA}(g:U P E objs)(hw:E'.w=E.w)(hS:E'.S=E.S)(tr:∀l o,O l BX=some o→∃o1 L,O l objs=some o1∧E.loc l=some L∧E'.loc l=some L∧(∀L,o.has L→o1.has L)∧(AY P E L o1→AY P E' L o)):U P E' BX:=by
 refine⟨λl o h=>?_,λb h hs=>?_,λb hs=>?_,g.tab.mono λb hb=>⟨hS▸hb,by rw[hw]⟩,λi j p q K K' h1 h2 h3 h4 h5 h6 h7=>?_⟩;·obtain⟨o1,L1,k1,k2,k3,k4,k5⟩:=tr l o h;obtain⟨L,hL,ha⟩:=g.at_ l o1 k1;rw[k2]at hL;cases hL;exact⟨L1,k3,k5 ha⟩
 ·exact g.ns b (PU tr h) (hS▸hs)
 ·rw[hw];exact g.sl b (hS▸hs)
 ·obtain⟨o1,L1,k1,k2,k3,k4,k5⟩:=tr i p h1;obtain⟨o2,L2,m1,m2,m3,m4,m5⟩:=tr j q h2;rw[k3]at h3;cases h3;rw[m3]at h4;cases h4;exact g.inj i j o1 o2 K K' k1 m1 k2 m2 (k4 _ h5) (m4 _ h6) h7
theorem M2{cx:Cx}{la:LA}{s0 s:St}{y':CF la.vs}{a0:Act}{w0:World}(h0:Ab P cx s0 a0 w0)(hd0:Hd la s0 s)(hb:back la s0 s=some y'){a:Act}{w:World}(hr:Ab P cx s a w):Ab P cx (head la s0 y') a w:=by
  unfold back at hb;have hr1:=Kf (P:=P) (cx:=cx) la.vs s a w hr;have hd:=hd0.inv (AC.frzVs la.vs s);revert hb hr1 hd;generalize frzVs la.vs s=s1;intro hb hr1 hd;simp only at hb;split at hb;·cases hb
  · rename_i y hy;split at hb;·cases hb
    · rename_i TT;split at hb;·cases hb
      · rename_i Oa;split at hb;·cases hb
        · rename_i Sl;split at hb;·cases hb
          · rename_i EV;split at hb;·cases hb
            · rename_i Dw;cases hb;obtain⟨E0,rfl,r0⟩:=h0;obtain⟨E,rfl,r⟩:=hr1;have hf:=r0.fresh;have AM:∀{l o},O l s0.objs=some o→l<s0.nx:=λ{l o}h=>gU λhle=>by obtain⟨L,hL,_⟩:=r0.good.at_ l o h;rw[hf l hle]at hL;cases hL
              have OF:s1.df=s0.df:=hd.df λhm=>by have :=Cr.2 hm;rw[Oa]at this;cases this
              have Sj:∀l,s0.nx≤l→cx.E.loc l=none:=λl hl=>by
                have hn:O l s0.objs=none:=by cases h:O l s0.objs with|none=>rfl|some o=>exact absurd (AM h) (by omega)
                rw[←r0.step.dom l hn];exact hf l hl
              obtain⟨vs,es,an,dd⟩:=la;have tr:∀l o,O l (FL vs dd y' s0.objs (DP vs++dd))=some o→∃o1 L,O l s1.objs=some o1∧E.loc l=some L∧(E.cut s0.nx).loc l=some L∧(∀L,o.has L→o1.has L)∧(AY P E L o1→AY P (E.cut s0.nx) L o):=by
                intro l o h;rw[IQ]at h;have FN:l<s0.nx:=by
                  split at h;·rw[eL]at h;obtain⟨o0,h1,_⟩:=h;exact AM h1
                  ·exact AM h
                split at h
                · rename_i hm;rw[eL]at h;obtain⟨o0,h1,rfl⟩:=h;have hk:=O2 Dw l hm;unfold Lw at hk;split at hk;·cases hk
                  · rename_i p hp;obtain⟨L,hL,hat⟩:=r.good.at_ l p hp;refine⟨p,L,hp,hL,Eh hL FN,?_⟩;unfold PK;rw[h1]at hk;simp only at hk;split at hk;·rename_i Jj;exact⟨λ_ h=>h.elim,λ_=>trivial⟩
                    · rename_i Jj;split at hk
                      · rename_i Bw;obtain⟨o',ho'⟩:=Tj (s1:=s1) (y:=y') Bw;simp only[ho'];obtain⟨v,x,hv,hx1,DM⟩:=Nq hy ho';have :=XJ hx1 DM;rw[hp]at this;cases this;refine⟨λ_ h=>h,λh=>?_⟩;have YS:∀cs,p≠.box cs:=λcs e=>by subst e;cases v<;>simp only[Ds]at DM<;>first|(cases DM;done)|(split at DM<;>cases DM)
                        have Dy:∀n t p' a b st j,p≠.lrec n t p' a b st j:=λn t p' a b st j e=>by subst e;cases v<;>simp only[Ds]at DM<;>first|(cases DM;done)|(split at DM<;>cases DM)
                        cases p with
                        |box cs=>exact absurd rfl (YS cs)|lrec n t p' a b st j=>exact absurd rfl (Dy n t p' a b st j)|dead=>trivial|row t xs=>exact h|vrow t xs s m=>
                          simp only at hk;split at hk;·obtain⟨_,_,FG⟩:=r0.good.at_ l _ h1;rw[←GN hk]at FG;exact Gz.vrow (Ux hf FG) _ _ h
                          ·cases hk|smap t m=>exact h|imap t m=>exact h|dfb=>exact h
                      · rename_i Bw;rw[ZE Bw];split at hk
                        · rename_i cs1;split at hk
                          · rename_i cs;refine⟨λ_ _=>trivial,λh=>?_⟩;obtain⟨vals,t,k1,k2,k3⟩:=h;have hlen:=M8 hk;refine⟨vals,t,k1,by rw[PJ];omega,λj hj=>?_⟩;rw[PJ]at hj;rw[UO hj,fE];split;·rename_i u hu;obtain⟨v,x,hv,hx1,DM⟩:=Nq hy hu;exact XI (E:=E) hx1 DM hp (k3 j (by omega))
                            · rename_i hu;rcases Q3 hk hj with hc|hc;·rw[fE]at hc;obtain⟨u,hu'⟩:=Ti (y:=y') hc;rw[hu]at hu';cases hu'
                              ·obtain⟨L0,Xe,FG⟩:=r0.good.at_ l _ h1;obtain⟨_,_,_,_,m3⟩:=FG;have Ji:=E8.of hf (m3 j hj);rw[hc];rw[hc]at Ji;exact Ji _ _ (k3 j (by omega))
                          ·cases hk
                        ·cases hk
                · rename_i hm;have hp:O l s1.objs=some o:=by
                    by_cases hnd:l∈s1.di
                    · rcases NH Sl l hnd with h1|h1|⟨cs,h1,h2⟩;·omega
                      ·exact absurd h1 hm
                      ·rw[h2,←h,h1]
                    ·exact(hd.obj l hnd hm).trans h
                  obtain⟨L,hL,hat⟩:=r.good.at_ l o hp;obtain⟨L0,Xe,FG⟩:=r0.good.at_ l o h;exact⟨o,L,hp,hL,Eh hL FN,λ_ h=>h,Gz.of hf FG _ _⟩
              have g2:=U.sub (E':=E.cut s0.nx) r.good rfl rfl tr;obtain⟨nt,tmps,objs,nx,df,wr,di,mv⟩:=s0;refine⟨E.cut nx,rfl,⟨g2,λl hl=>?_,?_,r.drawn,r.size.trans hd.nt,?_,λt=>?_⟩⟩;·show(if l<nx then _ else _)=_;rw[dK (by have :nx≤l:=hl;omega)]
              · refine⟨⟨r.step.ext.S,λl L hl hL=>?_⟩,r.step.os,r.step.tape,r.step.output,r.step.size,r.step.frame,λb hb=>r.step.own b (PU tr hb),r.step.st,λl hl=>?_,λl hl=>?_⟩
                · have FN:l<nx:=gU λhle=>by rw[Sj l hle]at hL;cases hL
                  refine Eh (r.step.ext.loc l L (λhm=>?_) hL) FN;rcases P7 EV l hm with h|h;·simp only at h;omega
                  ·exact hl h
                · have :O l (FL vs dd y' objs (DP vs++dd))=none:=hl;rw[IQ]at this;refine r0.step.keys l ?_;split at this;·simpa using this
                  ·exact this
                · have h2:O l (FL vs dd y' objs (DP vs++dd))=none:=hl;rw[IQ]at h2;have h3:O l objs=none:=by
                    split at h2;·simpa using h2
                    ·exact h2
                  show(if l<nx then E.loc l else none)=_;split
                  · rename_i FN;by_cases hm:l∈DP vs++dd;·have hk:=O2 Dw l hm;unfold Lw at hk;rw[h3]at hk;split at hk<;>cases hk
                    · have hnd:l∉s1.di:=λB3=>by
                        rcases NH Sl l B3 with h1|h1|⟨cs,h1,h2⟩;·simp only at h1;omega
                        ·exact hm h1
                        ·rw[h3]at h1;cases h1
                      exact r.step.dom l ((hd.obj l hnd hm).trans h3)
                  ·rename_i FN;exact(Sj l (by simp only;omega)).symm
              ·have :=r.df;rw[OF]at this;exact CB.cut hf r0.df this
              · show N P (E.cut nx) (AF t (G1 an (ET vs y' tmps))) _;rw[Mt];split;·exact .any _
                · rename_i hn;refine Sn (lo:=(E.cut nx).loc) (r.rep t) hy λS7=>?_;have e:AF t tmps=AF t s1.tmps:=by
                    by_cases hw:t∈s1.wr
                    · rcases VQ TT t hw with h|h|h;·exact absurd h hn
                      ·exact absurd h S7
                      ·exact h
                    ·exact(hd.tmp t hw hn S7).symm
                  have Ji:=E8.of hf (r0.rep t);have e':AF t (St.mk nt tmps objs nx df wr di mv).tmps=AF t s1.tmps:=e;rw[e']at Ji;rw[e];exact Ji _ _ (r.rep t)
end
section
variable {P : Program} {τ : AK} {κ : AZ}
def DA(M:List Nat)(v:V):V:=match v.key with
 |some k=>match A2 k M with|true=>.any|false=>v
 |none=>v
theorem ZD{E E':AB}{M:List Nat}(hx:BE E E' M){v:V}{c:Value}(r:N P E v c):N P E' (v.subst (DA M)) c:=by
 refine Ht hx.S (λv c hr r=>?_) r;unfold DA;split
 ·rename_i k hk;split;·exact .any _
  ·rename_i hm;have hk':∀{L},E.loc k=some L→E'.loc k=some L:=λh=>hx.loc k _ (λB3=>by rw[Cr.2 B3]at hm;cases hm) h;cases r<;>simp only[V.isRef,eW]at hr<;>simp only[V.key,gB]at hk<;>subst hk;·rename_i h;exact .ref (hk' h)
   ·rename_i h;exact .rref (hk' h)
   ·rename_i h;exact .osl (hk' h)
   ·rename_i h hp;exact .osp (hk' h) hp
   ·rename_i h;exact .map (hk' h)
   ·rename_i h;exact .yl (hk' h)
   ·rename_i h;exact .bsl (hk' h)
 ·rename_i hk;cases r<;>simp only[V.isRef,eW]at hr<;>simp only[V.key,reduceCtorEq]at hk
mutual
def V.hit(M:List Nat):V→Bool|.fn _ a b=>Ft M a||Ft M b|.agg cs=>Ft M cs|.tup cs=>Ft M cs|.er cs=>Ft M cs|.when _ v=>V.hit M v|.opt _ v=>V.hit M v|.ref k _=>A2 k M|.rref k _ _=>A2 k M|.osl k=>A2 k M|.osp k _ _=>A2 k M|.map k=>A2 k M|.yl k=>A2 k M|.bsl k _=>A2 k M|_=>false
def Ft(M:List Nat):List V→Bool|[]=>false|v::r=>V.hit M v||Ft M r
end
mutual
theorem MY{M:List Nat}:∀{v:V},v.hit M=false→v.subst (DA M)=v|.fn g a b,h=>by simp only[V.hit,gP]at h;simp only[V.subst,Gt h.1,Gt h.2]|.agg cs,h=>by simp only[V.hit]at h;simp only[V.subst,Gt h]|.tup cs,h=>by simp only[V.hit]at h;simp only[V.subst,Gt h]|.er cs,h=>by simp only[V.hit]at h;simp only[V.subst,Gt h]|.when b v,h=>by simp only[V.hit]at h;simp only[V.subst,MY h]|.opt b v,h=>by simp only[V.hit]at h;simp only[V.subst,MY h]|.ref k o,h=>by simp only[V.hit]at h;simp only[V.subst,DA,V.key,h]|.rref k i o,h=>by simp only[V.hit]at h;simp only[V.subst,DA,V.key,h]|.osl k,h=>by simp only[V.hit]at h;simp only[V.subst,DA,V.key,h]|.osp k lo n,h=>by simp only[V.hit]at h;simp only[V.subst,DA,V.key,h]|.map k,h=>by simp only[V.hit]at h;simp only[V.subst,DA,V.key,h]|.yl k,h=>by simp only[V.hit]at h;simp only[V.subst,DA,V.key,h]|.bsl k n,h=>by simp only[V.hit]at h;simp only[V.subst,DA,V.key,h]|.any,_=>rfl|.d _ _,_=>rfl|.nilp,_=>rfl|.nilf,_=>rfl|.nils,_=>rfl|.nilm,_=>rfl|.pf _ _ _ _,_=>rfl
theorem Gt{M:List Nat}:∀{cs:List V},Ft M cs=false→Br (DA M) cs=cs|[],_=>rfl|v::r,h=>by simp only[Ft,gP]at h;simp only[Br,MY h.1,Gt h.2]
end
def Jp(M:List Nat):List (Nat×V)→List Nat|[]=>[]|(t,v)::r=>match v.hit M with|true=>t::Jp M r|false=>Jp M r
theorem O9{M:List Nat}{t:Nat}:∀{tmps:List (Nat×V)},t∉Jp M tmps→AF t (Cm (DA M) tmps)=AF t tmps|[],_=>rfl|(u,v)::r,h=>by simp only[Jp]at h;rw[Cm,BU,BU];cases hv:v.hit M with|true=>rw[hv]at h;simp only[eA,fJ]at h;rw[dK (eS h.1),dK (eS h.1)];exact O9 h.2|false=>
 rw[hv]at h;rw[MY hv];split;·rfl
 ·exact O9 h
structure FI where
 nt:Nat
 res:List ResultVar
 code:Code
def FI.Ok(P:Program)(g:FuncId)(fi:FI):Prop:=∃fn,P.funcs[g]?=some fn∧fn.body=some fi.code∧fn.ntmps=fi.nt∧fn.results.toList=fi.res∧(fn.name== "runtime.NumGoroutine")=false
theorem FI.Ok.call{g:FuncId}{fi:FI}(h:fi.Ok P g):Bu P g:=by obtain⟨fn,h1,h2,_,_,h5⟩:=h;exact⟨fn,h1,by rw[h2];rfl,h5⟩
def GH:List Df→AA→Option AA
 |[],o=>some o|.mark l::r,o=>match O l o with|some .dfb=>GH r ((l,.dead)::o)|_=>none
 |.fn _ _::_,_=>none
def JI:List Df→List Nat|[]=>[]|.mark l::r=>l::JI r|.fn _ _::r=>JI r
def Ho(τ:AK)(tmps:List (Nat×V))(objs:AA):List ResultVar→Option (List V)
 |[]=>some []|.tmp t::l=>match Ho τ tmps objs l with|some r=>some (AF t tmps::r)|none=>none
 |.cell b t::l=>match AF b tmps with
  |.ref k 0=>match O k objs with
   |some (.box cs)=>match τ t with
    |some ti=>match ti.k.known with
     |true=>match GC ti.size cs with
      |some ds=>match Gm ti.isAgg ds with
       |some v=>match Ho τ tmps objs l with|some r=>some (v::r)|none=>none
       |none=>none
      |none=>none
     |false=>none
    |none=>none
   |_=>none
  |_=>none
def UH:List V→V|[v]=>v|l=>.tup l
def HH(τ:AK)(res:List ResultVar)(s:St):Option (V×St):=match s with|⟨nt,tmps,objs,nx,df,wr,di,mv⟩=>match GH df objs with
 |some BX=>match Ho τ tmps BX res with|some vs=>some (UH vs,⟨nt,tmps,BX,nx,[],wr,JI df++di,mv⟩)|none=>none
 |none=>none
def MN(tmps:Array Value):ResultVar→Sem Value|.tmp t=>pure (tmps.getD t undef)|.cell b t=>do loadVar t (←asAddr (tmps.getD b undef))
theorem Z9(fn:Func)(tmps:Array Value):results fn tmps=(do let vs←fn.results.mapM (MN tmps);pure (if h:vs.size=1 then vs[0]else .tuple vs)):=by rfl
theorem Pt(hτ:Ah P τ){tmps:List (Nat×V)}{objs:AA}{E:AB}{a:Act}(g:U P E objs)(h6:∀t,N P E (AF t tmps) (a.tmps.getD t undef)):∀{l:List ResultVar}{vs:List V},Ho τ tmps objs l=some vs→∃cs:List Value,(l.mapM (MN a.tmps)).run P E.w=.ok cs E.w∧AE P E vs cs
 |[],vs,h=>by simp only[Ho]at h;cases h;exact⟨[],by simp,.nil⟩|.tmp t::l,vs,h=>by
  simp only[Ho]at h;split at h;·rename_i r h1;cases h;obtain⟨cs,h2,h3⟩:=Pt hτ g h6 h1;exact⟨a.tmps.getD t undef::cs,by simp only[List.mapM_cons,MN,eQ,fQ,eF,h2],.cons (h6 t) h3⟩
  ·cases h|.cell b t::l,vs,h=>by
  simp only[Ho]at h;split at h
  ·rename_i k hb;split at h
   ·rename_i cs hcs;split at h
    ·rename_i ti Ai;split at h
     ·rename_i hk;split at h
      ·rename_i ds ED;split at h
       ·rename_i v OD;split at h;·rename_i r hr;cases h;obtain⟨rfl,OE⟩:=Ka ED;obtain⟨L,hL,hat⟩:=g.at_ _ _ hcs;obtain⟨vals,t',h4,h5⟩:=M5 hat;obtain⟨h7,h8⟩:=h5.at_cells h4 0 ti.size;rw[jT]at h7;have hb':=h6 b;rw[hb]at hb';obtain⟨L',hL',e⟩:=Io hb';rw[hL]at hL';cases hL';have hl:=UA (hτ t ti Ai) hk E.w L.b 0 _ (h7.1.trans OE) h8;obtain⟨cs',h2,h3⟩:=Pt hτ g h6 hr;have r1:=US OD h7;have hl':=hl r1.2;refine⟨_,by simp only[List.mapM_cons,MN,e,asAddr,eQ,fQ,eF,hl',h2],.cons r1.1 h3⟩
        ·cases h
       ·cases h
      ·cases h
     ·cases h
    ·cases h
   ·cases h
  ·cases h
theorem ZX{E:AB}{vs:List V}{cs:List Value}(r:AE P E vs cs):N P E (UH vs) (if h:cs.toArray.size=1 then cs.toArray[0]else .tuple cs.toArray):=by match vs,cs,r with|[],[],r=>exact .tup rfl λj hj=>by simp at hj|[v],[c],r=>exact r.head|v::v'::vs,c::c'::cs,r=>rw[dif_neg (by simp)];exact .tup (by simpa using r.1) λj hj=>by have :=r.2 j hj;simpa[dQ,dM]using this|[],_::_,r=>have :=r.1;simp at this|[_],[],r=>have :=r.1;simp at this|[_],_::_::_,r=>have :=r.1;simp at this|_::_::_,[],r=>have :=r.1;simp at this|_::_::_,[_],r=>have :=r.1;simp at this
def FA:Nat→List V→List (Nat×V)|_,[]=>[]|n,v::l=>(n,v)::FA (n+1) l
theorem UB:∀(l:List V)(n t:Nat),AF t (FA n l)=if n≤t then l.getD (t-n) .any else .any
 |[],n,t=>by simp[FA,AF]|v::l,n,t=>by
  rw[FA,BU];split;·rename_i e;subst e;simp
  ·rename_i e;rw[UB l (n+1) t];by_cases h:n≤t;·rw[dO h,dO (by omega),show t-n=t-(n+1)+1 from by omega];simp
   ·rw[dK h,dK (by omega)]
theorem Nh{E:AB}{objs:AA}{nx nt:Nat}{args:List V}{cargs:Array Value}(g:U P E objs)(hf:∀l,nx≤l→E.loc l=none)(r:AE P E args cargs.toList)(hn:args.length≤nt):Ab P ⟨E,objs⟩ ⟨nt,FA 0 args,objs,nx,[],[],[],[]⟩ {tmps:=cargs++Array.replicate (nt-cargs.size) undef,defers:=[]} E.w:=by
 have AS:cargs.size=args.length:=by simpa using r.1
 refine⟨E,rfl,g,hf,.refl _ _ _,dT _,?_,rfl,λt=>?_⟩;·simp[AS];omega
 ·show N P E (AF t (FA 0 args)) _;rw[UB,dO (fW _),lS];by_cases ht:t<args.length;·have :=r.2 t ht;simp only[dQ];rw[iO (by omega)];simpa[dM]using this
  ·rw[dM,fM (by omega)];exact .any _
structure QX(P:Program)(E:AB)(objs:AA)(s2:St)(E':AB):Prop where
 good:U P E' s2.objs
 fresh:∀l,s2.nx≤l→E'.loc l=none
 step:Ak E objs E' s2.objs s2.mv
 drawn:E.w.drawn≤E'.w.drawn
theorem T2{fn:Func}{tmps:Array Value}{R:Ending→World→Prop}:∀{df:List Df}{ds:List Deferred}{objs BX:AA}{E:AB},GH df objs=some BX→CB P E df ds→U P E objs→(∀E',U P E' BX→Ak E objs E' BX []→E.w.drawn≤E'.w.drawn→LeavesInM (fz none) 0 P fn tmps R [] .returning E'.w)→LeavesInM (fz none) 0 P fn tmps R ds .returning E.w
 |[],ds,objs,BX,E,h,hd,g,hk=>by cases h;rw[show ds=[]from hd];exact hk E g (.refl _ _ _) (dT _)|.mark l::r,ds,objs,BX,E,h,⟨L,rest,h1,⟨K,hK,h2⟩,h3⟩,g,hk=>by
  simp only[GH]at h;split at h
  ·rename_i ho;obtain⟨K',hK',hat⟩:=g.at_ l _ ho;rw[hK]at hK';cases hK';have hb:E.w.heap[L]?=some (.deferred (some [])):=by rw[←h2];exact hat
   have AM:L<E.w.heap.size:=(Array.getElem?_eq_some_iff.1 hb).1;have hgr:E.w.grownBy (E.w.putObj L (.deferred none)) (some L):=kR _ _ _;have hp:=U.put g (mv:=false) (o':=.dead) (L':=K) ho hK hgr (λb e=>by cases e;exact⟨trivial,h2.symm⟩) (λ_=>rfl) trivial λh=>h.elim;have e:E.setL (E.w.putObj L (.deferred none)) l K=⟨E.w.putObj L (.deferred none),E.S,E.loc⟩:=by
    simp only[AB.setL];congr 1;funext j;split;·rename_i e;subst e;exact hK.symm
    ·rfl
   rw[e]at hp;subst h1;refine⟨by simp,.inl ⟨L,_,rfl,run_takeDeferred hb,?_⟩⟩;have hx:BE E ⟨E.w.putObj L (.deferred none),E.S,E.loc⟩ []:=by simpa[moved]using hp.2.ext
   exact T2 (E:=⟨E.w.putObj L (.deferred none),E.S,E.loc⟩) h (h3.ext hx) hp.1 λE' g' st hd=>hk E' g' (by simpa[moved,edit]using hp.2.trans st) hd
  ·cases h|.fn _ _::_,_,_,_,_,h,_,_,_=>by cases h
theorem O7(hτ:Ah P τ){cx:Cx}{fi:FI}{fn:Func}(J2:fn.results.toList=fi.res){s s2:St}{v:V}(h:HH τ fi.res s=some (v,s2)){a:Act}{w:World}(hr:Ab P cx s a w){R:Ending→World→Prop}(hk:∀u E',QX P cx.E cx.imp s2 E'→N P E' v u→R (.returned u) E'.w):LeavesInM (fz none) 0 P fn a.tmps R a.defers .returning w:=by
 obtain⟨nt,tmps,objs,nx,df,wr,di,mv⟩:=s;unfold HH at h;simp only at h;split at h
 ·rename_i BX hc;split at h
  ·rename_i vs Yp;cases h;obtain⟨E,rfl,r⟩:=hr;refine T2 hc r.df r.good λE' g' st hd=>?_;have EW:∀t,N P E' (AF t tmps) (a.tmps.getD t undef):=λt=>(r.rep t).mono st.ext;obtain⟨cs,DJ,Xa⟩:=Pt hτ g' EW Yp;refine⟨_,?_,hk _ E' ⟨g',λl hl=>?_,by simpa using r.step.trans st,eO r.drawn hd⟩ (ZX Xa)⟩;·rw[Z9,kD,J2];simp only[eQ,Sem.run_map,DJ,eF,fQ]
   ·have hn:O l BX=none:=by
     have h1:O l objs=none:=by cases h:O l objs with|none=>rfl|some o=>obtain⟨L,hL,_⟩:=r.good.at_ l o h;rw[r.fresh l hl]at hL;cases hL
     exact closeM_none hc h1
    rw[st.dom l hn];exact r.fresh l hl
  ·cases h
 ·cases h where closeM_none:∀{df:List Df}{objs BX:AA}{l:Nat},GH df objs=some BX→O l objs=none→O l BX=none
  |[],_,_,_,h,hn=>by cases h;exact hn|.mark k::r,objs,BX,l,h,hn=>by
   simp only[GH]at h;split at h
   ·rename_i ho;refine closeM_none h ?_;rw[Ad,dK ?_];·exact hn
    ·intro e;subst e;rw[hn]at ho;cases ho
   ·cases h|.fn _ _::_,_,_,_,h,_=>by cases h
def Kn(M:List Nat):List Df→Bool
 |[]=>true|.mark l::r=>match A2 l M with|true=>false|false=>Kn M r
 |.fn _ _::_=>false
def Fh(s s2:St):Option St:=match s,s2 with|⟨nt,tmps,_,_,df,wr,di,mv⟩,⟨_,_,objs,nx,_,_,di2,mv2⟩=>match mv2 with|[]=>some ⟨nt,tmps,objs,nx,df,wr,di2++di,mv⟩|l::r=>match Kn (l::r) df with|true=>some ⟨nt,Cm (DA (l::r)) tmps,objs,nx,df,Jp (l::r) tmps++wr,di2++di,l::r++mv⟩|false=>none
theorem CB.marks{E E':AB}{M:List Nat}(hx:BE E E' M):∀{df:List Df}{ds:List Deferred},Kn M df=true→CB P E df ds→CB P E' df ds
 |[],_,_,h=>h|.mark l::r,_,hm,⟨L,rest,h1,⟨K,hK,h2⟩,h3⟩=>by
  simp only[Kn]at hm;split at hm;·cases hm
  ·rename_i AU;exact⟨L,rest,h1,⟨K,hx.loc l K (λh=>by rw[Cr.2 h]at AU;cases AU) hK,h2⟩,h3.marks hx hm⟩|.fn _ _::_,_,hm,_=>by cases hm
theorem M1{cx:Cx}{s s2 s3:St}{a:Act}{E E':AB}(r:Af P cx s a E)(h:Fh s s2=some s3)(k:QX P E s.objs s2 E'):Af P cx s3 a E':=by obtain⟨nt,tmps,objs,nx,df,wr,di,mv⟩:=s;obtain⟨nt2,Gv,KJ,nx2,df2,wr2,di2,mv2⟩:=s2;unfold Fh at h;cases mv2 with|nil=>cases h;have hx:BE E E' []:=k.step.ext;exact⟨k.good,k.fresh,r.step.trans k.step,eO r.drawn k.drawn,r.size,r.df.ext hx,λt=>(r.rep t).mono hx⟩|cons l M=>
 simp only at h;split at h;·rename_i hm;cases h;have hx:BE E E' (l::M):=k.step.ext;refine⟨k.good,k.fresh,r.step.trans k.step,eO r.drawn k.drawn,r.size,r.df.marks hx hm,λt=>?_⟩;show N P E' (AF t (Cm _ tmps)) _;rw[Gu,Hf];exact ZD hx (r.rep t)
 ·cases h
structure Qa(objs:AA)(nx:Nat)(s2:St):Prop where
 nx:nx≤s2.nx
 obj:∀l,l∉s2.di→O l s2.objs=O l objs
theorem XK{s0 s s2:St}{v:V}{res:List ResultVar}(h:HH τ res s=some (v,s2))(k:AC s0 s):Qa s0.objs s0.nx s2:=by
 obtain⟨nt,tmps,objs,nx,df,wr,di,mv⟩:=s;unfold HH at h;simp only at h;split at h
 ·rename_i BX hc;split at h;·cases h;refine⟨k.nx,λl hl=>?_⟩;simp only[fC,fJ]at hl;exact(closeM_get hc hl.1).trans (k.obj l hl.2)
  ·cases h
 ·cases h where closeM_get:∀{df:List Df}{objs BX:AA}{l:Nat},GH df objs=some BX→l∉JI df→O l BX=O l objs
  |[],_,_,_,h,_=>by cases h;rfl|.mark k::r,objs,BX,l,h,hn=>by
   simp only[GH]at h;simp only[JI,eA,fJ]at hn;split at h;·rw[closeM_get h hn.2,Ad,dK (eS hn.1)]
   ·cases h|.fn _ _::_,_,_,_,h,_=>by cases h
theorem M0{s s2 s3:St}(h:Fh s s2=some s3)(k:Qa s.objs s.nx s2):AC s s3:=by obtain⟨nt,tmps,objs,nx,df,wr,di,mv⟩:=s;obtain⟨nt2,Gv,KJ,nx2,df2,wr2,di2,mv2⟩:=s2;unfold Fh at h;have ho:∀l,l∉di2++di→O l KJ=O l objs:=λl hl=>k.obj l λhm=>hl (fR _ hm);cases mv2 with|nil=>cases h;exact⟨rfl,k.nx,λ_ h=>h,λl hl=>fN _ hl,λ_ h=>h,λ_ _=>rfl,ho,λ_=>rfl⟩|cons l M=>
 simp only at h;split at h;·cases h;exact⟨rfl,k.nx,λt ht=>fN _ ht,λl hl=>fN _ hl,λ_ h=>fN _ h,λt ht=>O9 λhm=>ht (fR _ hm),ho,λ_=>rfl⟩
 ·cases h
end
section
variable {P : Program}
def Ta(l:Nat):List Nat→Nat→Option Nat|[],_=>none|k::r,i=>match Nat.beq k l with|true=>some i|false=>Ta l r (i+1)
def V.rekey(k:Nat):V→V|.ref _ o=>.ref k o|.rref _ i o=>.rref k i o|.osl _=>.osl k|.osp _ lo n=>.osp k lo n|.map _=>.map k|.yl _=>.yl k|.bsl _ n=>.bsl k n|v=>v
def QE(ks:List Nat)(v:V):V:=match v.key with
 |some l=>match Ta l ks 0 with|some i=>v.rekey i|none=>.any
 |none=>v
def MO(ks:List Nat)(v:V):V:=match v.key with
 |some i=>match ks[i]? with|some l=>v.rekey l|none=>.any
 |none=>v
structure GF where
 α:Type
 β:Type
 rs:List Ty
 k:Nat
 vals:α→List V
 objs:β→AA
 get:List V→AA→Option (List Nat×α×β)
 back:AA→Option β
 pre:α→β→Prop
 post:α→β→A8 rs→β→Prop
 ch:List Nat
 mv:List Nat
structure GF.Law(R:GF):Prop where
 get:∀vs os ks a b,R.get vs os=some (ks,a,b)→Br (QE ks) vs=R.vals a∧ks.length=R.k∧ks.Nodup∧∀i l,ks[i]?=some l→∃o,O l os=some o∧O i (R.objs b)=some (o.subst (QE ks))∧(i∉R.ch→(o.subst (QE ks)).subst (MO ks)=o)
 dom:∀b i o,O i (R.objs b)=some o→i<R.k
 back:∀os b,R.back os=some b→∀i,i<R.k→O i os=O i (R.objs b)
 same:∀b b' i,i∉R.ch→O i (R.objs b')=O i (R.objs b)
 ch:∀i∈R.ch,i<R.k
 mv:∀i∈R.mv,i∈R.ch
def Hh(ks:List Nat)(os:AA):List Nat→AA|[]=>[]|i::r=>match ks[i]? with
 |some l=>match O i os with|some o=>(l,o.subst (MO ks))::Hh ks os r|none=>Hh ks os r
 |none=>Hh ks os r
def Ea(ks:List Nat):List Nat→List Nat|[]=>[]|i::r=>match ks[i]? with|some l=>l::Ea ks r|none=>Ea ks r
def MX(M:List Nat)(objs:AA):AA:=match M with|[]=>objs|l::r=>substO (DA (l::r)) objs
def F7(R:GF)(ks:List Nat)(b:R.β)(objs:AA):AA:=Hh ks (R.objs b) R.ch++MX (Ea ks R.mv) objs
theorem Nx{l:Nat}:∀{a b:AA},O l (a++b)=match O l a with|some o=>some o|none=>O l b
 |[],_=>rfl|(k,o)::r,b=>by
  rw[gE,Ad,Ad];split;·rfl
  ·exact Nx
theorem PL{ks:List Nat}{os:AA}{l:Nat}{o:Obj}:∀{ch:List Nat},O l (Hh ks os ch)=some o→∃i∈ch,ks[i]?=some l∧∃q,O i os=some q∧o=q.subst (MO ks)
 |[],h=>by cases h|i::r,h=>by
  simp only[Hh]at h;have rec':O l (Hh ks os r)=some o→∃j∈i::r,ks[j]?=some l∧∃q,O j os=some q∧o=q.subst (MO ks):=λh=>by obtain⟨j,h1,h2⟩:=PL h;exact⟨j,dS _ h1,h2⟩
  split at h
  ·rename_i l' hl;split at h
   ·rename_i q hq;rw[Ad]at h;split at h;·rename_i e;subst e;cases h;exact⟨i,by simp,hl,q,hq,rfl⟩
    ·exact rec' h
   ·exact rec' h
  ·exact rec' h
theorem PH{ks:List Nat}{l:Nat}:∀{mv:List Nat},l∈Ea ks mv↔∃i∈mv,ks[i]?=some l
 |[]=>by simp[Ea]|i::r=>by
  simp only[Ea];split
  ·rename_i k hk;rw[eA,PH (mv:=r)];constructor
   ·rintro(rfl|⟨j,h1,h2⟩);·exact⟨i,by simp,hk⟩
    ·exact⟨j,dS _ h1,h2⟩
   ·rintro⟨j,h1,h2⟩;rcases List.mem_cons.1 h1 with rfl|h1;·rw[hk]at h2;cases h2;exact .inl rfl
    ·exact .inr ⟨j,h1,h2⟩
  ·rename_i hk;rw[PH (mv:=r)];constructor;·rintro⟨j,h1,h2⟩;exact⟨j,dS _ h1,h2⟩
   ·rintro⟨j,h1,h2⟩;rcases List.mem_cons.1 h1 with rfl|h1;·rw[hk]at h2;cases h2
    ·exact⟨j,h1,h2⟩
theorem bD{M:List Nat}{objs:AA}{l:Nat}:O l (MX M objs)=(O l objs).map λq=>match M with|[]=>q|m::r=>q.subst (DA (m::r)):=by cases M with|nil=>simp only[MX,Option.map_id_fun',id_eq]|cons m r=>simp only[MX,ER]
theorem Z5{R:GF}(hl:R.Law){objs:AA}{vs:List V}{ks:List Nat}{a:R.α}{b b':R.β}(hg:R.get vs objs=some (ks,a,b)){l:Nat}{o:Obj}(h:O l (F7 R ks b' objs)=some o):∃q,O l objs=some q:=by
 simp only[F7,Nx]at h;split at h;·rename_i o' hn;obtain⟨i,_,hk,_⟩:=PL hn;obtain⟨q,hq,_⟩:=(hl.get _ _ _ _ _ hg).2.2.2 i l hk;exact⟨q,hq⟩
 ·rw[bD,eL]at h;obtain⟨q,hq,_⟩:=h;exact⟨q,hq⟩
def Obj.hit(M:List Nat):Obj→Bool|.box cs|.vrow _ _ cs _=>Ft M cs|.lrec ..=>true|_=>false
def Jo(M:List Nat):AA→List Nat|[]=>[]|(k,o)::r=>match o.hit M with|true=>k::Jo M r|false=>Jo M r
theorem Zd{M:List Nat}{o:Obj}(h:o.hit M=false):o.subst (DA M)=o:=by cases o with|box cs=>simp only[Obj.hit]at h;simp only[Obj.subst,Gt h]|vrow t xs cs m=>simp only[Obj.hit]at h;simp only[Obj.subst,Gt h]|lrec=>cases h|_=>rfl
theorem Ny{M:List Nat}{l:Nat}:∀{objs:AA},l∉Jo M objs→O l (substO (DA M) objs)=O l objs
 |[],_=>rfl|(k,o)::r,h=>by
  simp only[Jo]at h;simp only[substO,Ad];split at h;·simp only[eA,fJ]at h;rw[dK (eS h.1),dK (eS h.1),Ny h.2]
  ·rename_i h0;rw[Zd h0,Ny h]
def KB(ks:List Nat):List Nat→List Nat|[]=>[]|i::r=>match ks[i]? with|some l=>l::KB ks r|none=>KB ks r
def Po(R:GF)(ks:List Nat)(objs:AA):List Nat:=KB ks R.ch++match Ea ks R.mv with|[]=>[]|l::r=>Jo (l::r) objs
theorem Tn{ks:List Nat}:∀{ch:List Nat},KB ks ch=Ea ks ch|[]=>rfl|i::r=>by simp only[KB,Ea,Tn (ch:=r)]
theorem Z4{R:GF}{ks:List Nat}{b':R.β}{objs:AA}{l:Nat}(h:l∉Po R ks objs):O l (F7 R ks b' objs)=O l objs:=by
 simp only[Po,fC,fJ]at h;obtain⟨h1,h2⟩:=h;rw[Tn]at h1;simp only[F7,Nx];split;·rename_i o hn;obtain⟨i,hi,hk,_⟩:=PL hn;exact absurd (PH.2 ⟨i,hi,hk⟩) h1
 ·revert h2;cases Ea ks R.mv with|nil=>exact λ_=>rfl|cons m r=>exact λh2=>Ny h2
theorem Qt{s s2 s3:St}(h:Fh s s2=some s3):∀l∈s2.mv,l∈s3.mv:=by obtain⟨nt,tmps,objs,nx,df,wr,di,mv⟩:=s;obtain⟨nt2,Gv,KJ,nx2,df2,wr2,di2,mv2⟩:=s2;unfold Fh at h;cases mv2 with|nil=>cases h;exact λl hl=>absurd hl (by simp)|cons l M=>
 simp only at h;split at h;·cases h;exact λk hk=>fR _ hk
 ·cases h
end
end Go.Proofs.YtldikbpclaeajaaDoor
