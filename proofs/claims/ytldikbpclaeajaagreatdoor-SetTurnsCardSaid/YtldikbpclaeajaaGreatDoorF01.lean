/- Part of a proof that a law of the program holds for every input: how abstract states follow the program. No conditions. -/
import Derived.Laws.BytesString
import Derived.MapKept
import Derived.RangeFuncIn
import Derived.RangeFuncOwn
import Derived.RangeFuncRecord
import Derived.Test.YtldikbpclaeajaaGreatDoorF00
namespace Go.Proofs.YtldikbpclaeajaaGreatDoor
open Go
set_option linter.defProp false
def yN:=@cond_false
def yR:=@cond_true
def zC:=@List.mem_singleton
def zD:=@List.mem_cons_of_mem
def zO:=@List.mem_cons
def ZAT:=@List.append_nil
def ZAa:=@List.map_append
def ZAh:=@Go.Calls.mono
def ZAj:=@List.mem_append_right
def ZAq:=@List.mem_append_left
def ZAw:=@List.map_congr_left
def ZA1:=@List.cons_append
def ZBA:=@Bool.or_eq_false_iff
def ZBB:=@Array.getElem?_append_left
def ZBV:=@Int.toNat_of_nonneg
def ZBZ:=@Array.getElem?_setIfInBounds
def ZBb:=@Nat.lt_of_not_le
def ZB9:=@Array.toList_map
def ZCD:=@Go.Oper.semAt_eq
def ZCF:=@List.getD_cons_succ
def ZCM:=@List.mem_cons_self
def ZCO:=@Nat.lt_or_gt_of_ne
def ZCa:=@List.getElem?_toArray
def ZCk:=@List.getElem?_modify
def ZCo:=@Nat.sub_zero
def ZCr:=@Array.toList_modify
def ZC4:=@Go.Oper.uponIn_enter
def ZDC:=@List.map_nil
def ZDD:=@and_true
def ZDE:=@Go.run_convert_bytes_string
def ZDF:=@List.getElem?_cons_succ
def ZDG:=@List.getElem?_cons_zero
def ZDL:=@Go.grownBy_putObj'
def ZDP:=@Go.fenced_calm
def ZDn:=@Nat.beq_refl
set_option linter.unusedSimpArgs false
set_option linter.unusedVariables false
section
variable {P : Program} {τ : Ad} {E : AH} {os objs : AF} {n : Nat}
theorem kB(hτ:A6 P τ){t ty:TypeId}{x:V}{out:Ah}(h:SZ τ os t x=some out)(hs:CG os objs)(g:AC P E objs){c:Value}(r:Z P E x c):BO P (Builtin.len_ #[t] ty #[c]) E objs out:=by
 have key:∀{e:TypeId}{a:Option Addr}{m cap:Nat}{p:Option Prop},P.underlying t=some (.slice e)→c=.slice a m cap→BO P (Builtin.len_ #[t] ty #[c]) E objs ⟨p,.d (.int .i64) (m:Int),none⟩:=by intro e a m cap p ht hc;subst hc;exact .same g (v:=.int .i64 m) (by simp[Builtin.len_,zI ht,goInt]) (.mk_int _ _)
 unfold SZ at h;split at h
 ·rename_i e sz by_ zero co BC;have ht:P.underlying t=some (.slice e):=(hτ t _ BC).kind;split at h;·cases h;obtain⟨a,cap,hc,_⟩:=Jq r;exact key ht (by simpa using hc)
  ·cases h;cases r;exact key ht rfl
  ·split at h;·rename_i T xs hcs;cases h;obtain⟨L,hL,_,hat⟩:=g.get hs hcs;obtain⟨K,hK,rfl⟩:=E8 r;rw[hL]at hK;cases hK;rw[←hat.2.2.1];exact key ht rfl
   ·cases h
  ·cases h;obtain⟨K,hK,a,rfl,_⟩:=Hw r;exact key ht rfl
  ·cases h;obtain⟨K,hK,rfl⟩:=WW r;exact key ht rfl
  ·cases h
 ·rename_i sz by_ zero co BC;have ht:P.underlying t=some .string:=(hτ t _ BC).kind;split at h;·rename_i s;cases h;rw[r.str_inv];exact .same g (v:=.int .i64 (ByteArray.size s)) (by simp[Builtin.len_,zI ht,goInt]) (.mk_int _ _)
  ·cases h
 ·rename_i m e sz by_ zero co BC;cases h;have ht:P.underlying t=some (.array m e):=(hτ t _ BC).kind.1;exact .same g (v:=.int .i64 m) (by simp[Builtin.len_,zI ht,goInt]) (.mk_int _ _)
 ·cases h
theorem uW{w:World}{size m k:Nat}{news:List Value}{c:Value}(h:DJ w size m news c)(IM:∃a m' cap,c=.slice a m' cap)(hk:k≤m):(Builtin.firstCells size k c).run P w=.ok (news.take (k*size)).toArray w:=by
 obtain⟨h1,⟨a,cap,rfl,hx⟩|⟨s,rfl,_⟩⟩:=h
 ·have hm:k*size≤m*size:=ZAQ _ hk;have :DJ w size k (news.take (k*size)) (.slice a k cap):=⟨by rw[zG,h1];omega,.inl ⟨a,cap,rfl,λhp=>by
  obtain⟨ad,h2,h3⟩:=hx (by omega);refine⟨ad,h2,λj v hj=>h3 j v ?_⟩;rw[zP]at hj;split at hj;·exact hj
  ·cases hj⟩⟩;have h4:=this.run (P:=P) (w':=w) rfl;cases a<;>simpa[Builtin.firstCells]using h4
 ·obtain⟨_,_,_,h⟩:=IM;cases h
theorem W9{td tx ty e:TypeId}{info:TypeInfo}{T:Ty}{ys:List T.den}{news:List Value}{c':Value}(ht:P.underlying td=some (.slice e))(hi:P.info? e=some info)(hsT:info.size=T.size)(hn1:Aq E.w E.S T ys news)(hn2:DJ E.w T.size ys.length news c')(IM:∃a m' cap,c'=.slice a m' cap)(g:AC P E objs){l lo k:Nat}{xs:List T.den}{L:AU}(AZ:AA l objs=some (.row T xs))(hL:E.loc l=some L)(hat:Aj P E L (.row T xs))(F0:lo+k≤xs.length){p:Option Prop}{c0:Value}(CH:L.Part lo k c0):BO P (Builtin.copy_ #[td,tx] ty #[c0,c']) E objs ⟨p,.d (.int .i64) (min ys.length k:Nat),some (l,.row T (M4 xs ys lo k),false)⟩:=by
 have FR:=hn1.length;have Hq:Nat.min ys.length k=min ys.length k:=rfl;have JR:=uW (P:=P) hn2 IM (Nat.min_le_left ys.length k);have hlen:=λw=>hn2.lenOf (P:=P) w;by_cases h0:min ys.length k=0;·
  have mX:M4 xs ys lo k=xs:=by simp only[M4,h0,ZCv,ZAT,ZA6,ZAx]
  rw[mX];have hp:=AC.put g (mv:=false) (L':=L) (o':=.row T xs) (w:=E.w) (row:=none) AZ hL ⟨rfl,rfl,rfl,zB _,λ_ _ _=>rfl⟩ (λb hb=>by cases hb) (λ_=>rfl) (by
   refine hat.keep (⟨λb hb=>⟨hb,rfl⟩,λj K _ hK=>?_⟩:Bv E (E.setL E.w l L) []) λ_=>rfl;by_cases e:j=l;·subst e;rw[hL]at hK;cases hK;exact Bi _ _ _ _
   ·rw[BZ _ _ _ e];exact hK) λhh=>.inl ⟨hh,rfl⟩;refine⟨E.setL E.w l L,.int .i64 (0:Nat),?_,hp.1,hp.2,by rw[h0];exact .mk_int _ _⟩;rw[h0]at JR;simp only[ZCP,ZCv]at JR;rw[←hsT]at JR;obtain⟨ad,rfl,_⟩:=CH;have P4:(Builtin.firstCells info.size 0 c').run P E.w=.ok #[] E.w:=by simpa using JR
  show(Builtin.copy_ #[td,tx] ty #[.slice ad k (L.cap-lo),c']).run P E.w=.ok _ E.w;simp only[Builtin.copy_,ZCa,ZDG,ZDF,ZAL,zI ht,zS,hlen,Gw hi];show((Builtin.firstCells info.size (Nat.min ys.length k) c').run P E.w).andThen _=_;rw[Hq,h0,P4];cases ad<;>simp[storeCells,goInt];all_goals(rw[show min k ys.length=0 by omega];rfl)
 ·have hk:0<k:=by omega
  obtain⟨w,BJ,g1,g2⟩:=VT (lo:=lo) (ys:=ys.take (min ys.length k)) (vs:=news.take (min ys.length k*T.size)) g AZ hL hat (by rw[zG];omega) (.inl (by rw[zG];omega)) (hn1.take _);have Iz:(ys.take (min ys.length k)).length=min ys.length k:=by rw[zG];omega
  rw[Iz]at g1 g2;refine⟨E.setL w l L,.int .i64 (min ys.length k:Nat),?_,g1,g2,.mk_int _ _⟩;rw[Qk hat F0 hk CH];rw[←hsT]at JR;simp only[Builtin.copy_,ZCa,ZDG,ZDF,ZAL,zI ht,zS,hlen,Gw hi];show((Builtin.firstCells info.size (Nat.min ys.length k) c').run P E.w).andThen _=_;rw[Hq,JR,hsT];simp only[zS];show((storeCells _ _).run P E.w).andThen _=_;rw[BJ];rfl
theorem jX(hτ:A6 P τ){td tx ty:TypeId}{d x:V}{out:Ah}(h:SU τ os td tx d x=some out)(hs:CG os objs)(ho:A0 out.ob)(g:AC P E objs){c c':Value}(rd:Z P E d c)(rx:Z P E x c'):BO P (Builtin.copy_ #[td,tx] ty #[c,c']) E objs out:=by
 unfold SU at h;split at h
 ·rename_i e sz by_ zero co BC;have ht:P.underlying td=some (.slice e):=(hτ td _ BC).kind;split at h
  ·rename_i e2 sz2 by2 zero2 co2 pI;have BH:P.underlying tx=some (.slice e2):=(hτ tx _ pI).kind;split at h
   ·rename_i k size bytes zero' T hei;have hei:=hτ e _ hei;obtain⟨hTs,Ag,Ba⟩:=hei.code T rfl;obtain⟨info,z,hi,Ae,_⟩:=hei.info;have hsT:info.size=T.size:=by rw[Ae];exact hTs.symm
    split at h
    ·rename_i ys p Dv;have src:=λhp:A0 p=>cT Dv hs hp g rx;have conj_inv:∀{q:Prop},Gl q p→A0 p∧q:=λ{q}h=>by cases p with|none=>exact⟨trivial,h⟩|some r=>exact h
     split at h
     ·split at h
      ·rename_i l t xs hcs;split at h;·rename_i hT';subst hT';cases h;obtain⟨⟨cs,IE,IF⟩,IM⟩:=src ho;obtain⟨L,hL,AZ,hat⟩:=g.get hs hcs;obtain⟨K,hK,rfl⟩:=E8 rd;rw[hL]at hK;cases hK;exact W9 (ty:=ty) ht hi hsT IE IF IM g AZ hL hat (by omega) (Ky hat)
       ·cases h
      ·cases h
     ·split at h
      ·rename_i l lo k t xs hcs;split at h;·rename_i hT';subst hT';cases h;obtain⟨hp,hle⟩:=conj_inv ho;obtain⟨⟨cs,IE,IF⟩,IM⟩:=src hp;obtain⟨L,hL,AZ,hat⟩:=g.get hs hcs;obtain⟨K,hK,EN⟩:=Hw rd;rw[hL]at hK;cases hK;exact W9 (ty:=ty) ht hi hsT IE IF IM g AZ hL hat hle EN
       ·cases h
      ·cases h
     ·cases h
    ·cases h
   ·cases h
  ·cases h
 ·cases h
end
section
variable {P : Program} {τ : Ad} {E : AH} {os objs : AF} {n : Nat}
def Ii(P:Program)(E:AH)(v:Option V)(c:Option Value):Prop:=match v,c with|none,none=>True|some v,some c=>Z P E v c|_,_=>False
def LR(m:Nat)(lo hi:Option V):Option (Option Prop×Nat×Nat):=match lo,hi with|none,none=>some (none,0,m)|none,some (.d (.int _) h)=>some (some (0≤h∧h≤(m:Int)),0,Int.toNat h)|some (.d (.int _) a),none=>some (some (0≤a∧a≤(m:Int)),Int.toNat a,m)|some (.d (.int _) a),some (.d (.int _) h)=>some (some (0≤a∧a≤h∧h≤(m:Int)),Int.toNat a,Int.toNat h)|_,_=>none
theorem Il{k:IntKind}{i:Int}{y:Nat}{code:BoundsCode}(h0:0≤i)(h1:i≤(y:Int))(w:World):(Instr.sliceBound (.int k i) y code).run P w=.ok i.toNat w:=by simp[Instr.sliceBound,asIntOf,h0,h1]
theorem PC{m cap:Nat}{lo hi:Option V}{lo' hi':Option Value}{ob:Option Prop}{l h:Nat}(hb:LR m lo hi=some (ob,l,h))(ho:A0 ob)(C6:m≤cap)(rl:Ii P E lo lo')(rh:Ii P E hi hi')(w:World):l≤h∧h≤m∧(Instr.sliceBounds true m cap lo' hi' none).run P w=.ok (l,h,cap) w:=by
 unfold LR at hb;split at hb
 ·cases hb;cases lo'<;>cases hi'<;>first|exact rl.elim|exact rh.elim|skip
  exact⟨ZAl _,zB _,by simp[Instr.sliceBounds]⟩
 ·rename_i k h0;obtain⟨h1,hh⟩:∃h1:Int,h1=h0:=⟨h0,rfl⟩;subst hh;cases hb;obtain⟨h2,h3⟩:0≤h1∧h1≤(m:Int):=ho;cases lo'<;>cases hi'<;>first|exact rl.elim|exact rh.elim|skip
  rename_i u;have :=Z.int_inv (show Z P E (.d (.int k) h1) u from rh);subst this;exact⟨ZAl _,by omega,by simp[Instr.sliceBounds,Il h2 (show h1≤(cap:Int)by omega)]⟩
 ·rename_i k a0;obtain⟨a,hh⟩:∃a:Int,a=a0:=⟨a0,rfl⟩;subst hh;cases hb;obtain⟨h2,h3⟩:0≤a∧a≤(m:Int):=ho;cases lo'<;>cases hi'<;>first|exact rl.elim|exact rh.elim|skip
  rename_i u;have :=Z.int_inv (show Z P E (.d (.int k) a) u from rl);subst this;exact⟨by omega,zB _,by simp[Instr.sliceBounds,Il h2 h3]⟩
 ·rename_i k a0 k2 h0;obtain⟨a,hh⟩:∃a:Int,a=a0:=⟨a0,rfl⟩;subst hh;obtain⟨h1,hh⟩:∃h1:Int,h1=h0:=⟨h0,rfl⟩;subst hh;cases hb;obtain⟨h2,h3,h4⟩:0≤a∧a≤h1∧h1≤(m:Int):=ho;cases lo'<;>cases hi'<;>first|exact rl.elim|exact rh.elim|skip
  rename_i u u2;have :=Z.int_inv (show Z P E (.d (.int k) a) u from rl);subst this;have :=Z.int_inv (show Z P E (.d (.int k2) h1) u2 from rh);subst this;have e2:((h1.toNat:Nat):Int)=h1:=ZBV (by omega);exact⟨by omega,by omega,by simp[Instr.sliceBounds,Il (show(0:Int)≤h1 by omega) (show h1≤(cap:Int)by omega),Il h2 (show a≤((h1.toNat:Nat):Int)by omega)]⟩
 ·cases hb
theorem Sf{mk:Nat→Nat→V}{base m:Nat}{lo hi:Option V}{out:Ah}(h:ND mk base m lo hi=some out):∃ob l k,LR m lo hi=some (ob,l,k)∧out.ob=ob∧out.ed=none∧out.v=mk (base+l) (k-l):=by
 unfold ND at h;split at h
 ·split at h;·cases h;exact⟨_,_,_,rfl,rfl,rfl,rfl⟩
  ·split at h;·cases h;exact⟨_,_,_,rfl,rfl,rfl,rfl⟩
   ·cases h
 ·split at h
  ·split at h;·cases h;exact⟨_,_,_,rfl,rfl,rfl,rfl⟩
   ·split at h;·cases h;exact⟨_,_,_,rfl,rfl,rfl,rfl⟩
    ·cases h
  ·cases h
theorem We{T:Ty}{l:List T.den}{a:Option Addr}{n cap:Nat}(h:BE E.w E.S (.sl T) l [.slice a n cap])(Ag:0<T.size)(lo hi:Nat)(h1:lo≤hi)(h2:hi≤l.length):BE E.w E.S (.sl T) ((l.take hi).drop lo) [.slice (if cap=lo then a else a.map (·.add (lo*T.size))) (hi-lo) (cap-lo)]:=by
 obtain⟨a',cap',hc,C6,hl⟩:=h;simp only[ZBg,Value.slice.injEq,ZDD]at hc;obtain⟨rfl,rfl,rfl⟩:=hc;have hlen:((l.take hi).drop lo).length=hi-lo:=by simp;omega
 refine⟨_,_,by rw[hlen],by rw[hlen];omega,λAb=>?_⟩;have AY:lo<hi:=by
  rcases ZAn lo hi with h|h;·exact h
  ·exact absurd (zR (by rw[hlen];omega)) Ab
 obtain⟨b,off,rfl,hS,hx⟩:=hl λe=>by rw[e]at h2;simp at h2;omega
 refine⟨b,off+lo*T.size,?_,hS,λi x hi'=>?_⟩;·rw[yP (by omega)];simp[ZAi]
 ·rw[ZAs,zP]at hi';split at hi';·obtain⟨cs,h3,h4⟩:=hx (lo+i) x hi';refine⟨cs,h3,λj u hj=>?_⟩;rw[show off+lo*T.size+i*T.size+j=off+(lo+i)*T.size+j from by rw[ZBQ];omega];exact h4 j u hj
  ·cases hi'
theorem Mf{t e:TypeId}{ei:TI}{a:Option Addr}{m cap l h c:Nat}{lo' hi' mx':Option Value}(ht:P.underlying t=some (.slice e))(hei:ei.Ok P e)(w:World)(hb:(Instr.sliceBounds true m cap lo' hi' mx').run P w=.ok (l,h,c) w):(Instr.sliceAt t (.slice a m cap) lo' hi' mx').run P w=.ok (.slice (if c=l then a else a.map (·.add (l*ei.size))) (h-l) (c-l)) w:=by obtain⟨info,z,P9,hs,_⟩:=hei.info;simp[Instr.sliceAt,zI ht,Instr.slice,hb,Gw P9,hs]
theorem rN{m cap:Nat}{lo hi mx:Option V}{lo' hi' mx':Option Value}{ob p:Option Prop}{l h:Nat}(hb:LR m lo hi=some (ob,l,h))(Ab:∃q,mx=some q)(hm:OI mx m=some p)(ho:A0 ob)(hp:A0 p)(C6:m≤cap)(rl:Ii P E lo lo')(rh:Ii P E hi hi')(rm:Ii P E mx mx')(w:World)(KY:∃q,hi=some q):∃c,(Instr.sliceBounds true m cap lo' hi' mx').run P w=.ok (l,h,c) w:=by
 obtain⟨q,rfl⟩:=Ab;unfold OI at hm;split at hm;·cases‹some q=none›
 ·rename_i k x0 hq;obtain⟨x,hh⟩:∃x:Int,x=x0:=⟨x0,rfl⟩;subst hh;cases hq;cases hm;have hx:x=(m:Int):=hp;cases mx' with|none=>exact rm.elim|some u=>
  have :=Z.int_inv (show Z P E (.d (.int k) x) u from rm);subst this;have CU:(Instr.sliceBound (.int k x) cap .slice3Acap).run P w=.ok m w:=by rw[Il (by omega) (by omega),hx];rfl
  unfold LR at hb;split at hb;·obtain⟨_,h⟩:=KY;cases h
  ·rename_i k2 h0;obtain⟨h1,hh⟩:∃h1:Int,h1=h0:=⟨h0,rfl⟩;subst hh;cases hb;obtain⟨h2,h3⟩:0≤h1∧h1≤(m:Int):=ho;cases lo'<;>cases hi'<;>first|exact rl.elim|exact rh.elim|skip
   rename_i u2;have :=Z.int_inv (show Z P E (.d (.int k2) h1) u2 from rh);subst this;exact⟨m,by simp[Instr.sliceBounds,CU,Il h2 h3]⟩
  ·obtain⟨_,h⟩:=KY;cases h
  ·rename_i k1 a0 k2 h0;obtain⟨a,hh⟩:∃a:Int,a=a0:=⟨a0,rfl⟩;subst hh;obtain⟨h1,hh⟩:∃h1:Int,h1=h0:=⟨h0,rfl⟩;subst hh;cases hb;obtain⟨h2,h3,h4⟩:0≤a∧a≤h1∧h1≤(m:Int):=ho;cases lo'<;>cases hi'<;>first|exact rl.elim|exact rh.elim|skip
   rename_i u1 u2;have :=Z.int_inv (show Z P E (.d (.int k1) a) u1 from rl);subst this;have :=Z.int_inv (show Z P E (.d (.int k2) h1) u2 from rh);subst this;have e2:((h1.toNat:Nat):Int)=h1:=ZBV (by omega);exact⟨m,by simp[Instr.sliceBounds,CU,Il (show(0:Int)≤h1 by omega) h4,Il h2 (show a≤((h1.toNat:Nat):Int)by omega)]⟩
  ·cases hb
 ·cases hm
theorem VR{L:AU}{T:Ty}{xs:List T.den}(h:Aj P E L (.row T xs)):xs.length≤L.cap:=by
 obtain⟨_,_,_,_,_,_,⟨h1,rfl⟩|⟨cur,_,_,h3,_⟩⟩:=h;·simp
 ·exact h3
theorem kI(hτ:A6 P τ){t:TypeId}{x:V}{lo hi mx:Option V}{out:Ah}(h:Sh τ os t x lo hi mx=some out)(hs:CG os objs)(ho:A0 out.ob)(g:AC P E objs){c:Value}{lo' hi' mx':Option Value}(rx:Z P E x c)(rl:Ii P E lo lo')(rh:Ii P E hi hi')(rm:Ii P E mx mx'):BO P (Instr.sliceAt t c lo' hi' mx') E objs out:=by
 unfold Sh at h;split at h
 ·rename_i e sz by_ zero co BC;have ht:P.underlying t=some (.slice e):=(hτ t _ BC).kind;split at h
  ·rename_i ei hei;have hei:=hτ e _ hei;split at h
   ·rename_i T l;split at h
    ·rename_i Ae;simp only[zN,Nat.blt_eq]at Ae;obtain⟨Ae,Ag⟩:=Ae;have Ae:=yW Ae;have hc:=Jq rx;obtain⟨a,cap,hc',C6,_⟩:=id hc;have hc'':c=.slice a (List.length (α:=T.den) l) cap:=by simpa using hc'
     subst hc'';split at h;·cases mx' with|some _=>exact rm.elim|none=>
      have key:∀{ob:Option Prop}{lo1 hi1:Nat},LR (List.length (α:=T.den) l) lo hi=some (ob,lo1,hi1)→A0 ob→BO P (Instr.sliceAt t (.slice a (List.length (α:=T.den) l) cap) lo' hi' none) E objs ⟨ob,.d (.sl T) ((List.take (α:=T.den) hi1 l).drop lo1),none⟩:=by intro ob lo1 hi1 hb ho;obtain⟨h1,h2,h3⟩:=PC hb ho C6.1 rl rh E.w;have hp:=We hc Ag lo1 hi1 h1 h2;rw[Ae]at hp;exact .same g (Mf ht hei E.w h3) (.d hp)
      split at h
      ·split at h;·cases h;have :=key rfl trivial;simpa using this
       ·split at h;·cases h;have :=key rfl ho;simpa using this
        ·cases h
      ·split at h
       ·split at h;·cases h;have :=key rfl ho;rw[zA]at this;exact this
        ·split at h;·cases h;exact key rfl ho
         ·cases h
       ·cases h
     ·split at h
      ·rename_i m hz;cases h;unfold eP at hz;split at hz
       ·split at hz
        ·split at hz;·rename_i k1 _ k2 De;cases De;cases lo' with|some _=>exact rl.elim|none=>cases hi' with|none=>exact rh.elim|some u=>cases mx' with|none=>exact rm.elim|some u2=>have :=Z.int_inv (show Z P E (.d (.int k1) (0:Int)) u from rh);subst this;have :=Z.int_inv (show Z P E (.d (.int k2) (0:Int)) u2 from rm);subst this;have IC:∀(k:IntKind)(y:Nat)code,(Instr.sliceBound (.int k 0) y code).run P E.w=.ok 0 E.w:=λk y code=>Il (by omega) (by omega) E.w;exact .same g (Mf ht hei E.w (l:=0) (h:=0) (c:=0) (by simp[Instr.sliceBounds,IC])) (.nils _)
         ·cases hz
        ·cases hz
       ·cases hz
      ·cases h
    ·cases h
   ·rename_i l;split at h
    ·rename_i T xs hcs;split at h
     ·rename_i Ae;have Ae:=yW Ae;obtain⟨L,hL,_,hat⟩:=g.get hs hcs;obtain⟨K,hK,rfl⟩:=E8 rx;rw[hL]at hK;cases hK;have C6:=VR hat;split at h
      ·rename_i m hm;split at h
       ·rename_i ob v ed hp;obtain⟨ob',l1,k1,hb,h1,h2,h3⟩:=Sf hp;simp only at h1 h2 h3;subst h1 h2 h3;split at h
        ·cases h;have De:mx=none:=by
          unfold OI at hm;split at hm;·rfl
          ·cases hm
          ·cases hm
         subst De;cases mx' with|some _=>exact rm.elim|none=>obtain⟨h4,h5,h6⟩:=PC (cap:=L.cap) hb ho C6 rl rh E.w;rw[AU.v,hat.2.2.1];refine .same g (Mf ht hei E.w h6) ?_;rw[ZAJ];refine .osp hL ⟨_,rfl,λAb=>?_⟩;rw[yP Ab,hat.1,Ae]
        ·rename_i m';split at h
         ·rename_i hi0;cases h;have TV:∀{q:Prop}{p:Option Prop},Gl q p→A0 p∧q:=λ{q p}h=>by cases p with|none=>exact⟨trivial,h⟩|some r=>exact h
          obtain⟨ho1,ho2⟩:=TV ho;have De:∃q,mx=some q:=by
           unfold OI at hm;split at hm;·cases hm
           ·exact⟨_,rfl⟩
           ·cases hm
          obtain⟨c,h6⟩:=rN (cap:=L.cap) hb De hm ho1 ho2 C6 rl rh rm E.w ⟨_,rfl⟩;rw[AU.v,hat.2.2.1];exact .same g (Mf ht hei E.w h6) (.any _)
         ·cases h
       ·cases h
      ·cases h
     ·cases h
    ·cases h
   ·rename_i l base m;split at h
    ·rename_i T xs hcs;split at h
     ·rename_i Ae;have Ae:=yW Ae;obtain⟨L,hL,_,hat⟩:=g.get hs hcs;obtain⟨K,hK,a,rfl,ha⟩:=Hw rx;rw[hL]at hK;cases hK;have C6:=VR hat;split at h;·cases mx' with|some _=>exact rm.elim|none=>
       split at h
       ·rename_i ob v ed hp;obtain⟨ob',l1,k1,hb,h1,h2,h3⟩:=Sf hp;simp only at h1 h2 h3;subst h1 h2 h3;cases h;have TV:∀{q:Prop}{p:Option Prop},Gl q p→A0 p∧q:=λ{q p}h=>by cases p with|none=>exact⟨trivial,h⟩|some r=>exact h
        obtain⟨ho1,ho2⟩:=TV ho;have hle:aV m (xs.length-base) hi≤xs.length-base:=by cases hi with|none=>show m≤_;omega|some _=>exact zB _
        obtain⟨h4,h5,h6⟩:=PC (cap:=L.cap-base) hb ho1 (by omega) rl rh E.w;replace h6:(Instr.sliceBounds true m (L.cap-base) lo' hi' none).run P E.w=.ok (l1,k1,L.cap-base) E.w:=by cases hi with|none=>exact h6|some q=>cases hi' with|none=>exact rh.elim|some u=>exact h6
        refine .same g (Mf ht hei E.w h6) (.osp hL ⟨_,by rw[Nat.sub_sub],λAb=>?_⟩);rw[yP (by omega),ha (by omega),←Ae,←hat.1];obtain⟨C7,Ag,hlen,e',cs,h9,BX⟩:=hat;rcases BX with⟨Db,rfl⟩|⟨cur,Cv,_⟩;·simp at ho2;omega
        ·simp[Cv,ZAi,ZBQ]
       ·cases h
      ·cases h
     ·cases h
    ·cases h
   ·split at h;·cases mx' with|some _=>exact rm.elim|none=>
     split at h;·rename_i o hp;cases h;obtain⟨ob',l1,k1,hb,h1,h2,h3⟩:=Sf hp;cases rx with|nils a=>
      obtain⟨h4,h5,h6⟩:=PC (cap:=0) hb (h1▸ho) (zB 0) rl rh E.w;have II:l1=0:=by omega
      have hk1:k1=0:=by omega
      subst II hk1;exact .same' g h2 (Mf ht hei E.w h6) (by rw[h3];exact .nils _)
     ·cases h
    ·cases h
   ·cases h
  ·cases h
 ·cases h
end
section
variable {P : Program} {τ : Ad} {E : AH} {os objs : AF} {n : Nat}
def Jp(w:World)(b:Nat)(o:Go.Obj):World:={w with heap:=w.heap.setIfInBounds b o}
theorem X3{w:World}{b clock:Nat}{es:Array MapEntry}(hb:w.heap[b]?=some (.map es clock)):(getObj b).run P w=.ok (.map es clock) w:=by simp[getObj,Sem.run,hb]
theorem uG{w:World}{b clock:Nat}{es:Array MapEntry}(hb:w.heap[b]?=some (.map es clock))(o:Go.Obj):(setObj b o).run P w=.ok () (Jp w b o):=by simp only[setObj,Sem.run,hb,Jp]
section
variable {κ : Type} [DecidableEq κ] {f : κ → Value} {d : TypeDesc} {kt : TypeId}
theorem Xh(hs:∀a b,Instr.sameNow d (f a) (f b)=some (decide (a=b)))(a:κ):∀(l:List MapEntry)(i:Nat),(∀e∈l,∃k,e.key=f k)→(∃j e,l[j]?=some e∧e.key=f a∧Instr.findNow d (f a) l i=some (some (i+j,e.val)))∨(∀e∈l,∀k,e.key=f k→k≠a)∧Instr.findNow d (f a) l i=some none
 |[],i,_=>.inr ⟨λe he=>by simp at he,rfl⟩|e::l,i,h=>by
  obtain⟨k,hk⟩:=h e (by simp);by_cases Hm:a=k;·subst Hm;exact .inl ⟨0,e,rfl,hk,by simp[Instr.findNow,hk,hs]⟩
  ·rcases Xh hs a l (i+1) λe he=>h e (by simp[he])with⟨j,e',h1,h2,h3⟩|⟨h1,h2⟩;·exact .inl ⟨j+1,e',by simpa using h1,h2,by simp[Instr.findNow,hk,hs,Hm,h3];omega⟩
   ·refine .inr ⟨λx hx k' hk'=>?_,by simp[Instr.findNow,hk,hs,Hm,h2]⟩;rcases List.mem_cons.1 hx with rfl|hx
    ·intro e';subst e';have :Instr.sameNow d (f k') (f k)=some true:=by rw[←hk,hk',hs];simp
     rw[hs]at this;simp at this;exact Hm this
    ·exact h1 x hx k' hk'
theorem Xg(hd:P.underlying kt=some d)(hs:∀a b,Instr.sameNow d (f a) (f b)=some (decide (a=b)))(a:κ)(l:List MapEntry)(h:∀e∈l,∃k,e.key=f k):(∃j e,l[j]?=some e∧e.key=f a∧∀w,(Instr.findKey kt (f a) l).run P w=.ok (some (j,e.val)) w)∨(∀e∈l,∀k,e.key=f k→k≠a)∧∀w,(Instr.findKey kt (f a) l).run P w=.ok none w:=by
 rcases Xh hs a l 0 h with⟨j,e,h1,h2,h3⟩|⟨h1,h2⟩;·exact .inl ⟨j,e,h1,h2,λw=>by simp[Instr.findKey,zI hd,h3]⟩
 ·exact .inr ⟨h1,λw=>by simp[Instr.findKey,zI hd,h2]⟩
theorem UM(hs:∀a b,Instr.sameNow d (f a) (f b)=some (decide (a=b))){a b:κ}(h:f a=f b):a=b:=by have h1:=hs a b;rw[h,hs b b]at h1;simp at h1;exact h1
theorem Zf{t e:TypeId}{T:Ty}{m:κ→Option T.den}{es:Array MapEntry}{w:World}{clock b:Nat}{z:Value}(ht:P.underlying t=some (.map kt e))(hd:P.underlying kt=some d)(hs:∀a b,Instr.sameNow d (f a) (f b)=some (decide (a=b)))(NY:∀a w b n,(Instr.checkKey b (n+1) kt (f a)).run P w=.ok () w)(hz:(zeroValue e).run P w=.ok z w)(hz1:BE w E.S T T.dflt [z])(hb:w.heap[b]?=some (.map es clock))(h:I1 f w E.S T m es)(a:κ):∃v,BE w E.S T ((m a).getD T.dflt) [v]∧∀ok,(Instr.lookup t (.map (some b)) (f a) ok).run P w=.ok (if ok then .tuple #[v,.bool (m a).isSome]else v) w:=by
 obtain⟨h1,h2,h3⟩:=h;have NZ:∀b,(Instr.checkKey b 10000 kt (f a)).run P w=.ok () w:=λb=>NY a w b 9999;have hg:=X3 (P:=P) hb;rcases Xg (P:=P) hd hs a es.toList λe he=>let⟨k,_,hk,_⟩:=h1 e he;⟨k,hk⟩with⟨j,e0,h4,h5,h6⟩|⟨h4,h5⟩;·obtain⟨k,x,h7,h8,h9⟩:=h1 e0 (ZBI h4);have hk:=UM hs (h5.symm.trans h7);subst hk;refine⟨e0.val,by rw[h8];exact h9,λok=>?_⟩;cases ok<;>simp[Instr.lookup,zI ht,hg,NZ,h6,h8]
 ·have hn:m a=none:=by cases hm:m a with|none=>rfl|some x=>obtain⟨e0,nF,hk⟩:=h2 a x hm;exact absurd rfl (h4 e0 nF a hk)
  refine⟨z,by rw[hn];exact hz1,λok=>?_⟩;cases ok<;>simp[Instr.lookup,zI ht,hg,NZ,h5,hz,hn]
theorem Zg{t e:TypeId}{T:Ty}{m:κ→Option T.den}{es:Array MapEntry}{w:World}{clock b:Nat}{v:Value}{x:T.den}(ht:P.underlying t=some (.map kt e))(hd:P.underlying kt=some d)(hs:∀a b,Instr.sameNow d (f a) (f b)=some (decide (a=b)))(NY:∀a w b n,(Instr.checkKey b (n+1) kt (f a)).run P w=.ok () w)(mO:∀a,Instr.sameBits 10000 (f a) (f a)=true)(hv:BE w E.S T x [v])(hb:w.heap[b]?=some (.map es clock))(h:I1 f w E.S T m es)(a:κ):∃es' clock',(Instr.mapUpdate t (.map (some b)) (f a) v).run P w=.ok () (Jp w b (.map es' clock'))∧I1 f w E.S T (CA m a x) es':=by
 obtain⟨h1,h2,h3⟩:=h;have NZ:(Instr.checkKey false 10000 kt (f a)).run P w=.ok () w:=NY a w false 9999;have hg:=X3 (P:=P) hb;have Kk:=uG (P:=P) hb;rcases Xg (P:=P) hd hs a es.toList λe he=>let⟨k,_,hk,_⟩:=h1 e he;⟨k,hk⟩with⟨j,e0,h4,h5,h6⟩|⟨h4,h5⟩
 ·have hj:es[j]?=some e0:=by simpa using h4
  have Gt:j<es.toList.length:=(List.getElem?_eq_some_iff.1 h4).1;refine⟨es.modify j λe=>{e with key:=f a,val:=v},clock,?_,λe1 Dt=>?_,λk y hk=>?_,?_⟩;·simp[Instr.mapUpdate,zI ht,hg,NZ,h6,hj,Instr.keyThatStays,h5,mO,Kk]
  ·simp only[ZCr]at Dt;obtain⟨i,hi⟩:=List.mem_iff_getElem?.1 Dt;rw[ZCk]at hi;by_cases hij:j=i;·subst hij;simp[hj]at hi;subst hi;exact⟨a,x,rfl,by simp[CA],hv⟩
   ·have hi2:es.toList[i]?=some e1:=by simpa[hij]using hi
    clear hi;obtain⟨k,y,h7,h8,h9⟩:=h1 e1 (ZBI hi2);refine⟨k,y,h7,?_,h9⟩;unfold CA;rw[yP ?_];·exact h8
    ·intro hk;subst hk;have DL:i<es.toList.length:=(List.getElem?_eq_some_iff.1 hi2).1;have hk1:(es.toList.map λe=>e.key)[j]?=some (f k):=by rw[ZAI,h4];simp[h5]
     have hk2:(es.toList.map λe=>e.key)[i]?=some (f k):=by rw[ZAI,hi2];simp[h7]
     obtain⟨FP,hj2⟩:=List.getElem?_eq_some_iff.1 hk1;obtain⟨Yl,hi4⟩:=List.getElem?_eq_some_iff.1 hk2;rcases ZCO hij with AY|Tj;·exact List.pairwise_iff_getElem.1 h3 j i FP Yl AY (hj2.trans hi4.symm)
     ·exact List.pairwise_iff_getElem.1 h3 i j Yl FP Tj (hi4.trans hj2.symm)
  ·unfold CA at hk;by_cases Hm:k=a;·subst Hm;exact⟨{e0 with key:=f k,val:=v},ZBI (i:=j) (by simp[hj]),rfl⟩
   ·rw[yP Hm]at hk;obtain⟨e1,Dt,hk1⟩:=h2 k y hk;obtain⟨i,hi⟩:=List.mem_iff_getElem?.1 Dt;refine⟨e1,ZBI (i:=i) ?_,hk1⟩;simp only[ZCr,ZCk];by_cases hij:j=i;·subst hij;rw[h4]at hi;cases hi;exact absurd (UM hs (hk1.symm.trans h5)) Hm
    ·simp[hij];simpa using hi
  ·have :(es.modify j λe=>{e with key:=f a,val:=v}).toList.map (λe=>e.key)=es.toList.map λe=>e.key:=by
    apply ZAZ;intro i;simp only[ZCr,ZAI,ZCk];by_cases hij:j=i;·subst hij;simp[hj,h5]
    ·simp[hij]
   rw[this];exact h3
 ·refine⟨es.push {key:=f a,val:=v,born:=clock},clock+1,?_,λe1 Dt=>?_,λk y hk=>?_,?_⟩;·simp[Instr.mapUpdate,zI ht,hg,NZ,h5,Kk]
  ·simp only[Array.toList_push,zM,zC]at Dt;rcases Dt with Dt|rfl;·obtain⟨k,y,h7,h8,h9⟩:=h1 e1 Dt;refine⟨k,y,h7,?_,h9⟩;unfold CA;rw[yP (h4 e1 Dt k h7)];exact h8
   ·exact⟨a,x,rfl,by simp[CA],hv⟩
  ·unfold CA at hk;by_cases Hm:k=a;·subst Hm;exact⟨{key:=f k,val:=v,born:=clock},by simp,rfl⟩
   ·rw[yP Hm]at hk;obtain⟨e1,Dt,hk1⟩:=h2 k y hk;exact⟨e1,by simp[Array.mem_toList_iff.1 Dt],hk1⟩
  ·simp only[Array.toList_push,ZAa,ZAK,ZDC];rw[List.nodup_append];refine⟨h3,by simp,λu hu v' hv'=>?_⟩;simp only[zC]at hv';subst hv';obtain⟨e1,Dt,rfl⟩:=List.mem_map.1 hu;obtain⟨k,y,h7,_⟩:=h1 e1 Dt;intro he;exact h4 e1 Dt k h7 (UM hs (h7.symm.trans he))
end
theorem bG(g:AC P E objs)(hf:E.loc n=none){κ:Type}{f:κ→Value}{T:Ty}(o:Obj)(AZ:∀(E':AH)(L:AU),(∃es clock,E'.w.heap[L.b]?=some (.map es clock)∧I1 f E'.w E'.S T (λ_=>none) es)→Aj P E' L o):∃E',E'.w=E.w.alloc (.map #[] 0)∧AC P E' ((n,o)::objs)∧BF E objs E' ((n,o)::objs) []∧Z P E' (.map n) (.map (some E.w.heap.size)):=by have hw:=ZAe E.w (.map #[] 0) none;let L:AU:={b:=E.w.heap.size};have h:=AC.push g (L:=L) (o:=o) hf hw (AZ _ _ ⟨#[],0,ZA7 _ _,λe he=>by simp at he,λk x hk=>by simp at hk,by simp⟩) λ_=>zB _;exact⟨_,rfl,h.1,h.2,.map (Bi _ _ _ _)⟩
theorem kE(hτ:A6 P τ){t:TypeId}{out:Ah}(h:Sc τ n t=some out)(g:AC P E objs)(hf:E.loc n=none):BO P (Instr.makeMap t none) E objs out:=by
 unfold Sc at h;split at h
 ·split at h
  ·rename_i T _;split at h
   ·split at h;·cases h;obtain⟨E',hw,h1,h2,h3⟩:=bG g hf (f:=Value.string) (T:=T) (.smap T λ_=>none) λE' L h=>h;exact⟨E',_,by rw[hw];simp[Instr.makeMap],h1,h2,h3⟩
    ·cases h;obtain⟨E',hw,h1,h2,h3⟩:=bG g hf (f:=Value.int .i64) (T:=T) (.imap T λ_=>none) λE' L h=>h;exact⟨E',_,by rw[hw];simp[Instr.makeMap],h1,h2,h3⟩
    ·cases h
   ·cases h
  ·cases h
 ·cases h
theorem eR{e:TypeId}{ei:TI}{T:Ty}(hei:ei.Ok P e)(hT:ei.code=some T)(h1:T.size=1)(hz:∃ie ze,P.info? e=some ie∧ie.zero=some ze∧ze.oneCell'=true):∃z,(∀w,(zeroValue e).run P w=.ok z w)∧∀w S,BE w S T T.dflt [z]:=by obtain⟨ie,ze,hi,hz1,FU⟩:=hz;obtain⟨info,z,P9,hs,hb,ZN,B3,Cy⟩:=hei.info;rw[hi]at P9;cases P9;rw[hz1]at ZN;cases ZN;refine⟨ze,λw=>Jy hi hz1 w,λw S=>?_⟩;have :=(hei.code T hT).2.2 w S;rw[←B3,Rw FU]at this;exact this
theorem WR(a b:ByteArray):(a==b)=decide (a=b):=by
 obtain⟨a⟩:=a;obtain⟨b⟩:=b;show(a==b)=_;by_cases h:a=b;·subst h;simp
 ·have h2:¬ByteArray.mk a=ByteArray.mk b:=λe=>h (by cases e;rfl);simp[h]
theorem cA:∀a b:ByteArray,Instr.sameNow .string (.string a) (.string b)=some (decide (a=b)):=λa b=>by simp only[Instr.sameNow,WR]
theorem bZ(q:IntKind):∀a b:Int,Instr.sameNow (.int q) (.int .i64 a) (.int .i64 b)=some (decide (a=b)):=λa b=>by
 by_cases h:a=b;·subst h;simp[Instr.sameNow]
 ·simp[Instr.sameNow,h]
theorem Xw{T:Ty}{x:Option T.den}{ok:Bool}{v:Value}(h:BE E.w E.S T (x.getD T.dflt) [v]):Z P E (S3 ok T x) (if ok then .tuple #[v,.bool x.isSome]else v):=by cases ok with|false=>exact .d h|true=>refine .tup rfl λj hj=>?_;match j,hj with|0,_=>exact .d h|1,_=>exact .mk_bool _
theorem kD(hτ:A6 P τ){t:TypeId}{m k:V}{ok:Bool}{out:Ah}(h:Sb τ os t m k ok=some out)(hs:CG os objs)(g:AC P E objs){c d:Value}(rm:Z P E m c)(rk:Z P E k d):BO P (Instr.lookup t c d ok) E objs out:=by
 unfold Sb at h;split at h
 ·rename_i kt e _ _ _ _ BC;obtain⟨ht,hz⟩:=(hτ t _ BC).kind;split at h
  ·rename_i l;obtain⟨K,hK,rfl⟩:=Z4 rm;split at h
   ·rename_i k0 sz by_ zero T h2;split at h
    ·rename_i h1;have Hn:P.underlying kt=some .string:=(hτ kt _ h1).kind;split at h
     ·rename_i T' f h3;split at h
      ·rename_i s;split at h
       ·rename_i hT;subst hT;split at h;·rename_i Ae;cases h;obtain⟨L,hL,_,es,clock,hb,hm⟩:=g.get hs h3;rw[hL]at hK;cases hK;rw[rk.str_inv];obtain⟨z,hz1,FU⟩:=eR (hτ e _ h2) rfl (yW Ae) hz;obtain⟨v,Cv,Cl⟩:=Zf (P:=P) ht Hn cA λa w b n=>by simp[Instr.checkKey,zI Hn] (hz1 E.w) (FU _ _) hb hm s;exact .same g (Cl ok) (Xw Cv)
        ·cases h
       ·cases h
      ·cases h
     ·cases h
    ·rename_i h1;have Hn:P.underlying kt=some (.int .i64):=(hτ kt _ h1).kind;split at h
     ·rename_i T' f h3;split at h
      ·rename_i s;split at h
       ·rename_i hT;subst hT;split at h;·rename_i Ae;cases h;obtain⟨L,hL,_,es,clock,hb,hm⟩:=g.get hs h3;rw[hL]at hK;cases hK;rw[rk.int_inv];obtain⟨z,hz1,FU⟩:=eR (hτ e _ h2) rfl (yW Ae) hz;obtain⟨v,Cv,Cl⟩:=Zf (P:=P) ht Hn (bZ _) λa w b n=>by simp[Instr.checkKey,zI Hn] (hz1 E.w) (FU _ _) hb hm s;exact .same g (Cl ok) (Xw Cv)
        ·cases h
       ·cases h
      ·cases h
     ·cases h
    ·cases h
   ·cases h
  ·cases h
 ·cases h
theorem bI(g:AC P E objs){l:Nat}{L:AU}{o o':Obj}{es':Array MapEntry}{clock':Nat}(hl:AA l objs=some o)(hL:E.loc l=some L)(hh:o.has L)(ho:∀E':AH,E'.w.heap[L.b]?=some (.map es' clock')→Bv E E' []→Aj P E' L o'):∃E',E'.w=Jp E.w L.b (.map es' clock')∧AC P E' ((l,o')::objs)∧BF E objs E' ((l,o')::objs) []:=by have AY:=g.own_lt ⟨l,o,L,hl,hL,hh,rfl⟩;have hgr:E.w.grownBy (Jp E.w L.b (.map es' clock')) (some L.b):=⟨rfl,rfl,rfl,by simp[Jp],λk _ hk=>by simp only[Jp];rw[Array.getElem?_setIfInBounds_ne λe=>hk (by rw[e])]⟩;have B2:∀b,some L.b=some b→o.has L∧b=L.b:=λb e=>⟨hh,by cases e;rfl⟩;have hx:=K4 g (M:=[]) (L':=L) hl hL hgr B2 λ_=>rfl;have h:=AC.put g (mv:=false) (o':=o') hl hL hgr B2 (λ_=>rfl) (ho _ (by simp[AH.setL,Jp,AY]) hx) λ_=>.inl ⟨hh,rfl⟩;exact⟨_,rfl,h.1,h.2⟩
theorem kG(hτ:A6 P τ){t:TypeId}{m k x:V}{out:Ah}(h:Se τ os t m k x=some out)(hs:CG os objs)(g:AC P E objs){c d v:Value}(rm:Z P E m c)(rk:Z P E k d)(rx:Z P E x v):WC P (Instr.mapUpdate t c d v) E objs out∧out.v=.tup []:=by
 unfold Se at h;split at h
 ·rename_i kt e _ _ _ _ BC;obtain⟨ht,hz⟩:=(hτ t _ BC).kind;split at h
  ·rename_i l;obtain⟨K,hK,rfl⟩:=Z4 rm;split at h
   ·rename_i h1;have Hn:P.underlying kt=some .string:=(hτ kt _ h1).kind;split at h
    ·rename_i T f h3;split at h
     ·rename_i s;split at h;·rename_i y hy;cases h;have hc:=GY hy (AS.cons rx .nil);obtain⟨L,hL,AZ,es,clock,hb,hm⟩:=g.get hs h3;rw[hL]at hK;cases hK;rw[rk.str_inv];obtain⟨es',clock',h4,h5⟩:=Zg (P:=P) ht Hn cA λa w b n=>by simp[Instr.checkKey,zI Hn] λa=>by simp[Instr.sameBits,WR] hc hb hm s;obtain⟨E',hw,g',st⟩:=bI g (o':=.smap T (CA f s y)) AZ hL trivial λE' hb' hx=>⟨es',clock',hb',h5.mono hx.S⟩;exact⟨⟨E',by rw[hw];exact h4,g',st⟩,rfl⟩
      ·cases h
     ·cases h
    ·cases h
   ·rename_i h1;have Hn:P.underlying kt=some (.int .i64):=(hτ kt _ h1).kind;split at h
    ·rename_i T f h3;split at h
     ·rename_i s;split at h;·rename_i y hy;cases h;have hc:=GY hy (AS.cons rx .nil);obtain⟨L,hL,AZ,es,clock,hb,hm⟩:=g.get hs h3;rw[hL]at hK;cases hK;rw[rk.int_inv];obtain⟨es',clock',h4,h5⟩:=Zg (P:=P) ht Hn (bZ _) λa w b n=>by simp[Instr.checkKey,zI Hn] λa=>by simp[Instr.sameBits] hc hb hm s;obtain⟨E',hw,g',st⟩:=bI g (o':=.imap T (CA f s y)) AZ hL trivial λE' hb' hx=>⟨es',clock',hb',h5.mono hx.S⟩;exact⟨⟨E',by rw[hw];exact h4,g',st⟩,rfl⟩
      ·cases h
     ·cases h
    ·cases h
   ·cases h
  ·cases h
 ·cases h
theorem lA(l:List Int):∀s:ByteArray,l.foldl (λr n=>r.push (UInt8.ofNat n.toNat)) s=⟨s.data++(l.map λn=>UInt8.ofNat n.toNat).toArray⟩:=by induction l with|nil=>intro s;simp|cons n l ih=>intro s;rw[ZAg,ih];simp[ByteArray.push]
theorem Wg{w:World}{S:Nat→Prop}:∀{l:List Int}{cs:List Value},Aq w S (.int .u8) l cs→cs=l.map (Value.int .u8)|[],_,h=>h|n::l,_,⟨c1,c2,h,h1,h2⟩=>by rw[h,show c1=[.int .u8 n]from h1,Wg h2];rfl
theorem jW(hτ:A6 P τ){a b:TypeId}{x:V}{out:Ah}(h:SR τ os a b x=some out)(hs:CG os objs)(ho:A0 out.ob)(g:AC P E objs){c:Value}(rx:Z P E x c):BO P (convert a b c) E objs out:=by
 unfold SR at h;split at h
 ·rename_i k1 _ _ _ _ h1;have ha:P.underlying a=some (.int k1):=(hτ a _ h1).kind;split at h
  ·rename_i k2 _ _ _ _ h2;have hb:P.underlying b=some (.int k2):=(hτ b _ h2).kind;split at h;·cases h;rw[rx.int_inv];obtain⟨c,rfl,hc⟩:=Ow (P:=P) ho;exact .same' g (RI _ _) (by simp[convert,zI ha,zI hb,Conv.intToInt]) (hc E)
   ·cases h
  ·cases h
 ·rename_i e _ _ _ _ h1;have ha:P.underlying a=some (.slice e):=(hτ a _ h1).kind;split at h
  ·rename_i h2;have hb:P.underlying b=some .string:=(hτ b _ h2).kind;split at h
   ·rename_i h3;have he:P.underlying e=some (.int .u8):=(hτ e _ h3).kind;split at h
    ·rename_i l;split at h
     ·rename_i xs hcs;cases h;obtain⟨L,hL,_,hat⟩:=g.get hs hcs;obtain⟨K,hK,rfl⟩:=E8 rx;rw[hL]at hK;cases hK;obtain⟨cs,IE,hl,pE⟩:=bX hat;rcases pE with⟨ad,cap,hv,hx⟩|⟨s,hv,_⟩;·rw[hv];have Na:=Wg IE;have hrun:=ZDE (P:=P) E.w a b e ad (List.length (α:=Int) xs) cap ha he hb;cases ad with
       |none=>
        have h0:xs=[]:=by cases xs with|nil=>rfl|cons x xs=>obtain⟨ad,h,_⟩:=hx (by simp);cases h
        subst h0;exact .same g (v:=.string ByteArray.empty) (by have :=hrun;simp only[zF]at this⊢;rw[this];simp[Conv.bytesToString]) (.mk_str _)|some ad=>
        have nX:(loadCells ad (List.length (α:=Int) xs)).run P E.w=.ok (List.map (Value.int .u8) xs).toArray E.w:=by
         have :=run_loadCells_list (P:=P) E.w ad (List.map (Value.int .u8) xs) λj v hj=>by
          have Ag:0<List.length (α:=Int) xs:=by have :=(List.getElem?_eq_some_iff.1 hj).1;rw[zL]at this;omega
          obtain⟨ad',h,hx'⟩:=hx Ag;cases h;exact hx' j v (by rw[Na];exact hj)
         rw[zL]at this;exact this
        refine .same g (v:=.string (B6 xs)) ?_ (.mk_str _);refine hrun.trans ?_;rw[run_bytesToString E.w ad (List.length (α:=Int) xs) cap xs nX,lA];simp[B6,ByteArray.empty,ByteArray.emptyWithCapacity];rfl
      ·cases hv
     ·cases h
    ·cases h;cases rx with|nils a'=>have hrun:=ZDE (P:=P) E.w a b e a' 0 0 ha he hb;exact .same g (v:=.string ByteArray.empty) (by rw[hrun];cases a'<;>simp[Conv.bytesToString,loadCells,loadCellsFrom]) (.mk_str _)
    ·cases h
   ·cases h
  ·cases h
 ·cases h
theorem jV(hτ:A6 P τ){t ty:TypeId}{x:V}{out:Ah}(h:SQ τ os t x=some out)(hs:CG os objs)(ho:A0 out.ob)(g:AC P E objs){c:Value}(rx:Z P E x c):BO P (Builtin.clear_ #[t] ty #[c]) E objs out:=by
 unfold SQ at h;split at h
 ·rename_i e sz by_ zero co BC;have ht:P.underlying t=some (.slice e):=(hτ t _ BC).kind;split at h
  ·rename_i l lo m;split at h
   ·rename_i k2 sz2 by2 zero2 T he;have hei:=hτ e _ he;obtain⟨hTs,Ag,G7⟩:=hei.code _ rfl;obtain⟨info,z,hi,Ae,hb,hz,B3,Cy⟩:=hei.info;have hTs:T.size=sz2:=hTs;have Ag:0<T.size:=by rw[hTs];exact Ag
    have B3:z.cells.toList=zero2:=B3;have Cy:z.cells.size=sz2:=Cy;split at h
    ·rename_i t' xs hcs;split at h
     ·rename_i hT;subst hT;cases h;have hle:lo+m≤xs.length:=ho;obtain⟨L,hL,AZ,hat⟩:=g.get hs hcs;obtain⟨K,hK,EN⟩:=Hw rx;rw[hL]at hK;cases hK;by_cases hm:m=0
      ·subst hm;have I0:xs.take lo++List.replicate 0 t'.dflt++xs.drop (lo+0)=xs:=by simp
       rw[I0];have hp:=AC.put g (mv:=false) (L':=L) (o':=.row t' xs) (w:=E.w) (row:=none) AZ hL ⟨rfl,rfl,rfl,zB _,λ_ _ _=>rfl⟩ (λb hb=>by cases hb) (λ_=>rfl) (by
        refine hat.keep (⟨λb hb=>⟨hb,rfl⟩,λj K _ hK=>?_⟩:Bv E (E.setL E.w l L) []) λ_=>rfl;by_cases e:j=l;·subst e;rw[hL]at hK;cases hK;exact Bi _ _ _ _
        ·rw[BZ _ _ _ e];exact hK) λhh=>.inl ⟨hh,rfl⟩;obtain⟨a,rfl,_⟩:=EN;refine⟨E.setL E.w l L,.tuple #[],?_,hp.1,hp.2,.tup rfl λj hj=>by simp at hj⟩;show _=Result.ok _ E.w;cases a<;>simp[Builtin.clear_,zI ht]
      ·have qB:(Builtin.zeroCells z.cells m).toList=(List.replicate m zero2).flatten:=by
        have Ba:0<z.cells.size:=by rw[Cy,←hTs];exact Ag
        have :=Uc (z:=z.cells) (n:=m) (c:=m) Ba (zB _);rw[B3]at this;rw[←this];show _=((Builtin.zeroCells z.cells m).toList).take _;rw[ZA3 (by simp[ZBE])]
       obtain⟨w,BJ,g1,g2⟩:=VT (ys:=List.replicate m t'.dflt) (lo:=lo) g AZ hL hat (by simpa using hle) (by simp;omega) (MZ (G7 E.w E.S) m);rw[ZAD]at g1 g2;refine⟨E.setL w l L,.tuple #[],?_,g1,g2,.tup rfl λj hj=>by simp at hj⟩;rw[Qk hat hle (by omega) EN];cases m with|zero=>exact absurd rfl hm|succ m=>simp[Builtin.clear_,zI ht,Jy hi hz,qB,BJ];rfl
     ·cases h
    ·cases h
   ·cases h
  ·cases h
 ·cases h
end
section
variable {P : Program} {τ : Ad} {E : AH} {os objs : AF} {n : Nat}
def J3(P:Program)(o:Oper)(ρ:Operand→Value)(E:AH)(objs:AF)(out:Ah):Prop:=∃E' n v,(execOp ρ o).run P E.w=.ok n E'.w∧(n=.value v∨n=.skip∧v=undef)∧AC P E' (edit objs out.ed)∧BF E objs E' (edit objs out.ed) (moved out.ed)∧Z P E' out.v v
theorem BO.ran{o:Oper}{ρ:Operand→Value}{out:Ah}{s:Sem Value}(h:BO P s E objs out)(he:execOp ρ o=do let v←s;pure (Next.value v)):J3 P o ρ E objs out:=by obtain⟨E',v,h1,h2,h3,h4⟩:=h;exact⟨E',.value v,v,by rw[he];simp[h1],.inl rfl,h2,h3,h4⟩
theorem Jg{tmps:List (Nat×V)}{ρ:Operand→Value}:∀{xs:List Operand},(∀x∈xs,Z P E (Af tmps x) (ρ x))→AS P E (BY tmps xs) (xs.map ρ)|[],_=>.nil|x::xs,h=>.cons (h x (by simp)) (Jg λy hy=>h y (by simp[hy]))
theorem Ud{tmps:List (Nat×V)}:∀{xs:List (Nat×Operand)},(I2 tmps xs).map (·.1)=xs.map (·.1)|[]=>rfl|(i,x)::xs=>by simp only[I2,ZAK,Ud]
theorem Ue{tmps:List (Nat×V)}:∀{xs:List (Nat×Operand)}(j:Nat),(I2 tmps xs)[j]?=(xs[j]?).map λp=>(p.1,Af tmps p.2)|[],j=>by simp[I2]|(i,x)::xs,0=>by simp[I2]|(i,x)::xs,j+1=>by simpa[I2]using Ue j
theorem Uf{tmps:List (Nat×V)}{xs:List Operand}{v:V}(h:BY tmps xs=[v]):∃x,xs=[x]∧Af tmps x=v:=by match xs,h with|[x],h=>exact⟨x,rfl,by simpa[BY]using h⟩|[],h=>simp[BY]at h|_::_::_,h=>simp[BY]at h
theorem OH{tmps:List (Nat×V)}{xs:List Operand}{u v:V}(h:BY tmps xs=[u,v]):∃x y,xs=[x,y]∧Af tmps x=u∧Af tmps y=v:=by match xs,h with|[x,y],h=>exact⟨x,y,rfl,by simpa[BY]using h⟩|[],h=>simp[BY]at h|[_],h=>simp[BY]at h|_::_::_::_,h=>simp[BY]at h
set_option maxHeartbeats 1000000 in
theorem kL(hτ:A6 P τ){o:Oper}{tmps:List (Nat×V)}{out:Ah}(h:NA τ o.op tmps os n=some out)(hs:CG os objs)(ho:A0 out.ob)(g:AC P E objs)(hf:E.loc n=none){ρ:Operand→Value}(hρ:∀x∈o.op.operands,Z P E (Af tmps x) (ρ x))(hc:∀v,ρ (.const v)=v):J3 P o ρ E objs out:=by
 obtain⟨dst,op,type,pos,after,guard⟩:=o;cases op<;>simp only[NA]at h<;>try(cases h;done)
 case move x=>cases h;exact(BO.same g (s:=pure (ρ x)) (by simp) (hρ x (by simp[Op.operands]))).ran rfl
 case assign x=>cases h;exact(BO.same g (s:=pure (ρ x)) (by simp) (hρ x (by simp[Op.operands]))).ran rfl
 case pick c a b=>
  have :=kH (P:=P) h ho g (hρ c (by simp[Op.operands])) (hρ a (by simp[Op.operands])) (hρ b (by simp[Op.operands])) (λv e=>by subst e;exact hc _) λv e=>by subst e;exact hc _
  exact this.ran (by simp[execOp])
 case alloc t=>exact(jO hτ h g hf).ran rfl
 case box t x=>exact(jS h g hf (hρ x (by simp[Op.operands]))).ran rfl
 case build t parts=>refine(jU (vals:=parts.map λ(i,x)=>(i,ρ x)) hτ h g (by rw[Ud];simp) λj p q hp hq=>?_).ran rfl;rw[Ue,ZAA]at hp;simp only[ZB9,ZAI,ZAA]at hq;obtain⟨x,hx1,rfl⟩:=hp;obtain⟨y,JY,rfl⟩:=hq;rw[hx1]at JY;cases JY;exact hρ _ (by simp only[Op.operands];exact List.mem_toArray.2 (List.mem_map.2 ⟨x,ZBI hx1,rfl⟩))
 case buildSlice t m parts=>refine(jT (vals:=parts.map λ(i,x)=>(i,ρ x)) hτ h g hf (by rw[Ud];simp) λj p q hp hq=>?_).ran rfl;rw[Ue,ZAA]at hp;simp only[ZB9,ZAI,ZAA]at hq;obtain⟨x,hx1,rfl⟩:=hp;obtain⟨y,JY,rfl⟩:=hq;rw[hx1]at JY;cases JY;exact hρ _ (by simp only[Op.operands];exact List.mem_toArray.2 (List.mem_map.2 ⟨x,ZBI hx1,rfl⟩))
 case load t a=>exact(kC hτ h hs ho g (hρ a (by simp[Op.operands]))).ran rfl
 case store t a x=>obtain⟨⟨E',h1,h2,h3⟩,hv⟩:=kJ hτ h hs ho g (hρ a (by simp[Op.operands])) (hρ x (by simp[Op.operands]));exact⟨E',.skip,undef,by simp[execOp,h1],.inr ⟨rfl,rfl⟩,h2,h3,by rw[hv];exact .tup rfl λj hj=>by simp at hj⟩
 case nilCheck x=>
  have r:=hρ x (by simp[Op.operands]);split at h;·rename_i l o e;cases h;rw[e]at r;obtain⟨L,hL,hq⟩:=MY r;exact(BO.same g (s:=pure (ρ x)) (by simp) r).ran (by simp[execOp,hq])
  ·rename_i cs e;cases h;rw[e]at r;obtain⟨b,off,vals,hq,_⟩:=NF r;exact(BO.same g (s:=pure (ρ x)) (by simp) r).ran (by simp[execOp,hq])
  ·rename_i b cs e;cases h;rw[e]at r;cases r with|opt h1 h2=>have r':=h1 ho;obtain⟨b,off,vals,hq,_⟩:=NF r';exact(BO.same g (s:=pure (ρ x)) (by simp) r').ran (by simp[execOp,hq])
  ·rename_i f a b e;cases h;rw[e]at r;cases hq:ρ x with|func fn fs cs=>rw[hq]at r;have r2:=r;cases r2;exact(BO.same g (s:=pure (.func (.func f) fs cs)) (by simp) r).ran (by simp[execOp,hq])|_=>rw[hq]at r;cases r
  ·cases h
 case binOp op xt x y yt=>exact(jR (ox:=x) (oy:=y) hτ h ho g (hρ x (by simp[Op.operands])) (hρ y (by simp[Op.operands]))).ran rfl
 case unOp op xt x=>exact(kK h ho g (hρ x (by simp[Op.operands]))).ran rfl
 case convert a b x=>exact(jW hτ h hs ho g (hρ x (by simp[Op.operands]))).ran rfl
 case makeFunc f a b=>
  cases h;have h1:AS P E (BY tmps a.toList) (a.toList.map ρ):=Jg λx hx=>hρ x (by simp[Op.operands,Array.mem_toList_iff.1 hx]);have h2:AS P E (BY tmps b.toList) (b.toList.map ρ):=Jg λx hx=>hρ x (by simp[Op.operands,Array.mem_toList_iff.1 hx]);refine(BO.same g (s:=Instr.makeFunc f (a.map ρ) (b.map ρ)) (v:=.func f (a.map ρ) (b.map ρ)) (by simp[Instr.makeFunc]) (.fn (by simpa using h1.1) (by simpa using h2.1) (λj hj=>?_) λj hj=>?_)).ran rfl;·have :=h1.2 j hj;simpa[zH,yT]using this
  ·have :=h2.2 j hj;simpa[zH,yT]using this
 case makeSlice t l c=>exact(kF hτ h ho g hf (hρ l (by simp[Op.operands])) (hρ c (by simp[Op.operands]))).ran rfl
 case slice t x lo hi mx=>
  have T3:∀y:Option Operand,(∀z,y=some z→Z P E (Af tmps z) (ρ z))→Ii P E (Qf tmps y) (y.map ρ):=by intro y hy;cases y with|none=>trivial|some z=>exact hy z rfl
  exact(kI (lo':=lo.map ρ) (hi':=hi.map ρ) (mx':=mx.map ρ) hτ h hs ho g (hρ x (by simp[Op.operands])) (T3 lo λz e=>hρ z (by subst e;simp[Op.operands])) (T3 hi λz e=>hρ z (by subst e;simp[Op.operands])) (T3 mx λz e=>hρ z (by subst e;simp[Op.operands]))).ran rfl
 case fieldAddr t x f=>exact(jY hτ h g (hρ x (by simp[Op.operands]))).ran rfl
 case indexAddr t x i=>exact(jZ hτ h hs ho g (hρ x (by simp[Op.operands])) (hρ i (by simp[Op.operands]))).ran rfl
 case index t x i=>exact(XQ hτ h g (hρ x (by simp[Op.operands])) (hρ i (by simp[Op.operands]))).ran rfl
 case makeMap t r=>cases r with|some _=>cases h|none=>exact(kE hτ h g hf).ran (by simp[execOp])
 case lookup t m k ok=>exact(kD hτ h hs g (hρ m (by simp[Op.operands])) (hρ k (by simp[Op.operands]))).ran rfl
 case mapUpdate t m k x=>obtain⟨⟨E',h1,h2,h3⟩,hv⟩:=kG hτ h hs g (hρ m (by simp[Op.operands])) (hρ k (by simp[Op.operands])) (hρ x (by simp[Op.operands]));exact⟨E',.skip,undef,by simp[execOp,h1],.inr ⟨rfl,rfl⟩,h2,h3,by rw[hv];exact .tup rfl λj hj=>by simp at hj⟩
 case extract x i=>
  have r:=hρ x (by simp[Op.operands]);split at h
  ·rename_i vs e;split at h;·rename_i v hv;cases h;rw[e]at r;cases hq:ρ x with
    |tuple us=>rw[hq]at r;cases r with|tup h1 h2=>
     have hi:i<vs.length:=(List.getElem?_eq_some_iff.1 hv).1;have :=h2 i hi;rw[yT,hv]at this;have hu:us[i]?=some (us.getD i undef):=by rw[zH,ZAN (by omega)];rfl
     exact(BO.same g (s:=Instr.extract (ρ x) i) (v:=us.getD i undef) (by rw[hq];simp only[Instr.extract,hu];rfl) this).ran rfl
    |_=>rw[hq]at r;cases r
   ·cases h
  ·cases h
 case call c=>
  obtain⟨callee,args,argTypes⟩:=c;cases callee<;>simp only at h<;>try(cases h;done)
  rename_i b;have hargs:∀x∈args.toList,Z P E (Af tmps x) (ρ x):=λx hx=>hρ x (by simp[Op.operands,Call.operands,Array.mem_toList_iff.1 hx]);obtain⟨al⟩:=args;obtain⟨tl⟩:=argTypes;unfold SP at h;cases b<;>simp only at h<;>try(cases h;done)
  case len=>
   split at h
   ·split at h;·rename_i t _ x e2;obtain⟨y,rfl,rfl⟩:=Uf e2;exact(kB (ty:=type) hτ h hs g (hargs y (by simp))).ran (by simp[execOp,resolve,invoke,builtin])
    ·cases h
   ·cases h
  case append=>
   split at h
   ·split at h;·rename_i t u _ x y e2;obtain⟨a,b,rfl,rfl,rfl⟩:=OH e2;exact(jQ (ty:=type) hτ h hs ho g hf (hargs a (by simp)) (hargs b (by simp))).ran (by simp[execOp,resolve,invoke,builtin])
    ·cases h
   ·cases h
  case copy=>
   split at h
   ·split at h;·rename_i t u _ x y e2;obtain⟨a,b,rfl,rfl,rfl⟩:=OH e2;exact(jX (ty:=type) hτ h hs ho g (hargs a (by simp)) (hargs b (by simp))).ran (by simp[execOp,resolve,invoke,builtin])
    ·cases h
   ·cases h
  case min=>
   split at h;·rename_i x y e2;obtain⟨a,b,rfl,rfl,rfl⟩:=OH e2;exact(XS (mx:=false) h g (hargs a (by simp)) (hargs b (by simp)) ⟨_⟩ type).ran (by simp[execOp,resolve,invoke,builtin];rfl)
   ·cases h
  case max=>
   split at h;·rename_i x y e2;obtain⟨a,b,rfl,rfl,rfl⟩:=OH e2;exact(XS (mx:=true) h g (hargs a (by simp)) (hargs b (by simp)) ⟨_⟩ type).ran (by simp[execOp,resolve,invoke,builtin];rfl)
   ·cases h
  case clear=>
   split at h
   ·split at h;·rename_i t _ x e2;obtain⟨y,rfl,rfl⟩:=Uf e2;exact(jV (ty:=type) hτ h hs ho g (hargs y (by simp))).ran (by simp[execOp,resolve,invoke,builtin])
    ·cases h
   ·cases h
  case cap=>
   split at h
   ·split at h
    ·rename_i t _ e2;obtain⟨y,rfl,hy⟩:=Uf e2;split at h;·rename_i e _ _ _ _ BC;have ht:P.underlying t=some (.slice e):=(hτ t _ BC).kind;cases h;have r:=hargs y (by simp);rw[hy]at r;cases hq:ρ y with
      |slice a n c=>rw[hq]at r;cases r with|nils=>exact(BO.same g (s:=Builtin.cap_ #[t] type #[.slice a 0 0]) (v:=.int .i64 0) (by simp[Builtin.cap_,zI ht,goInt]) (.mk_int _ _)).ran (by simp[execOp,resolve,invoke,builtin,hq])
      |_=>rw[hq]at r;cases r
     ·cases h
    ·cases h
   ·cases h
end
section
def fz(r:Option Nat):Fence:={Fence.wide with round:=r}
theorem Pn{P:Program}{r:Option Nat}{n:Nat}{f:FuncId}{args:Array Value}{w:World}{R:Ending→World→Prop}(h:Calls P f args w R):CallsIn (fz r) n P f args w R:=(callsIn_wide (n:=n)).2 h
inductive Df where|mark(l:Nat)|fn(g:FuncId)(cs:List V)
structure St where
 nt:Nat
 tmps:List (Nat×V)
 objs:AF
 nx:Nat
 df:List Df
 wr:List Nat
 di:List Nat
 mv:List Nat
structure Cx where
 E:AH
 imp:AF
def DU(P:Program)(E:AH):List Df→List Deferred→Prop|[],ds=>ds=[]|.mark l::r,ds=>∃L rest,ds=⟨.collected L,#[]⟩::rest∧(∃K,E.loc l=some K∧K.b=L)∧DU P E r rest|.fn g cs::r,ds=>∃q rest,ds=⟨.fn (.func g) q,#[]⟩::rest∧AS P E cs q.toList∧DU P E r rest
structure A5(P:Program)(cx:Cx)(s:St)(a:Act)(E:AH):Prop where
 good:AC P E s.objs
 fresh:∀l,s.nx≤l→E.loc l=none
 step:BF cx.E cx.imp E s.objs s.mv
 drawn:cx.E.w.drawn≤E.w.drawn
 size:a.tmps.size=s.nt
 df:DU P E s.df a.defers
 rep:∀t,Z P E (AW t s.tmps) (a.tmps.getD t undef)
def Av(P:Program)(cx:Cx)(s:St)(a:Act)(w:World):Prop:=∃E,E.w=w∧A5 P cx s a E
def Wk(P:Program)(cx:Cx)(s s':St):Prop:=∀a w,Av P cx s a w→Av P cx s' a w
theorem Wk.refl{P:Program}{cx:Cx}(s:St):Wk P cx s s:=λ_ _ h=>h
theorem Wk.trans{P:Program}{cx:Cx}{s s' s'':St}(h:Wk P cx s s')(k:Wk P cx s' s''):Wk P cx s s'':=λa w r=>k a w (h a w r)
abbrev DV:=Exit→Act→World→Prop
section rules
variable {P : Program} {r : Option Nat} {cx : Cx} {R : DV} {s : St} {a : Act} {w : World}
theorem gP{c:Code}(h:c.wpIn (fz r) 0 P (λe a w=>match e with|.goto _=>False|e=>R e a w) a w):(Code.scope c).wpIn (fz r) 0 P R a w:=by
 intro b k cs JV hb hr;obtain⟨e,a₁,w₁,hq,Fw⟩:=h b (.inScope c::k) cs JV hb hr;have s1:StepsIn (Machine.fenced P (fz r)) P (lone (b.atR a (.code (.scope c)::k)) cs w) (lone (b.atR a (.code c::.inScope c::k)) cs w):=.one (ZDP hb hr rfl) (step_lone_go (by simp[stepG,stepG.exec,Frame.atR]));have s2:∀a w,StepsIn (Machine.fenced P (fz r)) P (lone (b.atR a (.inScope c::k)) cs w) (lone (b.atR a k) cs w):=λa w=>.one (ZDP (fr:=b.atR a (.inScope c::k)) hb hr rfl) (step_lone_go (by simp[stepG,stepG.exec,Frame.atR]));have hx:∀id,exitTo id (.inScope c::k)=exitTo id k:=λid=>by simp[exitTo]
 cases e with|normal=>exact⟨.normal,a₁,w₁,hq,s1.trans (StepsIn.trans Fw (s2 _ _))⟩|exit id=>exact⟨.exit id,a₁,w₁,hq,λk' hk=>s1.trans (Fw.1 k' (by rw[hx];exact hk)),λh1 h2=>let⟨k₁,h3,h4⟩:=Fw.2 h1 (by rw[hx];exact h2);⟨k₁,h3,s1.trans h4⟩⟩|goto l=>exact hq.elim|ret=>exact⟨_,a₁,w₁,hq,.of_steps s1 Fw⟩|panic ch=>exact⟨_,a₁,w₁,hq,.of_steps s1 Fw⟩|outgrown=>exact⟨_,a₁,w₁,hq,.of_steps s1 Fw⟩
def H3(F:Fence)(P:Program)(c:Code)(R:DV)(a:Act)(w:World):Prop:=∀(b:Frame)(k:List Item)(cs:List Frame),b.roundOf=F.round→F.fn b.fn→F.room (cs.length+1+0)→∃e a' w',R e a' w'∧ArrivesIn (Machine.fenced P F) P (lone (b.atR a (.code c::.inLoop c::k)) cs w) b k cs e a' w'
theorem H3.loop{F:Fence}{c:Code}(h:H3 F P c R a w):(Code.loop c).wpIn F 0 P R a w:=by intro b k cs JV hb hr;obtain⟨e,a',w',hq,Fw⟩:=h b k cs JV hb hr;exact⟨e,a',w',hq,.of_steps (.one (ZDP hb hr rfl) stepR_loop) Fw⟩
theorem H3.round{F:Fence}{c:Code}(h:c.wpIn F 0 P (Exit.then (H3 F P c R) R) a w):H3 F P c R a w:=by intro b k cs JV hb hr;obtain⟨e,a₁,w₁,hq,Fw⟩:=h b (.inLoop c::k) cs JV hb hr;cases e with|normal=>obtain⟨e₂,a₂,w₂,hq₂,harr₂⟩:=hq b k cs JV hb hr;exact⟨e₂,a₂,w₂,hq₂,.of_steps (StepsIn.trans Fw (.one (ZDP hb hr rfl) stepR_inLoop)) harr₂⟩|exit id=>exact⟨_,a₁,w₁,hq,.pass (x:=.inLoop c) rfl (λ_ _=>.inl (by simp)) Fw⟩|goto l=>exact⟨_,a₁,w₁,hq,.pass (x:=.inLoop c) rfl (λ_ _=>.inl (by simp)) Fw⟩|ret=>exact⟨_,a₁,w₁,hq,.pass (x:=.inLoop c) rfl (λ_ _=>.inl (by simp)) Fw⟩|panic ch=>exact⟨_,a₁,w₁,hq,.pass (x:=.inLoop c) rfl (λ_ _=>.inl (by simp)) Fw⟩|outgrown=>exact⟨_,a₁,w₁,hq,.pass (x:=.inLoop c) rfl (λ_ _=>.inl (by simp)) Fw⟩
theorem In{E:AH}{tmps:List (Nat×V)}(h:∀t,Z P E (AW t tmps) (a.tmps.getD t undef))(x:Operand):Z P E (Af tmps x) (a.eval x):=by cases x with|tmp t=>exact h t|const v=>exact RG v|global g=>exact .any _|func f=>exact .fn rfl rfl (λj hj=>by simp at hj) λj hj=>by simp at hj
end rules
mutual
def V.has(l:Nat):V→Bool|.fn _ a b=>IA l a||IA l b|.agg cs=>IA l cs|.tup cs=>IA l cs|.er cs=>IA l cs|.when _ v=>V.has l v|.opt _ v=>V.has l v|.ref k _=>Nat.beq k l|.rref k _ _=>Nat.beq k l|.osl k=>Nat.beq k l|.osp k _ _=>Nat.beq k l|.map k=>Nat.beq k l|.yl k=>Nat.beq k l|.bsl k _=>Nat.beq k l|_=>false
def IA(l:Nat):List V→Bool|[]=>false|v::r=>V.has l v||IA l r
end
mutual
theorem Oi{l:Nat}{f:V→V}(hf:∀v,v.isRef=true→v.has l=false→f v=v):∀{v:V},v.has l=false→v.subst f=v|.fn g a b,h=>by simp only[V.has,ZBA]at h;simp only[V.subst,I7 hf h.1,I7 hf h.2]|.agg cs,h=>by simp only[V.has]at h;simp only[V.subst,I7 hf h]|.tup cs,h=>by simp only[V.has]at h;simp only[V.subst,I7 hf h]|.er cs,h=>by simp only[V.has]at h;simp only[V.subst,I7 hf h]|.when b v,h=>by simp only[V.has]at h;simp only[V.subst,Oi hf h]|.opt b v,h=>by simp only[V.has]at h;simp only[V.subst,Oi hf h]|.ref k o,h=>hf _ rfl h|.rref k i o,h=>hf _ rfl h|.osl k,h=>hf _ rfl h|.osp k lo n,h=>hf _ rfl h|.map k,h=>hf _ rfl h|.yl k,h=>hf _ rfl h|.bsl k n,h=>hf _ rfl h|.any,_=>rfl|.d _ _,_=>rfl|.nilp,_=>rfl|.nilf,_=>rfl|.nils,_=>rfl|.nilm,_=>rfl|.pf _ _ _ _,_=>rfl
theorem I7{l:Nat}{f:V→V}(hf:∀v,v.isRef=true→v.has l=false→f v=v):∀{cs:List V},IA l cs=false→C4 f cs=cs|[],_=>rfl|v::r,h=>by simp only[IA,ZBA]at h;simp only[C4,Oi hf h.1,I7 hf h.2]
end
theorem qT{l:Nat}(v:V)(hr:v.isRef=true)(h:v.has l=false):Ca l v=v:=by cases v<;>simp only[V.isRef,zY]at hr<;>simp only[V.has]at h<;>simp only[Ca,V.key,h]
def Iq(l:Nat):List (Nat×V)→List Nat|[]=>[]|(t,v)::r=>match v.has l with|true=>t::Iq l r|false=>Iq l r
def Obj.hasR(l:Nat):Obj→Bool
 |.box cs|.vrow _ _ cs _=>IA l cs|.lrec _ tmps _ _ _ _ _=>match Iq l tmps with|[]=>false|_=>true
 |_=>false
def NU(l:Nat):AF→List Nat|[]=>[]|(k,o)::r=>match o.hasR l with|true=>k::NU l r|false=>NU l r
def Df.subst(f:V→V):Df→Df|.mark l=>.mark l|.fn g cs=>.fn g (C4 f cs)
def Ic(f:V→V):List Df→List Df|[]=>[]|d::r=>d.subst f::Ic f r
def Lo(l:Nat):List Df→Bool|[]=>false|.mark _::r=>Lo l r|.fn _ cs::r=>IA l cs||Lo l r
def EV(f:V→V):List (Nat×V)→List (Nat×V)|[]=>[]|(t,v)::r=>(t,v.subst f)::EV f r
theorem Jt(f:V→V):∀l,EV f l=l.map λp=>(p.1,p.2.subst f)|[]=>rfl|(t,v)::r=>by simp only[EV,Jt f r,ZAK]
def St.subst(l:Nat)(f:V→V):St→St|⟨nt,tmps,objs,nx,df,wr,di,mv⟩=>⟨nt,EV f tmps,substO f objs,nx,Ic f df,match Lo l df with|true=>nt::(Iq l tmps++wr)|false=>Iq l tmps++wr,NU l objs++di,mv⟩
def H5(l nx:Nat):Nat:=match Nat.beq l nx with|true=>nx+1|false=>nx
def St.edit(s:St):Option (Nat×Obj×Bool)→St
 |none=>s|some (l,o,false)=>match s with|⟨nt,tmps,objs,nx,df,wr,di,mv⟩=>⟨nt,tmps,(l,o)::objs,H5 l nx,df,wr,l::di,mv⟩
 |some (l,o,true)=>match s.subst l (Ca l)with|⟨nt,tmps,objs,nx,df,wr,di,mv⟩=>⟨nt,tmps,(l,o)::objs,H5 l nx,df,wr,l::di,l::mv⟩
def St.setT(s:St)(dst:Option Nat)(v:V):Option St:=match dst with|none=>some s|some d=>match Nat.blt d s.nt with
 |true=>match s with|⟨nt,tmps,objs,nx,df,wr,di,mv⟩=>some ⟨nt,(d,v)::tmps,objs,nx,df,d::wr,di,mv⟩
 |false=>none
structure AR(s s':St):Prop where
 nt:s'.nt=s.nt
 nx:s.nx≤s'.nx
 wr:∀t∈s.wr,t∈s'.wr
 di:∀l∈s.di,l∈s'.di
 mv:∀l∈s.mv,l∈s'.mv
 tmp:∀t,t∉s'.wr→AW t s'.tmps=AW t s.tmps
 obj:∀l,l∉s'.di→AA l s'.objs=AA l s.objs
 df:s.nt∉s'.wr→s'.df=s.df
theorem AR.refl(s:St):AR s s:=⟨rfl,zB _,λ_ h=>h,λ_ h=>h,λ_ h=>h,λ_ _=>rfl,λ_ _=>rfl,λ_=>rfl⟩
theorem AR.trans{s s' s'':St}(h:AR s s')(k:AR s' s''):AR s s'':=⟨k.nt.trans h.nt,zV h.nx k.nx,λt ht=>k.wr t (h.wr t ht),λt ht=>k.di t (h.di t ht),λt ht=>k.mv t (h.mv t ht),λt ht=>(k.tmp t ht).trans (h.tmp t λhm=>ht (k.wr t hm)),λl hl=>(k.obj l hl).trans (h.obj l λhm=>hl (k.di l hm)),λhn=>(k.df (h.nt▸hn)).trans (h.df λhm=>hn (k.wr _ hm))⟩
theorem Ub{f:V→V}{l:Nat}(hf:∀v,v.isRef=true→v.has l=false→f v=v){t:Nat}:∀{tmps:List (Nat×V)},t∉Iq l tmps→AW t (EV f tmps)=AW t tmps|[],_=>rfl|(u,v)::r,h=>by simp only[Iq]at h;rw[EV,CC,CC];cases hv:v.has l with|true=>rw[hv]at h;simp only[zO,ZAX]at h;rw[yP (ZAM h.1),yP (ZAM h.1)];exact Ub hf h.2|false=>
 rw[hv]at h;rw[Oi hf hv];split;·rfl
 ·exact Ub hf h
theorem cY{f:V→V}{l:Nat}(hf:∀v,v.isRef=true→v.has l=false→f v=v):∀{tmps:List (Nat×V)},Iq l tmps=[]→EV f tmps=tmps|[],_=>rfl|(u,v)::r,h=>by simp only[Iq]at h;cases hv:v.has l with|true=>rw[hv]at h;simp at h|false=>rw[hv]at h;simp only[EV,Oi hf hv,cY hf h]
theorem sD{f:V→V}{l:Nat}(hf:∀v,v.isRef=true→v.has l=false→f v=v){o:Obj}(h:o.hasR l=false):o.subst f=o:=by cases o with
 |box cs=>simp only[Obj.hasR]at h;simp only[Obj.subst,I7 hf h]|vrow t xs cs m=>simp only[Obj.hasR]at h;simp only[Obj.subst,I7 hf h]|lrec nt tmps ps a b st j=>
  simp only[Obj.hasR]at h;split at h;·rename_i h1;simp only[Obj.subst];rw[←Jt,cY hf h1]
  ·cases h|_=>rfl
theorem TB{f:V→V}{l:Nat}(hf:∀v,v.isRef=true→v.has l=false→f v=v){k:Nat}:∀{objs:AF},k∉NU l objs→AA k (substO f objs)=AA k objs|[],_=>rfl|(u,o)::r,h=>by simp only[NU]at h;rw[substO,Ay,Ay];cases hv:o.hasR l with|true=>rw[hv]at h;simp only[zO,ZAX]at h;rw[yP (ZAM h.1),yP (ZAM h.1)];exact TB hf h.2|false=>
 rw[hv]at h;rw[sD hf hv];split;·rfl
 ·exact TB hf h
theorem Vf{f:V→V}{l:Nat}(hf:∀v,v.isRef=true→v.has l=false→f v=v):∀{df:List Df},Lo l df=false→Ic f df=df|[],_=>rfl|.mark _::r,h=>by simp only[Lo]at h;simp only[Ic,Df.subst,Vf hf h]|.fn g cs::r,h=>by simp only[Lo,ZBA]at h;simp only[Ic,Df.subst,I7 hf h.1,Vf hf h.2]
theorem AR.subst{s:St}{l:Nat}{f:V→V}(hf:∀v,v.isRef=true→v.has l=false→f v=v):AR s (s.subst l f):=by
 obtain⟨nt,tmps,objs,nx,df,wr,di,mv⟩:=s;simp only[St.subst];refine⟨rfl,zB _,λt ht=>?_,λt ht=>ZAj _ ht,λ_ h=>h,λt ht=>Ub hf λhm=>ht ?_,λk hk=>TB hf λhm=>hk (ZAq _ hm),λhn=>?_⟩
 ·dsimp only;split;·exact zD _ (ZAj _ ht)
  ·exact ZAj _ ht
 ·dsimp only;split;·exact zD _ (ZAq _ hm)
  ·exact ZAq _ hm
 ·dsimp only at hn⊢;split at hn;·simp at hn
  ·rename_i h;exact Vf hf h
theorem Zp(l nx:Nat):nx≤H5 l nx:=by unfold H5;split<;>omega
theorem AR.edit(s:St)(ed:Option (Nat×Obj×Bool)):AR s (s.edit ed):=by match ed with|none=>exact .refl s|some (l,o,false)=>obtain⟨nt,tmps,objs,nx,df,wr,di,mv⟩:=s;exact⟨rfl,Zp _ _,λ_ h=>h,λ_ h=>zD _ h,λ_ h=>h,λ_ _=>rfl,λk hk=>by simp only[St.edit,zO,ZAX]at hk;simp only[St.edit];rw[Ay,yP (ZAM hk.1)],λ_=>rfl⟩|some (l,o,true)=>have h:=AR.subst (s:=s) (l:=l) (f:=Ca l) qT;have e:s.edit (some (l,o,true))=match s.subst l (Ca l)with|⟨nt,tmps,objs,nx,df,wr,di,mv⟩=>⟨nt,tmps,(l,o)::objs,H5 l nx,df,wr,l::di,l::mv⟩:=rfl;rw[e];generalize s.subst l (Ca l)=s1 at h;refine h.trans ?_;obtain⟨nt,tmps,objs,nx,df,wr,di,mv⟩:=s1;exact⟨rfl,Zp _ _,λ_ h=>h,λ_ h=>zD _ h,λ_ h=>zD _ h,λ_ _=>rfl,λk hk=>by simp only[zO,ZAX]at hk;simp only;rw[Ay,yP (ZAM hk.1)],λ_=>rfl⟩
theorem AR.setT{s s':St}{dst:Option Nat}{v:V}(h:s.setT dst v=some s'):AR s s':=by
 unfold St.setT at h;split at h;·cases h;exact .refl s
 ·split at h;·rename_i d hd;obtain⟨nt,tmps,objs,nx,df,wr,di,mv⟩:=s;cases h;exact⟨rfl,zB _,λ_ h=>zD _ h,λ_ h=>h,λ_ h=>h,λt ht=>by simp only[zO,ZAX]at ht;simp only;rw[CC,yP (ZAM ht.1)],λ_ _=>rfl,λ_=>rfl⟩
  ·cases h
end
section
variable {P : Program} {τ : Ad} {E : AH} {objs : AF}
def frz(l:Nat)(o:Obj)(v:V):V:=match v with
 |.osl k=>match Nat.beq k l with|false=>v|true=>match o with|.row T xs=>.d (.sl T) xs|_=>.any
 |.ref k off=>match Nat.beq k l with|false=>v|true=>match o with|.box cs=>.er (Hf off cs)|_=>.any
 |v=>Ca l v
theorem lB{l:Nat}{o:Obj}(v:V)(hr:v.isRef=true)(h:v.has l=false):frz l o v=v:=by cases v<;>simp only[V.isRef,zY]at hr<;>simp only[V.has]at h<;>simp only[frz,Ca,V.key,h]
theorem Aq.cell{w:World}{S:Nat→Prop}{b:Nat}{cur:Array Value}{e:TypeId}(hb:w.heap[b]?=some (.cells cur e (0,0))){T:Ty}{xs:List T.den}(h:Aq w S T xs (cur.toList.take (xs.length*T.size)))(i:Nat)(x:T.den)(hx:xs[i]?=some x):∃c,BE w S T x c∧∀j u,c[j]?=some u→w.cell? ⟨b,0+i*T.size+j,none⟩=some u:=by
 obtain⟨c,h1,h2⟩:=h.get i x hx;refine⟨c,h1,λj u hj=>?_⟩;have h3:=h2 j u hj;rw[G3 hb,ZAJ];rw[zP]at h3;split at h3;·simpa using h3
 ·cases h3
theorem NK(g:AC P E objs){l:Nat}{o:Obj}(hl:AA l objs=some o){L:AU}(hL:E.loc l=some L){E2:AH}(h2:E2=E.still L.b (o.has L)){v:V}{c:Value}(hr:v.isRef=true)(r:Z P E v c):Z P E2 (frz l o v) c:=by
 subst h2;have hx:Bv E (E.still L.b (o.has L)) []:=⟨λb hs=>⟨.inl hs,rfl⟩,λj K _ hK=>hK⟩;have hat:Aj P E L o:=by obtain⟨K,hK,ha⟩:=g.at_ l o hl;rw[hL]at hK;cases hK;exact ha
 have hinv:∀v,Z P E v c→Z P (E.still L.b (o.has L)) (Ca l v) c:=λv r=>by
  unfold Ca;split
  ·split;·exact .any _
   ·exact r.mono hx
  ·exact r.mono hx
 cases v<;>simp only[V.isRef,zY]at hr<;>simp only[frz];case osl k=>
  split;·exact r.mono hx
  ·rename_i hk;have :=yW hk;subst this;split
   ·rename_i T xs;obtain⟨K,hK,rfl⟩:=E8 r;rw[hL]at hK;cases hK;have mL:=hat.keep hx λ_=>rfl;obtain⟨h1,h2,h3,e,cs,h4,h5|⟨cur,h5,h6,h7,h8,h9,BX,Db⟩⟩:=mL;·obtain⟨h5,rfl⟩:=h5;refine .d ⟨L.a,L.cap,by simp[AU.v,h3],⟨by simp,by rw[h5];simp[maxLen]⟩,λh=>absurd rfl h⟩
    ·refine .d ⟨L.a,L.cap,by simp[AU.v,h3],⟨h7,h9⟩,λ_=>⟨L.b,0,h5,.inr ⟨by simp only[Obj.has];omega,rfl⟩,λi x hx=>?_⟩⟩;subst Db;exact h4.cell h6 i x hx
   ·exact .any _
 case ref k off=>
  split;·exact r.mono hx
  ·rename_i hk;have :=yW hk;subst this;split
   ·rename_i cs;obtain⟨K,hK,rfl⟩:=MY r;rw[hL]at hK;cases hK;obtain⟨vals,t,h1,h2,h3⟩:=hat;have hlen:(Hf off cs).length=cs.length-off:=by rw[KH];simp
    refine .er (λj=>vals.getD (off+j) undef) (.inr ⟨trivial,rfl⟩) (λj hj=>?_) λj hj=>?_;·rw[show(E.still L.b ((Obj.box cs).has L)).w=E.w from rfl,G3 h1];rw[zH,ZAN (by omega)];rfl
    ·have :=(h3 (off+j) (by omega)).mono hx;rw[KH,yT,ZAs,←yT];exact this
   ·exact .any _
 all_goals exact hinv _ r
theorem AC.substO{f:V→V}(g:AC P E objs)(hf:∀v c,v.isRef=true→Z P E v c→Z P E (f v) c):AC P E (substO f objs):=by
 have A4:∀{l o},AA l (YtldikbpclaeajaaGreatDoor.substO f objs)=some o→∃q,AA l objs=some q∧o=q.subst f:=by intro l o h;rw[G6,ZAA]at h;obtain⟨q,hq,rfl⟩:=h;exact⟨q,hq,rfl⟩
 refine⟨λl o h=>?_,λb h=>g.ns b (aX.1 h),g.sl,g.tab,λi j p q K K' h1 h2 h3 h4 h5 h6 h7=>?_⟩;·obtain⟨q,hq,rfl⟩:=A4 h;obtain⟨L,hL,ha⟩:=g.at_ l q hq;exact⟨L,hL,ha.keepS (λv c r=>LF (λb hb=>⟨hb,rfl⟩) hf r) (λb hb=>⟨hb,rfl⟩) λ_=>rfl⟩
 ·obtain⟨p',k1,rfl⟩:=A4 h1;obtain⟨q',k2,rfl⟩:=A4 h2;exact g.inj i j p' q' K K' k1 k2 h3 h4 (Obj.has_subst.1 h5) (Obj.has_subst.1 h6) h7
theorem BF.substO{E0 E:AH}{imp objs:AF}{M:List Nat}{f:V→V}(h:BF E0 imp E objs M):BF E0 imp E (substO f objs) M:=⟨h.ext,h.os,h.tape,h.output,h.size,h.frame,λb hb=>h.own b (aX.1 hb),h.st,λl hl=>h.keys l (by rw[G6]at hl;simpa using hl),λl hl=>h.dom l (by rw[G6]at hl;simpa using hl)⟩
theorem DU.mono{E E':AH}{f:V→V}(hf:∀v c,Z P E v c→Z P E' (v.subst f) c)(hl:∀l L,E.loc l=some L→∃L',E'.loc l=some L'∧L'.b=L.b):∀{df:List Df}{ds:List Deferred},DU P E df ds→DU P E' (Ic f df) ds|[],_,h=>h|.mark l::r,_,⟨L,rest,h1,⟨K,hK,h2⟩,h3⟩=>by obtain⟨K',hK',e⟩:=hl l K hK;exact⟨L,rest,h1,⟨K',hK',e.trans h2⟩,h3.mono hf hl⟩|.fn g cs::r,_,⟨q,rest,h1,h2,h3⟩=>⟨q,rest,h1,⟨by rw[h2.1,Ie];simp,λj hj=>by rw[Ie,zL]at hj;have :=hf _ _ (h2.2 j hj);rw[I6 hj];exact this⟩,h3.mono hf hl⟩
theorem Q4:∀{df:List Df},Ic (λv=>v) df=df|[]=>rfl|.mark _::r=>by simp only[Ic,Df.subst,Q4]|.fn g cs::r=>by have h:∀v:V,v.subst (λv=>v)=v:=λv=>subst_none v;simp only[Ic,Df.subst,Q4,Ie,ZAw λv _=>h v,List.map_id']where subst_none:∀v:V,v.subst (λv=>v)=v|.fn g a b=>by simp only[V.subst,list a,list b]|.agg cs=>by simp only[V.subst,list cs]|.tup cs=>by simp only[V.subst,list cs]|.er cs=>by simp only[V.subst,list cs]|.when b v=>by simp only[V.subst,subst_none v]|.opt b v=>by simp only[V.subst,subst_none v]|.ref ..|.rref ..|.osl _|.osp ..|.map _|.yl _|.bsl ..|.any|.d ..|.nilp|.nilf|.nils|.nilm|.pf ..=>rfl;list:∀l:List V,C4 (λv=>v) l=l|[]=>rfl|v::l=>by simp only[C4,subst_none v,list l]
theorem DU.ext{E E':AH}(hx:Bv E E' []){df:List Df}{ds:List Deferred}(h:DU P E df ds):DU P E' df ds:=by have :=h.mono (f:=λv=>v) (E':=E') (λv c r=>by rw[Q4.subst_none];exact r.mono hx) λl L hl=>⟨L,hx.loc l L (by simp) hl,rfl⟩;rwa[Q4]at this
theorem A5.subst{cx:Cx}{s:St}{a:Act}{E E':AH}{l:Nat}{f:V→V}(r:A5 P cx s a E)(hf:∀v c,v.isRef=true→Z P E v c→Z P E' (f v) c)(hw:E'.w=E.w)(F0:E'.loc=E.loc)(hS:∀b,E.S b→E'.S b)(g:AC P E' (substO f s.objs))(st:BF cx.E cx.imp E' (substO f s.objs) s.mv):A5 P cx (s.subst l f) a E':=by obtain⟨nt,tmps,objs,nx,df,wr,di,mv⟩:=s;have hr:∀v c,Z P E v c→Z P E' (v.subst f) c:=λv c h=>LF (λb hb=>⟨hS b hb,by rw[hw]⟩) hf h;refine⟨g,λk hk=>by rw[F0];exact r.fresh k hk,st,by rw[hw];exact r.drawn,r.size,r.df.mono hr λk K hK=>⟨K,by rw[F0];exact hK,rfl⟩,λt=>?_⟩;show Z P E' (AW t (EV f tmps)) _;rw[Jt,Ks];exact hr _ _ (r.rep t)
def St.freeze(l:Nat)(s:St):St:=match AA l s.objs with
 |some o=>match s.subst l (frz l o)with|⟨nt,tmps,objs,nx,df,wr,di,mv⟩=>⟨nt,tmps,(l,.dead)::objs,nx,df,wr,l::di,mv⟩
 |none=>s
theorem eE{cx:Cx}{s:St}{a:Act}{E:AH}{o:Obj}{L:AU}(l:Nat)(ho:AA l s.objs=some o)(hL:E.loc l=some L)(r:A5 P cx s a E):A5 P cx (s.freeze l) a (E.still L.b (o.has L)):=by
 unfold St.freeze;split
 ·rename_i o' ho';rw[ho]at ho';cases ho';obtain⟨g1,s1⟩:=r.good.still ho hL;have hf:∀v c,v.isRef=true→Z P E v c→Z P (E.still L.b (o.has L)) (frz l o v) c:=λv c hr h=>NK r.good ho hL rfl hr h;have hx:Bv E (E.still L.b (o.has L)) []:=⟨λb hs=>⟨.inl hs,rfl⟩,λj K _ hK=>hK⟩;have Hk:∀v c,v.isRef=true→Z P (E.still L.b (o.has L)) v c→Z P (E.still L.b (o.has L)) (frz l o v) c:=λv c hr h=>by
   refine hf v c hr ?_;cases h<;>simp only[V.isRef,zY]at hr;·rename_i h;exact .ref h
   ·rename_i h;exact .rref h
   ·rename_i h;exact .osl h
   ·rename_i h hp;exact .osp h hp
   ·rename_i h;exact .map h
   ·rename_i h;exact .yl h
   ·rename_i h;exact .bsl h
  have g2:=g1.substO Hk;obtain⟨nt,tmps,objs,nx,df,wr,di,mv⟩:=s;have hr:∀v c,Z P E v c→Z P (E.still L.b (o.has L)) (v.subst (frz l o)) c:=λv c h=>LF hx.S hf h;refine⟨g2,r.fresh,?_,r.drawn,r.size,r.df.mono hr λk K hK=>⟨K,hK,rfl⟩,λt=>?_⟩;·exact(r.step.trans s1).substO (f:=frz l o)
  ·show Z P _ (AW t (EV _ tmps)) _;rw[Jt,Ks];exact hr _ _ (r.rep t)
 ·rename_i hn;rw[ho]at hn;cases hn
theorem Ot{cx:Cx}{s:St}(l:Nat):Wk P cx s (s.freeze l):=by rintro a w⟨E,rfl,r⟩;cases h:AA l s.objs with|none=>exact⟨E,rfl,by unfold St.freeze;rw[h];exact r⟩|some o=>obtain⟨L,hL,_⟩:=r.good.at_ l o h;exact⟨E.still L.b (o.has L),rfl,eE l h hL r⟩
theorem AR.freeze(l:Nat)(s:St):AR s (s.freeze l):=by
 unfold St.freeze;split;·rename_i o ho;have h:=AR.subst (s:=s) (l:=l) (f:=frz l o) lB;generalize s.subst l (frz l o)=s1 at h;refine h.trans ?_;obtain⟨nt,tmps,objs,nx,df,wr,di,mv⟩:=s1;exact⟨rfl,zB _,λ_ h=>h,λ_ h=>zD _ h,λ_ h=>h,λ_ _=>rfl,λk hk=>by simp only[zO,ZAX]at hk;simp only;rw[Ay,yP (ZAM hk.1)],λ_=>rfl⟩
 ·exact .refl s
end
section
variable {P : Program} {τ : Ad} {E : AH} {objs : AF}
def Gj:(T:Ty)→T.den→V|.pair a b,x=>.agg (FL (.pair a b) x)|.int k,x=>.d (.int k) x|.bool,x=>.d .bool x|.str,x=>.d .str x|.sl t,x=>.d (.sl t) x|.unit,x=>.d .unit x
def LP:(ts:List Ty)→BR ts→List V|[],_=>[]|[t],x=>[Gj t x]|t::u::l,x=>Gj t x.1::LP (u::l) x.2
def AL:(rs:List Ty)→BR rs→V|[],_=>.tup []|[t],x=>Gj t x|t::u::l,x=>.tup (LP (t::u::l) x)
def getD:(T:Ty)→V→Option T.den
 |.pair a b,v=>match v with|.agg cs=>Ej (.pair a b) cs|_=>none
 |.int k,v=>Uw k [v]|.bool,v=>Uv [v]|.str,v=>Ux [v]|.sl t,v=>Mt t v|.unit,_=>none
def KP:(ts:List Ty)→List V→Option (BR ts)
 |[],vs=>match vs with|[]=>some ()|_=>none
 |[t],vs=>match vs with|[v]=>getD t v|_=>none
 |t::u::l,vs=>match vs with
  |v::r=>match getD t v with
   |some x=>match KP (u::l) r with|some y=>some (x,y)|none=>none
   |none=>none
  |_=>none
def Mm:(rs:List Ty)→V→Option (BR rs)
 |[],v=>match v with|.tup []=>some ()|_=>none
 |[t],v=>getD t v|t::u::l,v=>match v with|.tup vs=>KP (t::u::l) vs|_=>none
def PR:(rs:List Ty)→BR rs|[]=>()|[t]=>t.dflt|t::u::l=>(t.dflt,PR (u::l))
theorem Ms{w:World}{S:Nat→Prop}{lo:Nat→Option AU}:∀{T:Ty}{x:T.den}{c:Value},Jz w S T x c→Z P ⟨w,S,lo⟩ (Gj T x) c|.pair a b,x,c,⟨cs,h1,h2⟩=>by subst h1;have :=JK (P:=P) (E:=⟨w,S,lo⟩) h2;exact .agg (by simpa using this.1) λj hj=>by have :=this.2 j hj;simpa[zH,yT]using this|.int k,x,c,h=>.d h|.bool,x,c,h=>.d h|.str,x,c,h=>.d h|.sl t,x,c,h=>.d h|.unit,x,c,h=>.d h
theorem O8{w:World}{S:Nat→Prop}{lo:Nat→Option AU}:∀{ts:List Ty}{x:BR ts}{cs:List Value},LI w S ts x cs→AS P ⟨w,S,lo⟩ (LP ts x) cs|[],_,_,h=>by rw[show _=_ from h];exact .nil|[t],_,_,⟨v,h1,h2⟩=>by rw[h1];exact .cons (Ms h2) .nil|t::u::l,_,_,⟨v,r,h1,h2,h3⟩=>by rw[h1];exact .cons (Ms h2) (O8 h3)
theorem WD{cs:List V}{c:Value}(r:Z P E (.agg cs) c):∃a:Array Value,c=.agg a∧AS P E cs a.toList:=by cases r with|agg h1 h2=>rename_i a;exact⟨a,rfl,by simpa using h1,λj hj=>by simpa[zH,yT]using h2 j hj⟩
theorem dN{cs:List V}{c:Value}(r:Z P E (.tup cs) c):∃a:Array Value,c=.tuple a∧AS P E cs a.toList:=by cases r with|tup h1 h2=>rename_i a;exact⟨a,rfl,by simpa using h1,λj hj=>by simpa[zH,yT]using h2 j hj⟩
theorem Le{f:Fn}{fs cs:List V}{c:Value}(r:Z P E (.fn f fs cs) c):∃a b:Array Value,c=.func f a b∧AS P E fs a.toList∧AS P E cs b.toList:=by cases r with|fn h1 h2 h3 h4=>rename_i a b;exact⟨a,b,rfl,⟨by simpa using h1,λj hj=>by simpa[zH,yT]using h3 j hj⟩,⟨by simpa using h2,λj hj=>by simpa[zH,yT]using h4 j hj⟩⟩
theorem JM:∀{T:Ty}{v:V}{x:T.den}{c:Value},getD T v=some x→Z P E v c→Jz E.w E.S T x c
 |.pair a b,v,x,c,h,r=>by
  simp only[getD]at h;split at h;·obtain⟨ca,rfl,rs⟩:=WD r;exact⟨ca,rfl,GY h rs⟩
  ·cases h|.int k,v,x,c,h,r=>GY (t:=.int k) (vs:=[v]) h (.cons r .nil)|.bool,v,x,c,h,r=>GY (t:=.bool) (vs:=[v]) h (.cons r .nil)|.str,v,x,c,h,r=>GY (t:=.str) (vs:=[v]) h (.cons r .nil)|.sl t,v,x,c,h,r=>GY (t:=.sl t) (vs:=[v]) h (.cons r .nil)|.unit,v,x,c,h,r=>by cases h
theorem S7:∀{ts:List Ty}{vs:List V}{x:BR ts}{cs:List Value},KP ts vs=some x→AS P E vs cs→LI E.w E.S ts x cs
 |[],vs,x,cs,h,r=>by
  simp only[KP]at h;split at h;·exact zR (by simpa using r.1)
  ·cases h|[t],vs,x,cs,h,r=>by
  simp only[KP]at h;split at h;·obtain⟨c,rfl,r1⟩:=r.single;exact⟨c,rfl,JM h r1⟩
  ·cases h|t::u::l,vs,x,cs,h,r=>by
  simp only[KP]at h;split at h
  ·rename_i v r';split at h
   ·rename_i x' hx;split at h;·rename_i y hy;cases h;match cs,r with|c::cs,r=>exact⟨c,cs,rfl,JM hx r.head,S7 hy r.tail⟩|[],r=>exact absurd r.1 (by simp)
    ·cases h
   ·cases h
  ·cases h
theorem bS{w:World}{S:Nat→Prop}{lo:Nat→Option AU}:∀{rs:List Ty}{x:BR rs}{c:Value},RS w S rs x c→Z P ⟨w,S,lo⟩ (AL rs x) c|[],_,_,h=>by rw[show _=_ from h];exact .tup rfl λj hj=>by simp at hj|[t],_,_,h=>Ms h|t::u::l,x,_,⟨vs,h1,h2⟩=>by have :=O8 (P:=P) (lo:=lo) h2;rw[h1];exact .tup (by simpa using this.1) λj hj=>by have :=this.2 j hj;simpa[zH,yT]using this
theorem dV:∀{rs:List Ty}{v:V}{x:BR rs}{c:Value},Mm rs v=some x→Z P E v c→RS E.w E.S rs x c
 |[],v,x,c,h,r=>by
  simp only[Mm]at h;split at h
  ·obtain⟨a,rfl,hr⟩:=dN r;have :a=#[]:=by have :=hr.1;simpa using this
   subst this;rfl
  ·cases h|[t],v,x,c,h,r=>JM h r|t::u::l,v,x,c,h,r=>by
  simp only[Mm]at h;split at h;·obtain⟨a,rfl,hr⟩:=dN r;exact⟨a,rfl,S7 h hr⟩
  ·cases h
mutual
def V.fk:V→Option Nat
 |.fn _ a b=>match CZ a with|some l=>some l|none=>CZ b
 |.agg cs=>CZ cs|.tup cs=>CZ cs|.er cs=>CZ cs|.when _ v=>V.fk v|.opt _ v=>V.fk v|.ref k _=>some k|.rref k _ _=>some k|.osl k=>some k|.osp k _ _=>some k|.map k=>some k|.yl k=>some k|.bsl k _=>some k|_=>none
def CZ:List V→Option Nat|[]=>none|v::r=>match V.fk v with|some l=>some l|none=>CZ r
end
theorem KM:∀{l:List V},CZ l=none→∀j,(l.getD j .any).fk=none
 |[],_,j=>by simp[V.fk]|v::r,h,j=>by
  simp only[CZ]at h;split at h;·cases h
  ·rename_i h1;cases j with|zero=>simpa using h1|succ j=>simpa using KM h j
theorem Wh{E E':AH}(hS:∀b,E.S b→E'.S b∧E'.w.heap[b]?=E.w.heap[b]?){v:V}{c:Value}(r:Z P E v c):v.fk=none→Z P E' v c:=by induction r with
 |any v=>exact λ_=>.any v|d hc=>exact λ_=>.d (hc.mono hS)|nilp=>exact λ_=>.nilp|nilf=>exact λ_=>.nilf|nils a=>exact λ_=>.nils a|nilm=>exact λ_=>.nilm|fn h1 h2 _ _ i1 i2=>
  intro h;simp only[V.fk]at h;split at h;·cases h
  ·rename_i h0;exact .fn h1 h2 (λj hj=>i1 j hj (KM h0 j)) λj hj=>i2 j hj (KM h j)|agg h1 _ i1=>exact λh=>.agg h1 λj hj=>i1 j hj (KM h j)|tup h1 _ i1=>exact λh=>.tup h1 λj hj=>i1 j hj (KM h j)|er c hb hc _ i=>exact λh=>.er c (hS _ hb).1 (λj hj=>(PI (hS _ hb).2 _).trans (hc j hj)) λj hj=>i j hj (KM h j)|ref k=>intro h;cases h|rref k=>intro h;cases h|osl k=>intro h;cases h|osp k kp=>intro h;cases h|map k=>intro h;cases h|when _ h2 i1=>exact λh=>.when (λe=>i1 e h) h2|opt _ h2 i1=>exact λh=>.opt (λe=>i1 e h) h2|pf k=>exact λ_=>.pf (k.mono hS)|yl k=>intro h;cases h|bsl k=>intro h;cases h
theorem M0{E E':AH}(hS:∀b,E.S b→E'.S b∧E'.w.heap[b]?=E.w.heap[b]?){vs:List V}{cs:List Value}(r:AS P E vs cs)(h:CZ vs=none):AS P E' vs cs:=⟨r.1,λj hj=>Wh hS (r.2 j hj) (KM h j)⟩
def Ty.plain:Ty→Bool
 |.sl _=>false|.pair a b=>match a.plain with|true=>b.plain|false=>false
 |_=>true
mutual
def V.plain:V→Bool|.d t _=>t.plain|.agg cs=>OU cs|.tup cs=>OU cs|_=>false
def OU:List V→Bool|[]=>true|v::r=>match V.plain v with|true=>OU r|false=>false
end
theorem U7:∀{l:List V},OU l=true→∀j,j<l.length→(l.getD j .any).plain=true
 |[],_,j,hj=>by simp at hj|v::r,h,j,hj=>by
  simp only[OU]at h;split at h;·rename_i h1;cases j with|zero=>simpa using h1|succ j=>simpa using U7 h j (by simpa using hj)
  ·cases h
theorem U8{w w':World}{S S':Nat→Prop}:∀{t:Ty}{x:t.den}{cs:List Value},t.plain=true→BE w S t x cs→BE w' S' t x cs
 |.int _,_,_,_,h=>h|.bool,_,_,_,h=>h|.str,_,_,_,h=>h|.sl _,_,_,h,_=>by cases h|.pair a b,_,_,h,⟨c1,c2,e,h1,h2⟩=>by
  simp only[Ty.plain]at h;split at h;·rename_i ha;exact⟨c1,c2,e,U8 ha h1,U8 h h2⟩
  ·cases h|.unit,_,_,_,h=>h
theorem sT{E E':AH}{v:V}{c:Value}(r:Z P E v c):v.plain=true→Z P E' v c:=by induction r with|d hc=>exact λh=>.d (U8 h hc)|agg h1 _ i1=>exact λh=>.agg h1 λj hj=>i1 j hj (U7 h j hj)|tup h1 _ i1=>exact λh=>.tup h1 λj hj=>i1 j hj (U7 h j hj)|_=>intro h;cases h
inductive PS where|d(T:Ty)|e(T:Ty)|f(ts rs:List Ty)
@[reducible]def PS.den:PS→Type|.d T=>T.den|.e T=>T.den|.f ts rs=>(BR ts→Prop)×(BR ts→BR rs)
@[reducible]def B9:List PS→Type|[]=>Unit|p::l=>p.den×B9 l
def PS.toV:(p:PS)→p.den→V|.d T,x=>Gj T x|.e T,x=>.er (FL T x)|.f ts rs,x=>.pf ts rs x.1 x.2
def CL:(ps:List PS)→B9 ps→List V|[],_=>[]|p::l,x=>p.toV x.1::CL l x.2
structure AM where
 ps:List PS
 pre:Option (B9 ps→Prop)
 res:B9 ps→V
def AM.ob(c:AM)(xs:B9 c.ps):Option Prop:=match c.pre with|none=>none|some p=>some (p xs)
def AN(P:Program)(f:FuncId)(c:AM):Prop:=Bz P f∧∀(w:World)(S:Nat→Prop)(xs:B9 c.ps),DW P w S→A0 (c.ob xs)→∀args:Array Value,AS P ⟨w,S,λ_=>none⟩ (CL c.ps xs) args.toList→Calls P f args w λe w2=>∃v S2,e=.returned v∧G0 w S w2 S2∧Z P ⟨w2,S2,λ_=>none⟩ (c.res xs) v
def Bb(P:Program)(E:AH)(L:AU)(T:Ty)(xs:List T.den)(w:World)(K:AU)(zs:List T.den):Prop:=∃row:Option Nat,E.w.grownBy w row∧(∀b,row=some b→(Obj.row T xs).has L∧b=L.b)∧(∀lo,Aj P ⟨w,E.S,lo⟩ K (.row T zs))∧((Obj.row T zs).has K→(Obj.row T xs).has L∧K.b=L.b∨E.w.heap.size≤K.b)∧E.w.drawn≤w.drawn
structure G1 where
 T:Ty
 own:Bool
 ps:List PS
 pre:List T.den→B9 ps→Prop
 fn:List T.den→B9 ps→List T.den
def Ij(P:Program)(f:FuncId)(r:G1):Prop:=Bz P f∧match r.own with|false=>∀(w:World)(S:Nat→Prop)(ys:B9 r.ps),DW P w S→r.pre [] ys→∀args:Array Value,AS P ⟨w,S,λ_=>none⟩ (CL r.ps ys) args.toList→Calls P f args w λe w2=>∃K,e=.returned K.v∧w.grownBy w2 none∧w.drawn≤w2.drawn∧(∀lo,Aj P ⟨w2,S,lo⟩ K (.row r.T (r.fn [] ys)))∧((Obj.row r.T (r.fn [] ys)).has K→w.heap.size≤K.b)|true=>∀(E:AH)(objs:AF)(l:Nat)(L:AU)(xs:List r.T.den)(ys:B9 r.ps),AC P E objs→AA l objs=some (.row r.T xs)→E.loc l=some L→r.pre xs ys→∀args:List Value,AS P ⟨E.w,E.S,λ_=>none⟩ (CL r.ps ys) args→Calls P f (L.v::args).toArray E.w λe w2=>∃K,e=.returned K.v∧Bb P E L r.T xs w2 K (r.fn xs ys)
def J0(P:Program)(f:FuncId):Prop:=Bz P f∧∀(E:AH)(objs:AF)(l k:Nat)(L K:AU)(xs zs:List Int)(i:Int),AC P E objs→AA l objs=some (.row (.int .i64) xs)→AA k objs=some (.row (.int .i64) zs)→l≠k→E.loc l=some L→E.loc k=some K→0≤i→i≤(xs.length:Int)→(xs.length+zs.length)*8≤140737488355328→Calls P f #[L.v,.int .i64 i,K.v] E.w λe w2=>∃M,e=.returned M.v∧Bb P E L (.int .i64) xs w2 M (xs.take i.toNat++zs++xs.drop i.toNat)
def RN(P:Program)(f h:FuncId):Prop:=Bz P f∧∀(E:AH)(objs:AF)(v:V)(c:Value),AC P E objs→v.solid=true→Z P E v c→Calls P f #[c] E.w λe w2=>∃u E',e=.returned u∧E'.w=w2∧AC P E' objs∧BF E objs E' objs []∧E.w.drawn≤w2.drawn∧Z P E' (.fn (.func h) [] [.er [v]]) u
structure RP where
 ps:List PS
 pre:B9 ps→Prop
 fn:B9 ps→List Int×Int
def RQ(P:Program)(f:FuncId)(c:RP):Prop:=Bz P f∧∀(E:AH)(objs:AF)(n:Nat)(ys:B9 c.ps),AC P E objs→E.loc n=none→c.pre ys→∀args:Array Value,AS P ⟨E.w,E.S,λ_=>none⟩ (CL c.ps ys) args.toList→Calls P f args E.w λe w2=>∃u E',e=.returned u∧E'.w=w2∧AC P E' ((n,.row (.int .i64) (c.fn ys).1)::objs)∧BF E objs E' ((n,.row (.int .i64) (c.fn ys).1)::objs) []∧E.w.drawn≤w2.drawn∧Z P E' (.agg [.osl n,.d (.int .i64) (c.fn ys).2]) u
inductive CX where|con(c:AM)|row(r:G1)|ins|clo(h:Nat)|lin(c:RP)
def CX.Ok(P:Program)(f:FuncId):CX→Prop|.con c=>AN P f c|.row r=>Ij P f r|.ins=>J0 P f|.clo h=>RN P f h|.lin c=>RQ P f c
abbrev Ar:=Nat→Option CX
def A3(P:Program)(κ:Ar):Prop:=∀f c,κ f=some c→c.Ok P f
def U5(κ:Ar)(ts rs:List Ty)(get:(ps:List PS)→List V→Option (B9 ps))(g:FuncId)(fst caps:List V)(xs:BR ts):Prop:=match κ g with
 |some (.con c)=>match get c.ps (fst++(LP ts xs++caps))with|none=>False|some ys=>match Mm rs (c.res ys)with|none=>False|some _=>A0 (c.ob ys)
 |_=>False
def U4(κ:Ar)(ts rs:List Ty)(get:(ps:List PS)→List V→Option (B9 ps))(g:FuncId)(fst caps:List V)(xs:BR ts):BR rs:=match κ g with
 |some (.con c)=>match get c.ps (fst++(LP ts xs++caps))with|none=>PR rs|some ys=>match Mm rs (c.res ys)with|none=>PR rs|some r=>r
 |_=>PR rs
abbrev LK:=(ps:List PS)→List V→Option (B9 ps)
def Hh(κ:Ar)(rec:LK):LK
 |[],vs=>match vs with|[]=>some ()|_=>none
 |.d T::l,vs=>match vs with
  |v::r=>match getD T v with
   |some x=>match Hh κ rec l r with|some y=>some (x,y)|none=>none
   |none=>none
  |[]=>none
 |.e T::l,vs=>match vs with
  |v::r=>match v with
   |.er cs=>match Ej T cs with
    |some x=>match Hh κ rec l r with|some y=>some (x,y)|none=>none
    |none=>none
   |_=>none
  |[]=>none
 |.f ts rs::l,vs=>match vs with
  |v::r=>match v with
   |.pf ts' rs' pre f=>if h:ts'=ts∧rs'=rs then match Hh κ rec l r with|some y=>some ((λx=>pre (h.1.symm▸x),λx=>h.2▸f (h.1.symm▸x)),y)|none=>none else none|.fn (.func g) fst caps=>match κ g with
    |some (.con _)=>match CZ fst with
     |none=>match CZ caps with
      |none=>match Hh κ rec l r with|some y=>some ((U5 κ ts rs rec g fst caps,U4 κ ts rs rec g fst caps),y)|none=>none
      |some _=>none
     |some _=>none
    |_=>none
   |_=>none
  |[]=>none
def Lg(κ:Ar):Nat→LK|0=>Hh κ λ_ _=>none|n+1=>Hh κ (Lg κ n)
def Oz(P:Program)(get:LK):Prop:=∀(E:AH)ps vs xs cs,get ps vs=some xs→AS P E vs cs→AS P E (CL ps xs) cs
theorem sR{κ:Ar}(hκ:A3 P κ){get:LK}(hg:Oz P get){ts rs:List Ty}{g:FuncId}{fst caps:List V}{c:Value}(r:Z P E (.fn (.func g) fst caps) c)(h1:CZ fst=none)(h2:CZ caps=none)(hc:∃k,κ g=some (.con k)):Z P E (.pf ts rs (U5 κ ts rs get g fst caps) (U4 κ ts rs get g fst caps)) c:=by
 obtain⟨a,b,rfl,ra,rb⟩:=Le r;obtain⟨k,hk⟩:=hc;have hok:AN P g k:=hκ g _ hk;refine .pf ⟨g,a,b,rfl,hok.1,λw1 S1 hS AY xs hpre cargs hargs=>?_⟩;simp only[U5,hk]at hpre;simp only[U4,hk];split at hpre;·exact hpre.elim
 ·rename_i ys Dv;split at hpre;·exact hpre.elim
  ·rename_i r' hr';have rs0:AS P ⟨w1,S1,λ_=>none⟩ (fst++(LP ts xs++caps)) (a++cargs++b).toList:=by have :=(M0 (E':=⟨w1,S1,λ_=>none⟩) hS ra h1).append ((O8 (P:=P) (lo:=λ_=>none) hargs).append (M0 (E':=⟨w1,S1,λ_=>none⟩) hS rb h2));simpa using this
   have rs1:=hg _ _ _ _ _ Dv rs0;refine ZAh (hok.2 w1 S1 ys AY hpre _ rs1) ?_;rintro e w2⟨v,S2,rfl,hgr,hv⟩;exact⟨v,S2,rfl,hgr,dV hr' hv⟩
theorem X5{κ:Ar}(hκ:A3 P κ){rec:LK}(hr:Oz P rec):Oz P (Hh κ rec):=by intro E ps;induction ps with
 |nil=>
  intro vs xs cs h r;simp only[Hh]at h;split at h;·cases h;exact r
  ·cases h|cons p l ih=>intro vs xs cs h r;cases p with
  |d T=>
   simp only[Hh]at h;split at h
   ·rename_i v r';split at h
    ·rename_i x hx;split at h;·rename_i y hy;cases h;match cs,r with|c::cs,r=>exact .cons (Ms (JM hx r.head)) (ih _ _ _ hy r.tail)|[],r=>exact absurd r.1 (by simp)
     ·cases h
    ·cases h
   ·cases h|e T=>
   simp only[Hh]at h;split at h;·rename_i v r';match cs,r with
    |[],r=>exact absurd r.1 (by simp)|c::cs,r=>
     split at h
     ·rename_i es _;split at h
      ·rename_i x hx;split at h;·rename_i y hy;cases h;refine .cons ?_ (ih _ _ _ hy r.tail);have rh:=r.head;cases rh with|er f hb hc hr=>
        rename_i b off;have rs:AS P E es ((List.range es.length).map f):=⟨by simp,λj hj=>by have :=hr j hj;simpa[yT,hj]using this⟩;have hcells:=GY hx rs;have hlen:=hcells.length;simp only[zL,ZB5]at hlen;have rf:=JK (P:=P) (E:=E) hcells;refine .er f hb (λj hj=>hc j ?_) λj hj=>?_;·rw[Pk]at hj;omega
        ·have :=rf.2 j hj;rw[Pk,←hlen]at hj;simpa[yT,hj]using this
       ·cases h
      ·cases h
     ·cases h
   ·cases h|f ts rs=>
   simp only[Hh]at h;split at h;·rename_i v r';match cs,r with
    |[],r=>exact absurd r.1 (by simp)|c::cs,r=>
     split at h
     ·rename_i ts' rs' pre f;split at h
      ·rename_i hh;obtain⟨rfl,rfl⟩:=hh;split at h;·rename_i y hy;cases h;exact .cons r.head (ih _ _ _ hy r.tail)
       ·cases h
      ·cases h
     ·split at h
      ·rename_i k hk;split at h
       ·rename_i h1;split at h
        ·rename_i h2;split at h;·rename_i y hy;cases h;exact .cons (sR hκ hr r.head h1 h2 ⟨k,hk⟩) (ih _ _ _ hy r.tail)
         ·cases h
        ·cases h
       ·cases h
      ·cases h
     ·cases h
   ·cases h
theorem NO{κ:Ar}(hκ:A3 P κ):∀n,Oz P (Lg κ n)|0=>X5 hκ λ_ _ _ _ _ h=>by cases h|n+1=>X5 hκ (NO hκ n)
end
section
variable {P : Program} {τ : Ad} {κ : Ar} {E : AH} {objs : AF}
def Je:Nat→AF→List V→Option (List V×List Nat)|0,_,_=>none|n+1,os,vs=>match CZ vs with|none=>some (vs,[])|some l=>match AA l os with
 |some o=>match Je n ((l,.dead)::os) (C4 (frz l o) vs)with|some (r,ks)=>some (r,l::ks)|none=>none
 |none=>none
theorem bR{E E':AH}{f:V→V}(h:∀v c,Z P E v c→Z P E' (v.subst f) c){vs:List V}{cs:List Value}(r:AS P E vs cs):AS P E' (C4 f vs) cs:=⟨by rw[Ie,zL];exact r.1,λj hj=>by rw[Ie,zL]at hj;rw[I6 hj];exact h _ _ (r.2 j hj)⟩
theorem QV:∀{n:Nat}{os:AF}{vs vs':List V}{ks:List Nat}{E:AH}{cs:List Value},Je n os vs=some (vs',ks)→AC P E os→AS P E vs cs→∃S',(∀b,E.S b→S' b)∧(∀b,S' b→b<E.w.heap.size)∧(ks=[]→S'=E.S)∧CZ vs'=none∧AS P ⟨E.w,S',E.loc⟩ vs' cs∧∀b,S' b→E.S b∨Cd E os b
 |0,_,_,_,_,_,_,h,_,_=>by cases h|n+1,os,vs,vs',ks,E,cs,h,g,r=>by
  simp only[Je]at h;split at h;·rename_i hk;cases h;exact⟨E.S,λ_ h=>h,g.sl,λ_=>rfl,hk,r,λ_ h=>.inl h⟩
  ·rename_i l hl;split at h
   ·rename_i o ho;split at h
    ·rename_i r' ks' h';cases h;obtain⟨L,hL,_⟩:=g.at_ l o ho;obtain⟨g1,s1⟩:=g.still ho hL;have hx:Bv E (E.still L.b (o.has L)) []:=⟨λb hs=>⟨.inl hs,rfl⟩,λj K _ hK=>hK⟩;have r1:AS P (E.still L.b (o.has L)) (C4 (frz l o) vs) cs:=bR (λv c h=>LF hx.S (λv c hr h=>NK g ho hL rfl hr h) h) r;obtain⟨S',k1,k2,_,k3,k4,k5⟩:=QV h' g1 r1;refine⟨S',λb hb=>k1 b (.inl hb),k2,λh=>by simp at h,k3,k4,λb hb=>?_⟩;rcases k5 b hb with(h|⟨h1,h2⟩)|h;·exact .inl h
     ·exact .inr ⟨l,o,L,ho,hL,h1,h2.symm⟩
     ·rcases s1.own b h with h3|h3;·have :=g1.own_lt h;have h3:E.w.heap.size≤b:=h3;have this:b<E.w.heap.size:=this;omega
      ·exact .inr h3
    ·cases h
   ·cases h
def PF(κ:Ar)(f:V)(args:List V):Option (Option Prop×V):=match f with
 |.fn (.func g) fst caps=>match κ g with
  |some (.con c)=>match Lg κ 3 c.ps (fst++(args++caps))with|none=>none|some xs=>some (c.ob xs,c.res xs)
  |_=>none
 |.pf ts rs pre f=>match KP ts args with|none=>none|some xs=>some (some (pre xs),AL rs (f xs))
 |_=>none
inductive CR where|ok(ob:Option Prop)(v:V)|frz(ks:List Nat)|no
def Mw(κ:Ar)(os:AF)(f:V)(args:List V):CR:=match Je 9 os (f::args)with
 |some (f'::args',ks)=>match PF κ f' args' with
  |some (ob,v)=>match ks with|[]=>.ok ob v|_=>match v.plain with|true=>.ok ob v|false=>.frz ks
  |none=>.no
 |_=>.no
def Ih(P:Program)(r:Option Nat)(o:Oper)(a:Act)(E:AH)(objs:AF)(out:Ah):Prop:=∀(next:Act→World→Prop)(Q:DV),(∀E' v,AC P E' (edit objs out.ed)→BF E objs E' (edit objs out.ed) (moved out.ed)→E.w.drawn≤E'.w.drawn→Z P E' out.v v→next (a.put o.dst v) E'.w)→o.wpIn (fz r) 0 P a E.w next Q
theorem J3.did{r:Option Nat}{o:Oper}{a:Act}{out:Ah}(h:J3 P o a.eval E objs out)(hd:∀c,o.op≠.defer c):Ih P r o a E objs out:=by
 intro next Q hn;obtain⟨E',n,v,h1,h2,h3,h4,h5⟩:=h;refine⟨λ_ _=>trivial,?_⟩;rw[ZCD _ _ _ hd,h1];rcases h2 with rfl|⟨rfl,rfl⟩;·exact hn E' v h3 h4 (Qu _ _ _ _ h1) h5
 ·exact hn E' _ h3 h4 (Qu _ _ _ _ h1) h5
theorem Rq{f:FuncId}(h:Bz P f)(args:Array Value)(w:World):(callFunc f args).run P w=.ok (.enter f args) w:=by
 obtain⟨fn,h1,h2,h3⟩:=h;have h4:fn.body.isNone=false:=by cases hb:fn.body<;>simp_all
 simp only[callFunc,ZAL,run_program,zS,h1,h3,h4,zY,ZAY,ZAo]
theorem Rs{o:Oper}{x:Operand}{args:Array Operand}{tys:Array TypeId}(B1:o.op=.call {callee:=.value x,args,argTypes:=tys}){f:FuncId}(hc:Bz P f){ρ:Operand→Value}{a b:Array Value}(hx:ρ x=.func (.func f) a b)(w:World):(execOp ρ o).run P w=.ok (.enter f (a++args.map ρ++b)) w:=by simp[execOp,B1,resolve,hx,Deferred.ofValue,invoke,Rq hc]
theorem gT(hκ:A3 P κ){f:V}{args:List V}{ob:Option Prop}{v:V}(h:PF κ f args=some (ob,v))(ho:A0 ob){S':Nat→Prop}(hS:DW P E.w S'){c:Value}{cs:List Value}(hk:CZ (f::args)=none)(r:AS P ⟨E.w,S',E.loc⟩ (f::args) (c::cs)):∃g a b,c=.func (.func g) a b∧Bz P g∧Calls P g (a++cs.toArray++b) E.w λe w2=>∃u S2,e=.returned u∧G0 E.w S' w2 S2∧Z P ⟨w2,S2,E.loc⟩ v u:=by
 simp only[PF]at h;split at h
 ·rename_i g fst caps;split at h;case h_2=>cases h
  ·rename_i k hk';split at h;·cases h
   ·rename_i xs I0;cases h;obtain⟨a,b,rfl,ra,rb⟩:=Le r.head;have hok:AN P g k:=hκ g _ hk';refine⟨g,a,b,rfl,hok.1,?_⟩;have hcl:∀vs ds,CZ vs=none→AS P ⟨E.w,S',E.loc⟩ vs ds→AS P ⟨E.w,S',λ_=>none⟩ vs ds:=λvs ds hf h=>M0 (E:=⟨E.w,S',E.loc⟩) (E':=⟨E.w,S',λ_=>none⟩) (λb hb=>⟨hb,rfl⟩) h hf;have hf:(V.fn (.func g) fst caps).fk=none:=by
     simp only[CZ]at hk;split at hk;·cases hk
     ·rename_i h;exact h
    have hargs:CZ args=none:=by simp only[CZ,hf]at hk;exact hk
    have Yj:CZ fst=none:=by
     simp only[V.fk]at hf;split at hf;·cases hf
     ·rename_i h;exact h
    have mT:CZ caps=none:=by simp only[V.fk,Yj]at hf;exact hf
    have rs:AS P ⟨E.w,S',λ_=>none⟩ (fst++(args++caps)) (a++cs.toArray++b).toList:=by have :=(hcl _ _ Yj ra).append ((hcl _ _ hargs r.tail).append (hcl _ _ mT rb));simpa using this
    refine ZAh (hok.2 E.w S' xs hS ho _ (NO hκ 3 _ _ _ _ _ I0 rs)) ?_;rintro e w2⟨u,S2,rfl,hg,hu⟩;refine⟨u,S2,rfl,hg,?_⟩;exact Z.mono (E:=⟨w2,S2,λ_=>none⟩) (E':=⟨w2,S2,E.loc⟩) ⟨λb hb=>⟨hb,rfl⟩,λl L _ h=>by cases h⟩ hu
 ·rename_i ts rs pre fn;split at h;·cases h
  ·rename_i xs I0;cases h;have r0:=r.head;cases r0 with|pf hp=>obtain⟨g,a,b,rfl,hc,TU⟩:=hp;refine⟨g,a,b,rfl,hc,ZAh (TU E.w S' (λk hk=>⟨hk,rfl⟩) hS xs ho cs.toArray (by simpa using S7 I0 r.tail)) ?_⟩;rintro e w2⟨u,S2,rfl,hg,hu⟩;exact⟨u,S2,rfl,hg,bS hu⟩
 ·cases h
theorem AC.os{E:AH}{os objs:AF}(g:AC P E objs)(hs:CG os objs):AC P E os:=⟨λl o h=>g.at_ l o (hs l o h),λb h=>by obtain⟨l,o,L,h1,h2,h3,h4⟩:=h;exact g.ns b ⟨l,o,L,hs l o h1,h2,h3,h4⟩,g.sl,g.tab,λi j o o' L L' h1 h2 h3 h4 h5 h6 h7=>g.inj i j o o' L L' (hs i o h1) (hs j o' h2) h3 h4 h5 h6 h7⟩
theorem gV(hκ:A3 P κ){r:Option Nat}{o:Oper}{a:Act}{x:Operand}{args:Array Operand}{tys:Array TypeId}(B1:o.op=.call {callee:=.value x,args,argTypes:=tys}){tmps:List (Nat×V)}{ob:Option Prop}{v:V}{os:AF}(h:Mw κ os (Af tmps x) (BY tmps args.toList)=.ok ob v)(ho:A0 ob)(hs:CG os objs)(g:AC P E objs)(hx:Z P E (Af tmps x) (a.eval x))(hr:∀y∈args.toList,Z P E (Af tmps y) (a.eval y)):Ih P r o a E objs ⟨ob,v,none⟩:=by
 intro next Q hn;have hargs:AS P E (Af tmps x::BY tmps args.toList) (a.eval x::args.toList.map a.eval):=.cons hx (Jg hr);have key:∀f' args' ks,Je 9 os (Af tmps x::BY tmps args.toList)=some (f'::args',ks)→PF κ f' args'=some (ob,v)→ks=[]∨v.plain=true→o.wpIn (fz r) 0 P a E.w next Q:=by
  intro f' args' ks h1 h2 h3;obtain⟨S',k1,k2,k3,k4,k5,_⟩:=QV h1 (g.os hs) hargs;obtain⟨gf,p,q,e1,e2,e3⟩:=gT (E:=E) hκ h2 ho ⟨k2,g.tab.mono λb hb=>⟨k1 b hb,rfl⟩⟩ k4 k5;refine⟨λ_ _=>trivial,?_⟩;rw[ZCD _ _ _ λc=>by rw[B1];simp,Rs B1 e2 e1,ZC4];refine⟨λh=>by simp[fz,Fence.wide]at h,Pn ?_⟩;have e3':Calls P gf (p++args.map a.eval++q) E.w λe w2=>∃u S2,e=.returned u∧G0 E.w S' w2 S2∧Z P ⟨w2,S2,E.loc⟩ v u:=by have :(args.toList.map a.eval).toArray=args.map a.eval:=ZC5 (by rw[ZB9]);rw[this]at e3;exact e3
  refine ZAh e3' ?_;rintro e w2⟨u,S2,rfl,hg,hu⟩;rcases h3 with h3|h3;·have e:=k3 h3;subst e;have :=g.grow hg;exact hn ⟨w2,S2,E.loc⟩ u this.1 this.2 hg.drawn hu
  ·have :=g.grow (w:=w2) (S:=E.S) ⟨hg.drawn,hg.os,hg.tape,hg.output,hg.size,hg.frame,λ_ h=>h,λ_ h=>.inl h,λb hb=>ZA0 (g.sl b hb) hg.size⟩;exact hn ⟨w2,E.S,E.loc⟩ u this.1 this.2 hg.drawn (sT hu h3)
 simp only[Mw]at h;split at h
 ·rename_i f' args' ks h1;split at h
  ·rename_i ob' v' h2;split at h;·cases h;exact key _ _ _ h1 h2 (.inl rfl)
   ·split at h;·rename_i hp;cases h;exact key _ _ _ h1 h2 (.inr hp)
    ·cases h
  ·cases h
 ·cases h
def MU(l:Nat):List Df→Bool
 |[]=>false|.mark k::r=>match Nat.beq k l with|true=>true|false=>MU l r
 |.fn _ _::r=>MU l r
def JH(nx:Nat)(df:List Df):Option (Nat×Obj×Bool)→Bool|none=>true|some (l,_,false)=>Nat.ble l nx|some (l,_,true)=>match Nat.ble l nx with|true=>!MU l df|false=>false
theorem DU.moved{E E':AH}{l:Nat}(hx:Bv E E' [l]):∀{df:List Df}{ds:List Deferred},MU l df=false→DU P E df ds→DU P E' (Ic (Ca l) df) ds
 |[],_,_,h=>h|.mark k::r,_,hm,⟨L,rest,h1,⟨K,hK,h2⟩,h3⟩=>by
  simp only[MU]at hm;split at hm;·cases hm
  ·rename_i Ab;exact⟨L,rest,h1,⟨K,hx.loc k K (by simp;exact ZAt Ab) hK,h2⟩,h3.moved hx hm⟩|.fn g cs::r,_,hm,⟨q,rest,h1,h2,h3⟩=>⟨q,rest,h1,bR (λv c h=>OA hx h) h2,h3.moved hx hm⟩
theorem bH{a:Act}{d t:Nat}{v:Value}(hd:d<a.tmps.size):(a.put (some d) v).tmps.getD t undef=if d=t then v else a.tmps.getD t undef:=by
 simp only[Act.put,zH,ZBZ];split;·rename_i e;subst e;simp
 ·rfl
theorem A5.setT{cx:Cx}{s s':St}{a:Act}{dst:Option Nat}{v:V}{c:Value}(r:A5 P cx s a E)(h:s.setT dst v=some s')(rv:Z P E v c):A5 P cx s' (a.put dst c) E:=by
 unfold St.setT at h;split at h;·cases h;exact⟨r.good,r.fresh,r.step,r.drawn,r.size,r.df,r.rep⟩
 ·rename_i d;split at h
  ·rename_i hd;obtain⟨nt,tmps,objs,nx,df,wr,di,mv⟩:=s;cases h;have hd:d<nt:=zW hd;have Ae:a.tmps.size=nt:=r.size;refine⟨r.good,r.fresh,r.step,r.drawn,by simp[Act.put,Ae],r.df,λt=>?_⟩;rw[bH (by omega)];show Z P E (AW t ((d,v)::tmps)) _;rw[CC];split;·exact rv
   ·exact r.rep t
  ·cases h
theorem A5.edit{cx:Cx}{s:St}{a:Act}{E':AH}{ed:Option (Nat×Obj×Bool)}(r:A5 P cx s a E)(Aw:JH s.nx s.df ed=true)(hd:E.w.drawn≤E'.w.drawn)(g:AC P E' (YtldikbpclaeajaaGreatDoor.edit s.objs ed))(st:BF E s.objs E' (YtldikbpclaeajaaGreatDoor.edit s.objs ed) (YtldikbpclaeajaaGreatDoor.moved ed)):A5 P cx (s.edit ed) a E':=by
 obtain⟨nt,tmps,objs,nx,df,wr,di,mv⟩:=s;have BG:∀k,nx≤k→AA k objs=none:=λk hk=>by cases h:AA k objs with|none=>rfl|some o=>obtain⟨L,hL,_⟩:=r.good.at_ k o h;rw[r.fresh k hk]at hL;cases hL
 have Yi:∀l,l≤nx→∀k,H5 l nx≤k→nx≤k∧k≠l:=λl hl k hk=>by
  unfold H5 at hk;split at hk;·rename_i e;have :=yW e;omega
  ·rename_i e;have :=ZAt e;omega
 match ed,Aw,g,st with
 |none,_,g,st=>refine⟨g,λk hk=>?_,r.step.trans st,zV r.drawn hd,r.size,r.df.ext st.ext,λt=>(r.rep t).mono st.ext⟩;rw[st.dom k (BG k hk)];exact r.fresh k hk|some (l,o,false),Aw,g,st=>
  have hl:l≤nx:=zW Aw;refine⟨g,λk hk=>?_,r.step.trans st,zV r.drawn hd,r.size,r.df.ext st.ext,λt=>(r.rep t).mono st.ext⟩;obtain⟨h1,h2⟩:=Yi l hl k hk;have :AA k (YtldikbpclaeajaaGreatDoor.edit objs (some (l,o,false)))=none:=by simp only[YtldikbpclaeajaaGreatDoor.edit];rw[Ay,yP (ZAM h2)];exact BG k h1
  rw[st.dom k this];exact r.fresh k h1|some (l,o,true),Aw,g,st=>
  simp only[JH]at Aw;split at Aw
  ·rename_i hl;have hl:l≤nx:=zW hl;refine⟨g,λk hk=>?_,r.step.trans st,zV r.drawn hd,r.size,r.df.moved st.ext (by simpa using Aw),λt=>?_⟩
   ·obtain⟨h1,h2⟩:=Yi l hl k hk;have :AA k (YtldikbpclaeajaaGreatDoor.edit objs (some (l,o,true)))=none:=by simp only[YtldikbpclaeajaaGreatDoor.edit];rw[Ay,yP (ZAM h2),G6,BG k h1];rfl
    rw[st.dom k this];exact r.fresh k h1
   ·show Z P E' (AW t (EV (Ca l) tmps)) _;rw[Jt,Ks];exact OA st.ext (r.rep t)
  ·cases Aw
end
section
variable {P : Program} {τ : Ad} {κ : Ar}
def freezeL:List Nat→St→St|[],s=>s|l::r,s=>freezeL r (s.freeze l)
theorem eG{cx:Cx}:∀(ks:List Nat)(s:St),Wk P cx s (freezeL ks s)|[],s=>.refl s|l::r,s=>(Ot l).trans (eG r _)
theorem AR.freezeL:∀(ks:List Nat)(s:St),AR s (freezeL ks s)|[],s=>.refl s|l::r,s=>(AR.freeze l s).trans (AR.freezeL r _)
def Ma(κ:Ar)(f:V):Option (Option G1):=match f with
 |.fn (.func g) [] []=>match κ g with|some (.row r)=>some (some r)|some .ins=>some none|_=>none
 |_=>none
def ZV(os:AF)(args:List V):Option Ah:=match args with
 |[.osl l,.d (.int .i64) i,.osl k]=>match Nat.beq l k with|true=>none|false=>match AA l os with
  |some (.row (.int .i64) xs)=>match AA k os with|some (.row (.int .i64) zs)=>some ⟨some (0≤i∧i≤(List.length (α:=Int) xs:Int)∧(List.length (α:=Int) xs+List.length (α:=Int) zs)*8≤140737488355328),.osl l,some (l,.row (.int .i64) (List.take (α:=Int) i.toNat xs++zs++List.drop (α:=Int) i.toNat xs),true)⟩|_=>none
  |_=>none
 |_=>none
def Mb(κ:Ar)(os:AF)(r:Option G1)(args:List V)(n:Nat):Option Ah:=match r with
 |none=>ZV os args|some ⟨T,false,ps,pre,fn⟩=>match CZ args with
  |none=>match Lg κ 3 ps args with|some ys=>some ⟨some (pre [] ys),.osl n,some (n,.row T (fn [] ys),false)⟩|none=>none
  |some _=>none
 |some ⟨T,true,ps,pre,fn⟩=>match args with
  |.osl l::rest=>match AA l os with
   |some (.row T' xs)=>if h:T'=T then match CZ rest with
    |none=>match Lg κ 3 ps rest with|some ys=>some ⟨some (pre (h▸xs) ys),.osl l,some (l,.row T (fn (h▸xs) ys),true)⟩|none=>none
    |some _=>none else none|_=>none
  |_=>none
inductive Mp where|clo(h:Nat)|lin(c:RP)
def fT(P:Program)(g:FuncId):Mp→Prop|.clo h=>RN P g h|.lin c=>RQ P g c
def Mz(κ:Ar)(f:V):Option Mp:=match f with
 |.fn (.func g) [] []=>match κ g with|some (.clo h)=>some (.clo h)|some (.lin c)=>some (.lin c)|_=>none
 |_=>none
def PL(κ:Ar)(h:Mp)(args:List V)(n:Nat):Option Ah:=match h with
 |.clo h=>match args with
  |[v]=>match v.solid with|true=>some ⟨none,.fn (.func h) [] [.er [v]],none⟩|false=>none
  |_=>none
 |.lin ⟨ps,pre,fn⟩=>match CZ args with
  |none=>match Lg κ 3 ps args with|some ys=>some ⟨some (pre ys),.agg [.osl n,.d (.int .i64) (fn ys).2],some (n,.row (.int .i64) (fn ys).1,false)⟩|none=>none
  |some _=>none
theorem gX{P:Program}{κ:Ar}(hκ:A3 P κ){f:V}{h:Mp}(hc:Mz κ f=some h):∃g,f=.fn (.func g) [] []∧fT P g h:=by
 unfold Mz at hc;split at hc
 ·rename_i g;split at hc;·rename_i h' hk;cases hc;exact⟨g,rfl,hκ g _ hk⟩
  ·rename_i c hk;cases hc;exact⟨g,rfl,hκ g _ hk⟩
  ·cases hc
 ·cases hc
def JI(τ:Ad)(κ:Ar)(op:Op)(tmps:List (Nat×V))(objs:AF)(nx:Nat):Option Ah:=match op with
 |.call {callee:=.value x,args,..}=>match Ma κ (Af tmps x)with|some r=>Mb κ objs r (BY tmps args.toList) nx|none=>match Mz κ (Af tmps x)with|some h=>PL κ h (BY tmps args.toList) nx|none=>match Mw κ objs (Af tmps x) (BY tmps args.toList)with|.ok ob v=>some ⟨ob,v,none⟩|_=>none
 |op=>NA τ op tmps objs nx
def MS(objs:AF)(vs:List V):List Nat:=match Je 9 objs vs with|some (_,ks)=>ks|none=>[]
def Mj(τ:Ad)(κ:Ar)(op:Op)(tmps:List (Nat×V))(objs:AF):List Nat:=match op with
 |.buildSlice t _ parts=>match τ t with
  |some ⟨.sl e,_,_,_,_⟩=>match τ e with|some ⟨_,_,_,_,some _⟩=>MS objs (BY tmps (parts.toList.map (·.2)))|_=>[]
  |_=>[]
 |.store _ a x=>match Af tmps a with
  |.rref l _ _=>match AA l objs with|some (.vrow ..)=>[]|_=>MS objs [Af tmps x]
  |_=>[]
 |.mapUpdate _ _ _ x=>MS objs [Af tmps x]|.call {callee:=.value x,args,..}=>match Ma κ (Af tmps x)with
  |some none=>[]|some (some r)=>match r.own with|false=>MS objs (BY tmps args.toList)|true=>MS objs (BY tmps args.toList).tail
  |none=>match Mz κ (Af tmps x)with|some (.lin _)=>MS objs (BY tmps args.toList)|some (.clo _)=>[]|none=>match Mw κ objs (Af tmps x) (BY tmps args.toList)with|.frz ks=>ks|_=>[]
 |_=>[]
def stepU(τ:Ad)(κ:Ar)(dst:Option Nat)(op:Op)(s:St):Option (Option Prop×St):=match s with|⟨nt,tmps,objs,nx,df,wr,di,mv⟩=>match freezeL (Mj τ κ op tmps objs) ⟨nt,tmps,objs,nx,df,wr,di,mv⟩with|⟨nt,tmps,objs,nx,df,wr,di,mv⟩=>match JI τ κ op tmps objs nx with|none=>none|some ⟨ob,v,ed⟩=>match JH nx df ed with|false=>none|true=>match(St.mk nt tmps objs nx df wr di mv).edit ed with|⟨nt,tmps,objs,nx,df,wr,di,mv⟩=>match(St.mk nt tmps objs nx df wr di mv).setT dst v with|none=>none|some s'=>some (ob,s')
def V.bare:V→V|.when _ v=>v|v=>v
def KD:List (Nat×V)→List (Nat×V)|[]=>[]|(t,v)::r=>(t,v.bare)::KD r
theorem UZ(t:Nat):∀l:List (Nat×V),AW t (KD l)=(AW t l).bare
 |[]=>rfl|(u,v)::l=>by
  rw[KD,CC,CC];split;·rfl
  ·exact UZ t l
def PO(tmps:List (Nat×V)):Operand→Option Bool
 |.tmp t=>match AW t tmps with|.when q _=>some q|_=>none
 |_=>none
def JE(tmps:List (Nat×V)):List Operand→List Bool|[]=>[]|x::l=>match PO tmps x with|some q=>q::JE tmps l|none=>JE tmps l
def Ra:List Bool→Prop→Prop|[],p=>p|q::l,p=>q=true∧Ra l p
def Lk(g:Bool)(qs:List Bool)(ob:Option Prop):Option Prop:=match qs with
 |[]=>match ob with|none=>none|some p=>some (g=true→p)
 |qs=>some (g=true→Ra qs (A0 ob))
theorem Rb{p:Prop}:∀{l:List Bool},Ra l p→p∧∀q∈l,q=true|[],h=>⟨h,λq hq=>by simp at hq⟩|q::l,h=>by obtain⟨h1,h2⟩:=Rb h.2;exact⟨h1,λr hr=>(List.mem_cons.1 hr).elim (λe=>e▸h.1) (h2 r)⟩
theorem NQ{g:Bool}{qs:List Bool}{ob:Option Prop}(h:A0 (Lk g qs ob))(hg:g=true):A0 ob∧∀q∈qs,q=true:=by cases qs with
 |nil=>cases ob with|none=>exact⟨trivial,λq hq=>by simp at hq⟩|some p=>exact Rb (l:=[]) (h hg)
 |cons q l=>exact Rb (l:=q::l) (h hg)
theorem Rz{tmps:List (Nat×V)}:∀{l:List Operand}{x:Operand},x∈l→∀q,PO tmps x=some q→q∈JE tmps l
 |y::l,x,hx,q,hq=>by
  rcases List.mem_cons.1 hx with rfl|hx;·simp only[JE,hq];exact ZCM
  ·have :=Rz hx q hq;simp only[JE];split;·exact zD _ this
   ·exact this
theorem WT{E:AH}{tmps:List (Nat×V)}{x:Operand}{c:Value}(r:Z P E (Af tmps x) c)(h:∀q,PO tmps x=some q→q=true):Z P E (Af (KD tmps) x) c:=by cases x with
 |tmp t=>show Z P E (AW t (KD tmps)) c;rw[UZ];have h':∀q v,AW t tmps=.when q v→q=true:=λq v e=>h q (by simp[PO,e]);change Z P E (AW t tmps) c at r;generalize AW t tmps=v at r h';cases v with
  |when q v=>cases r with|when h1 h2=>exact h1 (h' q v rfl)
  |_=>exact r
 |_=>exact r
def KC(u:Nat):List (Nat×V)→List (Nat×V)|[]=>[]|(t,v)::r=>match Nat.beq t u with|true=>(t,v.bare)::KC u r|false=>(t,v)::KC u r
theorem Z1(u t:Nat):∀l:List (Nat×V),AW t (KC u l)=if t=u then(AW t l).bare else AW t l
 |[]=>by simp only[KC];split<;>rfl|(k,v)::l=>by
  have ih:=Z1 u t l;simp only[KC];split
  ·rename_i hk;have hk:=yW hk;rw[CC,CC];split;·rename_i e;rw[yS (by omega)]
   ·exact ih
  ·rename_i hk;have hk:k≠u:=λe=>by rw[e,ZDn]at hk;cases hk
   rw[CC,CC];split;·rename_i e;rw[yP (by omega)]
   ·exact ih
def Mu(op:Op)(tmps:List (Nat×V)):List (Nat×V):=match op with
 |.pick c _ _=>match c with|.tmp u=>KC u tmps|_=>tmps
 |_=>KD tmps
def JF(op:Op)(tmps:List (Nat×V)):List Bool:=match op with|.pick c _ _=>JE tmps [c]|_=>JE tmps op.operands.toList
def NR(want:Bool)(v:V):Option Bool:=match v with
 |.d .bool b=>match want with|true=>some b|false=>some !b
 |.when q (.d .bool b)=>match want with|true=>some (q&&b)|false=>some (q&&!b)
 |_=>none
def NN(ops:List Oper)(j:Nat):Option Nat:=match ops[j]? with|some ⟨some d,_,_,_,_,_⟩=>some d|_=>none
def stepG(τ:Ad)(κ:Ar)(dst:Option Nat)(op:Op)(g:Bool)(s:St):Option (Option Prop×St):=match s with|⟨nt,tmps,objs,nx,df,wr,di,mv⟩=>match JI τ κ op (Mu op tmps) objs nx with
 |some ⟨ob,v,none⟩=>match(St.mk nt tmps objs nx df wr di mv).setT dst (.when g v)with|some s'=>some (Lk g (JF op tmps) ob,s')|none=>none
 |_=>none
theorem Rn{E:AH}{op:Op}{tmps:List (Nat×V)}{x:Operand}{c:Value}(hx:x∈op.operands)(r:Z P E (Af tmps x) c)(h:∀q∈JF op tmps,q=true):Z P E (Af (Mu op tmps) x) c:=by
 unfold Mu;split
 ·rename_i c0 a b;split;·rename_i u;cases x with
   |tmp t=>
    show Z P E (AW t (KC u tmps)) c;rw[Z1];split;·rename_i e;subst e;have :=WT r λq hq=>h q (Rz ZCM q hq);change Z P E (AW t (KD tmps)) c at this;rw[UZ]at this;exact this
    ·exact r|_=>exact r
  ·exact r
 ·rename_i hn;have e:JF op tmps=JE tmps op.operands.toList:=by
   unfold JF;split;·rename_i c0 a b;exact absurd rfl (hn c0 a b)
   ·rfl
  rw[e]at h;exact WT r λq hq=>h q (Rz (Array.mem_toList_iff.2 hx) q hq)
def fV(P:Program)(g:FuncId):Option G1→Prop|some r=>Ij P g r|none=>J0 P g
theorem uC(hκ:A3 P κ){f:V}{r:Option G1}(h:Ma κ f=some r):∃g,f=.fn (.func g) [] []∧fV P g r:=by
 unfold Ma at h;split at h
 ·rename_i g;split at h;·rename_i r' hk;cases h;exact⟨g,rfl,hκ g _ hk⟩
  ·rename_i hk;cases h;exact⟨g,rfl,hκ g _ hk⟩
  ·cases h
 ·cases h
theorem NJ{E:AH}{g:FuncId}{c:Value}(h:Z P E (.fn (.func g) [] []) c):c=.func (.func g) #[] #[]:=by
 obtain⟨p,q,rfl,k1,k2⟩:=Le h;have h1:p=#[]:=by have :=k1.1;simpa using this
 have h2:q=#[]:=by have :=k2.1;simpa using this
 rw[h1,h2]
theorem Bb.put{E:AH}{objs:AF}{l:Nat}{L K:AU}{T:Ty}{xs zs:List T.den}{w:World}(h:Bb P E L T xs w K zs)(g:AC P E objs)(AZ:AA l objs=some (.row T xs))(hL:E.loc l=some L):AC P (E.setL w l K) (edit objs (some (l,.row T zs,true)))∧BF E objs (E.setL w l K) (edit objs (some (l,.row T zs,true))) [l]:=by obtain⟨row,hw,B2,BG,CI,_⟩:=h;exact AC.put g (mv:=true) (o':=.row T zs) (L':=K) AZ hL hw B2 (λh=>by cases h) (BG _) CI
theorem bW(hκ:A3 P κ){f:V}{r:Option G1}(hr:Ma κ f=some r){os objs:AF}{args:List V}{n:Nat}{out:Ah}(h:Mb κ os r args n=some out)(hs:CG os objs)(ho:A0 out.ob){E:AH}(g:AC P E objs){c:Value}{cs:List Value}(rf:Z P E f c)(ra:AS P E args cs):∃gf,c=.func (.func gf) #[] #[]∧Bz P gf∧∃T,(∃zs,out.v=.osl n∧out.ed=some (n,.row T zs,false)∧Calls P gf cs.toArray E.w λe w2=>∃K,e=.returned K.v∧E.w.grownBy w2 none∧E.w.drawn≤w2.drawn∧(∀lo,Aj P ⟨w2,E.S,lo⟩ K (.row T zs))∧((Obj.row T zs).has K→E.w.heap.size≤K.b))∨∃l L xs zs,AA l os=some (.row T xs)∧E.loc l=some L∧out.v=.osl l∧out.ed=some (l,.row T zs,true)∧Calls P gf cs.toArray E.w λe w2=>∃K,e=.returned K.v∧Bb P E L T xs w2 K zs:=by obtain⟨gf,rfl,hok⟩:=uC hκ hr;have hcl:∀vs ds,CZ vs=none→AS P E vs ds→AS P ⟨E.w,E.S,λ_=>none⟩ vs ds:=λvs ds hf h=>M0 (E:=E) (E':=⟨E.w,E.S,λ_=>none⟩) (λb hb=>⟨hb,rfl⟩) h hf;match r,hok with
 |none,hok=>
  refine⟨gf,NJ rf,hok.1,.int .i64,?_⟩;unfold Mb ZV at h;simp only at h;split at h
  ·rename_i l i k;split at h;·cases h
   ·rename_i Ab;split at h
    ·rename_i xs hl;split at h;·rename_i zs hk;cases h;obtain⟨h0,h1,h2⟩:=ho;match cs,ra with|[a,b,c],ra=>obtain⟨L,hL,rfl⟩:=E8 ra.head;have e:=ra.tail.head.int_inv;subst e;obtain⟨K,hK,rfl⟩:=E8 ra.tail.tail.head;exact .inr ⟨l,L,xs,_,hl,hL,rfl,rfl,hok.2 E objs l k L K xs zs i g (hs l _ hl) (hs k _ hk) (ZAt Ab) hL hK h0 h1 h2⟩|[],ra=>exact absurd ra.1 (by simp)|[_],ra=>exact absurd ra.1 (by simp)|[_,_],ra=>exact absurd ra.1 (by simp)|_::_::_::_::_,ra=>exact absurd ra.1 (by simp)
     ·cases h
    ·cases h
  ·cases h|some ⟨T,false,ps,pre,fn⟩,hok=>
  refine⟨gf,NJ rf,hok.1,T,?_⟩;unfold Mb at h;simp only at h;split at h
  ·rename_i hk;split at h;·rename_i ys Dv;cases h;exact .inl ⟨_,rfl,rfl,hok.2 E.w E.S ys g.sok ho _ (NO hκ 3 _ _ _ _ _ Dv (by simpa using hcl _ _ hk ra))⟩
   ·cases h
  ·cases h|some ⟨T,true,ps,pre,fn⟩,hok=>
  refine⟨gf,NJ rf,hok.1,T,?_⟩;unfold Mb at h;simp only at h;split at h
  ·rename_i l rest;split at h
   ·rename_i T' xs AZ;split at h
    ·rename_i hT;subst hT;split at h
     ·rename_i hk;split at h;·rename_i ys Dv;cases h;match cs,ra with|[],ra=>exact absurd ra.1 (by simp)|c::cs,ra=>obtain⟨L,hL,rfl⟩:=E8 ra.head;exact .inr ⟨l,L,xs,_,AZ,hL,rfl,rfl,hok.2 E objs l L xs ys g (hs l _ AZ) hL ho cs (NO hκ 3 _ _ _ _ _ Dv (hcl _ _ hk ra.tail))⟩
      ·cases h
     ·cases h
    ·cases h
   ·cases h
  ·cases h
theorem Mx{r:Option Nat}{o:Oper}{a:Act}{x:Operand}{args:Array Operand}{tys:Array TypeId}(B1:o.op=.call {callee:=.value x,args,argTypes:=tys}){gf:FuncId}(hx:a.eval x=.func (.func gf) #[] #[])(hc:Bz P gf){E:AH}{R:Ending→World→Prop}(h:Calls P gf (args.toList.map a.eval).toArray E.w R){next:Act→World→Prop}{Q:DV}(hn:∀e w2,R e w2→∃u,e=.returned u∧next (a.put o.dst u) w2):o.wpIn (fz r) 0 P a E.w next Q:=by
 refine⟨λ_ _=>trivial,?_⟩;rw[ZCD _ _ _ λc=>by rw[B1];simp,Rs B1 hc hx,ZC4];refine⟨λh=>by simp[fz,Fence.wide]at h,Pn ?_⟩;have e3:Calls P gf (#[]++args.map a.eval++#[]) E.w R:=by have :(args.toList.map a.eval).toArray=args.map a.eval:=ZC5 (by rw[ZB9]);rw[this]at h;simpa using h
 refine ZAh e3 ?_;intro e w2 hR;obtain⟨u,rfl,hu⟩:=hn e w2 hR;exact hu
theorem uD(hκ:A3 P κ){r:Option Nat}{o:Oper}{a:Act}{x:Operand}{args:Array Operand}{tys:Array TypeId}(B1:o.op=.call {callee:=.value x,args,argTypes:=tys}){tmps:List (Nat×V)}{rc:Option G1}{out:Ah}{n:Nat}{os objs:AF}{E:AH}(hr:Ma κ (Af tmps x)=some rc)(h:Mb κ os rc (BY tmps args.toList) n=some out)(ho:A0 out.ob)(hs:CG os objs)(g:AC P E objs)(hf:E.loc n=none)(hx:Z P E (Af tmps x) (a.eval x))(T7:∀y∈args.toList,Z P E (Af tmps y) (a.eval y)):Ih P r o a E objs out:=by
 intro next Q hn;obtain⟨gf,e1,e2,T,e3⟩:=bW hκ hr h hs ho g hx (Jg T7);rcases e3 with⟨zs,h1,h2,hc⟩|⟨l,L,xs,zs,h0,hL,h1,h2,hc⟩;·refine Mx B1 e1 e2 hc ?_;rintro e w2⟨K,rfl,hg,hd,hat,CI⟩;obtain⟨g',st⟩:=AC.push g (w:=w2) (l:=n) (L:=K) (o:=.row T zs) hf hg (hat _) CI;rw[h1,h2]at hn;exact⟨_,rfl,hn (E.setL w2 n K) K.v g' st hd (.osl (Bi _ _ _ _))⟩
 ·refine Mx B1 e1 e2 hc ?_;rintro e w2⟨K,rfl,hA⟩;obtain⟨g',st⟩:=hA.put g (hs l _ h0) hL;have hd:E.w.drawn≤w2.drawn:=by obtain⟨_,_,_,_,_,h⟩:=hA;exact h
  rw[h1,h2]at hn;exact⟨_,rfl,hn (E.setL w2 l K) K.v g' st hd (.osl (Bi _ _ _ _))⟩
theorem gY(hκ:A3 P κ){r:Option Nat}{o:Oper}{a:Act}{x:Operand}{args:Array Operand}{tys:Array TypeId}(B1:o.op=.call {callee:=.value x,args,argTypes:=tys}){tmps:List (Nat×V)}{h:Mp}{out:Ah}{objs:AF}{E:AH}{n:Nat}(hc:Mz κ (Af tmps x)=some h)(ho:PL κ h (BY tmps args.toList) n=some out)(Cu:A0 out.ob)(g:AC P E objs)(hf:E.loc n=none)(hx:Z P E (Af tmps x) (a.eval x))(T7:∀y∈args.toList,Z P E (Af tmps y) (a.eval y)):Ih P r o a E objs out:=by
 intro next Q hn;have ra:AS P E (BY tmps args.toList) (args.toList.map a.eval):=Jg T7;obtain⟨gf,hf',hok⟩:=gX hκ hc;rw[hf']at hx;unfold PL at ho;split at ho
 ·rename_i h;have hok:RN P gf h:=hok;split at ho
  ·rename_i v hv;rw[hv]at ra;split at ho;·rename_i hs;cases ho;obtain⟨c,hcs,rc⟩:=ra.single;refine Mx (R:=λe w2=>∃u E',e=.returned u∧E'.w=w2∧AC P E' objs∧BF E objs E' objs []∧E.w.drawn≤w2.drawn∧Z P E' (.fn (.func h) [] [.er [v]]) u) B1 (NJ hx) hok.1 (by rw[hcs];exact hok.2 E objs v c g hs rc) ?_;rintro e w2⟨u,E',rfl,rfl,g',st,hd,hu⟩;exact⟨u,rfl,hn E' u g' st hd hu⟩
   ·cases ho
  ·cases ho
 ·rename_i ps pre fn;have hok:RQ P gf ⟨ps,pre,fn⟩:=hok;split at ho
  ·rename_i hk;split at ho;·rename_i ys Dv;cases ho;have hcl:AS P ⟨E.w,E.S,λ_=>none⟩ (BY tmps args.toList) (args.toList.map a.eval):=M0 (E:=E) (E':=⟨E.w,E.S,λ_=>none⟩) (λb hb=>⟨hb,rfl⟩) ra hk;refine Mx (R:=λe w2=>∃u E',e=.returned u∧E'.w=w2∧AC P E' ((n,.row (.int .i64) (fn ys).1)::objs)∧BF E objs E' ((n,.row (.int .i64) (fn ys).1)::objs) []∧E.w.drawn≤w2.drawn∧Z P E' (.agg [.osl n,.d (.int .i64) (fn ys).2]) u) B1 (NJ hx) hok.1 (hok.2 E objs n ys g hf Cu _ (NO hκ 3 _ _ _ _ _ Dv (by simpa using hcl))) ?_;rintro e w2⟨u,E',rfl,rfl,g',st,hd,hu⟩;exact⟨u,rfl,hn E' u g' st hd hu⟩
   ·cases ho
  ·cases ho
theorem Pd(hτ:A6 P τ)(hκ:A3 P κ){r:Option Nat}{o:Oper}{tmps:List (Nat×V)}{os objs:AF}{nx:Nat}{out:Ah}{E:AH}{a:Act}(h:JI τ κ o.op tmps os nx=some out)(hs:CG os objs)(ho:A0 out.ob)(g:AC P E objs)(hf:E.loc nx=none)(hr:∀x∈o.op.operands,Z P E (Af tmps x) (a.eval x)):Ih P r o a E objs out:=by
 have plain:(∀x args tys,o.op≠.call {callee:=.value x,args,argTypes:=tys})→NA τ o.op tmps os nx=some out→Ih P r o a E objs out:=λhn he=>(kL hτ he hs ho g hf hr λ_=>rfl).did λc e=>by rw[e]at he;cases he
 unfold JI at h;split at h
 ·rename_i x args tys B1;split at h;·rename_i rc Bc;exact uD hκ B1 Bc h ho hs g hf (hr x (by rw[B1];simp[Op.operands,Call.operands])) λy hy=>hr y (by rw[B1];simp only[Op.operands,Call.operands];simp[Array.mem_toList_iff.1 hy])
  ·split at h;·rename_i k hk;exact gY hκ B1 hk h ho g hf (hr x (by rw[B1];simp[Op.operands,Call.operands])) λy hy=>hr y (by rw[B1];simp only[Op.operands,Call.operands];simp[Array.mem_toList_iff.1 hy])
   ·split at h;·rename_i ob v hc;cases h;exact call_did' hκ B1 hc hs ho g λy hy=>hr y (by rw[B1];exact hy)
    ·cases h
 ·rename_i hn;exact plain (λx args tys e=>hn x args tys e) h where call_did'{κ:Ar}(hκ:A3 P κ){E:AH}{os objs:AF}{r:Option Nat}{o:Oper}{a:Act}{x:Operand}{args:Array Operand}{tys:Array TypeId}(B1:o.op=.call {callee:=.value x,args,argTypes:=tys}){tmps:List (Nat×V)}{ob:Option Prop}{v:V}(h:Mw κ os (Af tmps x) (BY tmps args.toList)=.ok ob v)(hs:CG os objs)(ho:A0 ob)(g:AC P E objs)(hr:∀y∈(Op.call {callee:=.value x,args,argTypes:=tys}).operands,Z P E (Af tmps y) (a.eval y)):Ih P r o a E objs ⟨ob,v,none⟩:=gV hκ B1 h ho hs g (hr x (by simp[Op.operands,Call.operands])) λy hy=>hr y (by simp only[Op.operands,Call.operands];simp[Array.mem_toList_iff.1 hy])
theorem vC(hτ:A6 P τ)(hκ:A3 P κ){r:Option Nat}{cx:Cx}{o:Oper}{s s':St}{ob:Option Prop}{a:Act}{w:World}(h:stepU τ κ o.dst o.op s=some (ob,s'))(ho:A0 ob)(hr:Av P cx s a w){next:Act→World→Prop}{Q:DV}(hn:∀a' w',Av P cx s' a' w'→next a' w'):o.wpIn (fz r) 0 P a w next Q:=by
 obtain⟨nt,tmps,objs,nx,df,wr,di,mv⟩:=s;unfold stepU at h;simp only at h;have hr':=eG (P:=P) (cx:=cx) (Mj τ κ o.op tmps objs) _ a w hr;revert h hr';generalize freezeL (Mj τ κ o.op tmps objs) ⟨nt,tmps,objs,nx,df,wr,di,mv⟩=s1;obtain⟨nt,tmps,objs,nx,df,wr,di,mv⟩:=s1;rintro h⟨E,rfl,r1⟩;simp only at h;split at h;·cases h
 ·rename_i ob' v ed he;split at h;·cases h
  ·rename_i Aw;revert h;generalize Eb:(St.mk nt tmps objs nx df wr di mv).edit ed=s2;obtain⟨nt2,Jv,OO,nx2,df2,wr2,di2,mv2⟩:=s2;intro h;simp only at h;split at h;·cases h
   ·rename_i s3 Kj;cases h;refine Pd hτ hκ he (λ_ _ h=>h) ho r1.good (r1.fresh nx (zB _)) (λx _=>In r1.rep x) _ Q λE' u k1 k2 kd k3=>hn _ _ ⟨E',rfl,?_⟩;rw[←Eb]at Kj;exact A5.setT (A5.edit r1 Aw kd k1 k2) Kj k3
theorem AR.stepU{dst:Option Nat}{op:Op}{s s':St}{ob:Option Prop}(h:stepU τ κ dst op s=some (ob,s')):AR s s':=by
 obtain⟨nt,tmps,objs,nx,df,wr,di,mv⟩:=s;unfold YtldikbpclaeajaaGreatDoor.stepU at h;simp only at h;have hi:=AR.freezeL (Mj τ κ op tmps objs) ⟨nt,tmps,objs,nx,df,wr,di,mv⟩;revert h hi;generalize YtldikbpclaeajaaGreatDoor.freezeL (Mj τ κ op tmps objs) ⟨nt,tmps,objs,nx,df,wr,di,mv⟩=s1;obtain⟨nt,tmps,objs,nx,df,wr,di,mv⟩:=s1;intro h hi;simp only at h;split at h;·cases h
 ·rename_i ob' v ed _;split at h;·cases h
  ·revert h;generalize Eb:(St.mk nt tmps objs nx df wr di mv).edit ed=s2;have hj:=AR.edit (St.mk nt tmps objs nx df wr di mv) ed;rw[Eb]at hj;obtain⟨nt2,Jv,OO,nx2,df2,wr2,di2,mv2⟩:=s2;intro h;simp only at h;split at h;·cases h
   ·rename_i s3 Kj;cases h;exact(hi.trans hj).trans (AR.setT Kj)
theorem eA{E:AH}{ops:Array Oper}{o:Oper}{j gd:Nat}{want g:Bool}{v:V}{a:Act}(hg:o.guard=some (j,want))(Gs:NN ops.toList j=some gd)(hv:NR want v=some g)(rg:Z P E v (a.tmps.getD gd undef)):Region.wanted o (yielded ops a.tmps)=g:=by
 have nJ:(ops[j]?).bind (·.dst)=some gd:=by
  unfold NN at Gs;split at Gs;·rename_i h;cases Gs;rw[ZAR]at h;rw[h];rfl
  ·cases Gs
 have hy:yielded ops a.tmps j=match a.tmps[gd]? with|some (.bool b)=>some b|_=>none:=by unfold yielded;rw[nJ];rfl
 simp only[Region.wanted,hg,hy];have A4:a.tmps.getD gd undef=(a.tmps[gd]?).getD undef:=by rw[zH]
 rw[A4]at rg;unfold NR at hv;split at hv;·rename_i b;have :=rg.bool_inv;cases hq:a.tmps[gd]? with|none=>rw[hq]at this;cases this|some c=>rw[hq]at this;simp at this;subst this;cases b<;>cases want<;>cases hv<;>rfl
 ·rename_i q b;cases rg with|when k1 k2=>cases q with
  |true=>have :=(k1 rfl).bool_inv;cases hq:a.tmps[gd]? with|none=>rw[hq]at this;cases this|some c=>rw[hq]at this;simp at this;subst this;cases b<;>cases want<;>cases hv<;>rfl
  |false=>have :=k2 rfl;cases hq:a.tmps[gd]? with|none=>cases want<;>cases hv<;>rfl|some c=>rw[hq]at this;simp at this;subst this;cases want<;>cases hv<;>rfl
 ·cases hv
theorem vB(hτ:A6 P τ)(hκ:A3 P κ){r:Option Nat}{cx:Cx}{o:Oper}{s s':St}{ob:Option Prop}{g:Bool}{a:Act}{w:World}(h:stepG τ κ o.dst o.op g s=some (ob,s'))(ho:A0 ob)(hr:Av P cx s a w){next:Act→World→Prop}{Q:DV}(hn:∀a' w',Av P cx s' a' w'→next a' w'):(g=true→o.wpIn (fz r) 0 P a w next Q)∧(g=false→next (a.put o.dst undef) w):=by
 obtain⟨nt,tmps,objs,nx,df,wr,di,mv⟩:=s;unfold stepG at h;simp only at h;split at h
 ·rename_i ob' v he;split at h
  ·rename_i s3 Kj;cases h;obtain⟨E,rfl,r1⟩:=hr;refine⟨λhg=>?_,λhg=>?_⟩;·obtain⟨k0,kc⟩:=NQ ho hg;refine Pd hτ hκ he (λ_ _ h=>h) k0 r1.good (r1.fresh nx (zB _)) (λx hx=>Rn hx (In r1.rep x) kc) _ Q λE' u k1 k2 kd k3=>hn _ _ ⟨E',rfl,?_⟩;exact A5.setT (A5.edit (ed:=none) r1 rfl kd k1 k2) Kj (.when (λ_=>k3) λe=>by rw[hg]at e;cases e)
   ·exact hn _ _ ⟨E,rfl,A5.setT r1 Kj (.when (λe=>by rw[hg]at e;cases e) λ_=>rfl)⟩
  ·cases h
 ·cases h
theorem AR.stepG{dst:Option Nat}{op:Op}{g:Bool}{s s':St}{ob:Option Prop}(h:stepG τ κ dst op g s=some (ob,s')):AR s s':=by
 obtain⟨nt,tmps,objs,nx,df,wr,di,mv⟩:=s;unfold YtldikbpclaeajaaGreatDoor.stepG at h;simp only at h;split at h
 ·split at h;·rename_i hs;cases h;exact AR.setT hs
  ·cases h
 ·cases h
end
section
variable {P : Program} {τ : Ad} {κ : Ar}
def KA(ob:Option Prop)(k:Prop):Prop:=match ob with|none=>k|some p=>p∧k
theorem Rf{ob:Option Prop}{k:Prop}(h:KA ob k):A0 ob∧k:=by cases ob with|none=>exact⟨trivial,h⟩|some p=>exact h
def Be(n:Nat):List Nat→Bool|[]=>false|m::l=>match Nat.beq m n with|true=>true|false=>Be n l
theorem Eg{n:Nat}:∀{l:List Nat},Be n l=true↔n∈l
 |[]=>by simp[Be]|m::l=>by
  simp only[Be,zO];split;·rename_i h;exact⟨λ_=>.inl (yW h).symm,λ_=>rfl⟩
  ·rename_i h;rw[Eg (l:=l)];exact⟨.inr,λh'=>h'.elim (λe=>absurd e.symm (ZAt h)) id⟩
abbrev XT:=Oper→St→(St→Prop)→Prop
def Mq(P:Program)(r:Option Nat)(cx:Cx)(X:XT):Prop:=∀(o:Oper)(s:St)(k:St→Prop)(a:Act)(w:World)(next:Act→World→Prop)(Q:DV),o.guard=none→X o s k→Av P cx s a w→(∀s' a' w',AR s s'→k s'→Av P cx s' a' w'→next a' w')→o.wpIn (fz r) 0 P a w next Q
def Ei(τ:Ad)(κ:Ar)(X:XT)(ops:List Oper):List Oper→List Nat→St→(St→Prop)→Prop|[],_,s,k=>k s|⟨dst,op,ty,po,af,guard⟩::l,kn,s,k=>match guard with
 |none=>match stepU τ κ dst op s with|some (ob,s')=>KA ob (Ei τ κ X ops l kn s' k)|none=>X ⟨dst,op,ty,po,af,none⟩ s λs'=>Ei τ κ X ops l kn s' k
 |some (j,want)=>match NN ops j with|none=>False|some gd=>match AW gd s.tmps with|v=>match NR want v with|none=>False|some g=>match Be j kn with|true=>cond g (match stepU τ κ dst op s with|some (ob,s')=>KA ob (Ei τ κ X ops l kn s' k)|none=>X ⟨dst,op,ty,po,af,none⟩ s λs'=>Ei τ κ X ops l kn s' k) (match s.setT dst .any with|some s'=>Ei τ κ X ops l kn s' k|none=>False)|false=>match stepG τ κ dst op g s with|some (ob,s')=>KA ob (Ei τ κ X ops l kn s' k)|none=>match v with
  |.d .bool b=>cond g (match s.setT (some gd) (.d .bool want)with
   |some s1=>match stepU τ κ dst op s1 with|some (ob,s')=>KA ob (Ei τ κ X ops l (j::kn) s' k)|none=>X ⟨dst,op,ty,po,af,none⟩ s1 λs'=>Ei τ κ X ops l (j::kn) s' k
   |none=>False) (match s.setT (some gd) (.d .bool !want)with
   |some s1=>match s1.setT dst .any with|some s'=>Ei τ κ X ops l (j::kn) s' k|none=>False
   |none=>False)|_=>False
theorem wA{F:Fence}{n:Nat}{o:Oper}{g:Option (Nat×Bool)}{a:Act}{w:World}{next:Act→World→Prop}{Q:DV}(h:Oper.wpIn F n P {o with guard:=g} a w next Q):o.wpIn F n P a w next Q:=h
theorem Av.setT_same{cx:Cx}{s s':St}{a:Act}{w:World}{d:Nat}{v:V}(hr:Av P cx s a w)(h:s.setT (some d) v=some s')(hv:∀E,A5 P cx s a E→Z P E v (a.tmps.getD d undef)):Av P cx s' a w:=by
 obtain⟨E,rfl,r⟩:=hr;refine⟨E,rfl,?_⟩;have :=A5.setT r h (hv E r);have hd:d<a.tmps.size:=by
  unfold St.setT at h;split at h;·rename_i he;cases he
  ·rename_i d' he;cases he;split at h;·rename_i AY;have h0:d<s.nt:=zW AY;have h1:=r.size;omega
   ·cases h
 have e:a.put (some d) (a.tmps.getD d undef)=a:=by
  obtain⟨t,ds⟩:=a;simp only[Act.put];congr 1;apply Array.ext (by simp);intro i h1 h2;rw[Array.getElem_setIfInBounds];split;·rename_i e;subst e;rfl
  ·rfl
 rwa[e]at this
theorem Us(hτ:A6 P τ)(hκ:A3 P κ){r:Option Nat}{cx:Cx}{X:XT}(hX:Mq P r cx X){ops:Array Oper}{Q:DV}:∀{l:List Oper}{is:List Nat}{kn:List Nat}{s:St}{k:St→Prop}{a:Act}{w:World},l.map some=is.map (λi=>ops[i]?)→Ei τ κ X ops.toList l kn s k→Av P cx s a w→(∀s' a' w',AR s s'→k s'→Av P cx s' a' w'→Q .normal a' w')→wpOpsIn (fz r) 0 P ops Q is a w
  |[],[],_,s,k,a,w,_,h,hr,hk=>hk s a w (.refl s) h hr|[],_::_,_,_,_,_,_,h,_,_,_=>by simp at h|_::_,[],_,_,_,_,_,h,_,_,_=>by simp at h|⟨dst,op,ty,po,af,guard⟩::l,i::is,kn,s,k,a,w,hl,h,hr,hk=>by
    simp only[ZAK,ZBg]at hl;have hi:ops[i]?=some ⟨dst,op,ty,po,af,guard⟩:=hl.1.symm;have hl':=hl.2;rw[wpOpsIn_cons];unfold wpOpIn;rw[hi];simp only;have next:∀(kn':List Nat)(s':St),AR s s'→Ei τ κ X ops.toList l kn' s' k→∀a' w',Av P cx s' a' w'→wpOpsIn (fz r) 0 P ops Q is a' w':=λkn' s' hi' h' a' w' hr'=>Us hτ hκ hX hl' h' hr' λs'' a'' w'' hj h'' hr''=>hk s'' a'' w'' (hi'.trans hj) h'' hr'';have run:∀(kn':List Nat)(s1:St),AR s s1→Av P cx s1 a w→(match YtldikbpclaeajaaGreatDoor.stepU τ κ dst op s1 with|some (ob,s')=>KA ob (Ei τ κ X ops.toList l kn' s' k)|none=>X ⟨dst,op,ty,po,af,none⟩ s1 λs'=>Ei τ κ X ops.toList l kn' s' k)→Oper.wpIn (fz r) 0 P ⟨dst,op,ty,po,af,guard⟩ a w (wpOpsIn (fz r) 0 P ops Q is) Q:=by
      intro kn' s1 hi1 hr1 h1;split at h1;·rename_i ob s' hs;obtain⟨ho,h2⟩:=Rf h1;exact vC (o:=⟨dst,op,ty,po,af,guard⟩) hτ hκ hs ho hr1 (next kn' s' (hi1.trans (AR.stepU hs)) h2)
      ·exact wA (g:=none) (hX ⟨dst,op,ty,po,af,none⟩ s1 _ a w _ Q rfl h1 hr1 λs' a' w' hj h2 N2=>next kn' s' (hi1.trans hj) h2 a' w' N2)
    cases guard with|none=>simp only[Ei]at h;rw[yS (by simp[Region.wanted])];exact run kn s (.refl s) hr h|some jw=>
      obtain⟨j,want⟩:=jw;simp only[Ei]at h;split at h;·exact h.elim
      · rename_i gd Gs;split at h;·exact h.elim
        · rename_i g hg;have hw:Region.wanted ⟨dst,op,ty,po,af,some (j,want)⟩ (yielded ops a.tmps)=g:=by obtain⟨E,_,r1⟩:=id hr;exact eA rfl Gs hg (r1.rep gd)
          rw[hw];have skip:∀(kn':List Nat)(s1 s':St),AR s s1→Av P cx s1 a w→s1.setT dst .any=some s'→Ei τ κ X ops.toList l kn' s' k→(∀f,Oper.about P w a.eval ⟨dst,op,ty,po,af,some (j,want)⟩=some f→(fz r).fn f)∧wpOpsIn (fz r) 0 P ops Q is (a.put dst undef) w:=λkn' s1 s' hi1 hr1 hs h1=>⟨λ_ _=>trivial,by obtain⟨E,rfl,r1⟩:=hr1;exact next kn' s' (hi1.trans (AR.setT hs)) h1 _ _ ⟨E,rfl,A5.setT r1 hs (.any _)⟩⟩;split at h;·cases g with|true=>exact run kn s (.refl s) hr h|false=>
              simp only[yN]at h;rw[yP (by simp)];split at h;·rename_i s' hs;exact skip kn s s' (.refl s) hr hs h
              ·exact h.elim
          · split at h;·rename_i ob s' hs;obtain⟨ho,h2⟩:=Rf h;have :=vB (o:=⟨dst,op,ty,po,af,some (j,want)⟩) (r:=r) (Q:=Q) hτ hκ hs ho hr (next kn s' (AR.stepG hs) h2);cases g with|true=>exact this.1 rfl|false=>rw[yP (by simp)];exact⟨λ_ _=>trivial,this.2 rfl⟩
            · split at h
              · rename_i b hb;have Yk:g=true∧b=want∨g=false∧b=!want:=by rw[hb]at hg;simp only[NR]at hg;cases want<;>cases b<;>cases hg<;>simp
                cases g with
                |true=>
                  simp only[yR]at h;have e:b=want:=by simpa using Yk
                  split at h;·rename_i s1 C8;exact run (j::kn) s1 (AR.setT C8) (hr.setT_same C8 λE r1=>by have :=r1.rep gd;rw[hb,e]at this;exact this) h
                  ·exact h.elim|false=>
                  simp only[yN]at h;have e:b=!want:=by simpa using Yk
                  rw[yP (by simp)];split at h
                  · rename_i s1 C8;split at h;·rename_i s' hs';exact skip (j::kn) s1 s' (AR.setT C8) (hr.setT_same C8 λE r1=>by have :=r1.rep gd;rw[hb,e]at this;exact this) hs' h
                    ·exact h.elim
                  ·exact h.elim
              ·exact h.elim
end
section
variable {P : Program} {τ : Ad} {κ : Ar}
def AH.cut(E:AH)(n:Nat):AH:=⟨E.w,E.S,λl=>if l<n then E.loc l else none⟩
theorem He{E:AH}{n l:Nat}{L:AU}(h:E.loc l=some L)(hl:l<n):(E.cut n).loc l=some L:=by simp only[AH.cut,yS hl,h]
def H1(P:Program)(n:Nat)(v:V):Prop:=∀E c,Z P E v c→Z P (E.cut n) v c
theorem H1.of{E0:AH}{n:Nat}(hf:∀l,n≤l→E0.loc l=none){v:V}{c0:Value}(r:Z P E0 v c0):H1 P n v:=by
 have AY:∀{l L},E0.loc l=some L→l<n:=λ{l L}h=>ZBb λhle=>by rw[hf l hle]at h;cases h
 induction r with
 |any v=>exact λE c _=>.any c|d hc=>intro E c r;cases r with|d h=>exact .d h
 |nilp=>intro E c r;cases r;exact .nilp|nilf=>intro E c r;cases r;exact .nilf|nils a=>intro E c r;cases r with|nils a=>exact .nils a
 |nilm=>intro E c r;cases r;exact .nilm|fn h1 h2 _ _ i1 i2=>intro E c r;cases r with|fn k1 k2 k3 k4=>exact .fn k1 k2 (λj hj=>i1 j hj _ _ (k3 j hj)) λj hj=>i2 j hj _ _ (k4 j hj)
 |agg h1 _ i1=>intro E c r;cases r with|agg k1 k2=>exact .agg k1 λj hj=>i1 j hj _ _ (k2 j hj)
 |tup h1 _ i1=>intro E c r;cases r with|tup k1 k2=>exact .tup k1 λj hj=>i1 j hj _ _ (k2 j hj)
 |er c hb hc _ i=>intro E c r;cases r with|er c' k1 k2 k3=>exact .er c' k1 k2 λj hj=>i j hj _ _ (k3 j hj)
 |ref k=>intro E c r;cases r with|ref h=>exact .ref (He h (AY k))
 |rref k=>intro E c r;cases r with|rref h=>exact .rref (He h (AY k))
 |osl k=>intro E c r;cases r with|osl h=>exact .osl (He h (AY k))
 |osp k kp=>intro E c r;cases r with|osp h hp=>exact .osp (He h (AY k)) hp
 |map k=>intro E c r;cases r with|map h=>exact .map (He h (AY k))
 |when h1 h2 i1=>intro E c r;cases r with|when k1 k2=>exact .when (λe=>i1 e _ _ (k1 e)) k2
 |opt h1 h2 i1=>intro E c r;cases r with|opt k1 k2=>exact .opt (λe=>i1 e _ _ (k1 e)) k2
 |pf k=>intro E c r;cases r with|pf h=>exact .pf h
 |yl k=>intro E c r;cases r with|yl h=>exact .yl (He h (AY k))
 |bsl k=>intro E c r;cases r with|bsl h=>exact .bsl (He h (AY k))
def J1(P:Program)(n:Nat)(o:Obj):Prop:=∀E L,Aj P E L o→Aj P (E.cut n) L o
theorem cK{E0:AH}{n:Nat}(hf:∀l,n≤l→E0.loc l=none){t:Ty}{xs:List (List t.den)}{s:List V}{m:Nat}{L0:AU}(h:Aj P E0 L0 (.vrow t xs s m)):∀j,j<s.length→H1 P n (s.getD j .any):=by
 intro j hj;obtain⟨h1,h2,h3,e',cs',h4,h5|⟨cur',h5,h6,h7,h8,h9,BX,Db,DK,FN⟩⟩:=h;·rw[h5.2]at h3;omega
 ·exact H1.of hf (DK j hj)
theorem J1.vrow{n:Nat}{t:Ty}{xs:List (List t.den)}{s:List V}{m:Nat}(h:∀j,j<s.length→H1 P n (s.getD j .any)):J1 P n (.vrow t xs s m):=by
 intro E L k;obtain⟨k1,k2,k3,e,cs,k4,k5⟩:=k;refine⟨k1,k2,k3,e,cs,k4,?_⟩;rcases k5 with k5|⟨cur,k5,k6,k7,k8,k9,k10,k11,k12,k13⟩;·exact .inl k5
 ·exact .inr ⟨cur,k5,k6,k7,k8,k9,k10,k11,λj hj=>h j hj _ _ (k12 j hj),k13⟩
theorem J1.of{E0:AH}{n:Nat}(hf:∀l,n≤l→E0.loc l=none){o:Obj}{L0:AU}(h:Aj P E0 L0 o):J1 P n o:=by intro E L k;cases o with|dead=>trivial|box cs=>obtain⟨_,_,_,_,h3⟩:=h;obtain⟨vals,t,k1,k2,k3⟩:=k;exact⟨vals,t,k1,k2,λj hj=>H1.of hf (h3 j hj) _ _ (k3 j hj)⟩|row t xs=>exact k|vrow t xs s m=>exact J1.vrow (cK hf h) E L k|smap t m=>exact k|imap t m=>exact k|lrec nt tmps ps a b st j=>obtain⟨_,_,_,h3,_⟩:=h;obtain⟨r,k1,k2,k3,k4⟩:=k;exact⟨r,k1,k2,λt=>H1.of hf (h3 t) _ _ (k3 t),k4⟩|dfb=>exact k
theorem DU.cut{E0 E:AH}{n:Nat}(hf:∀l,n≤l→E0.loc l=none):∀{df:List Df}{d0 ds:List Deferred},DU P E0 df d0→DU P E df ds→DU P (E.cut n) df ds|[],_,_,_,h=>h|.mark l::r,_,_,⟨_,_,_,⟨K0,h2,_⟩,h3⟩,⟨L,rest,k1,⟨K,k2,k3⟩,k4⟩=>⟨L,rest,k1,⟨K,He k2 (ZBb λhle=>by rw[hf l hle]at h2;cases h2),k3⟩,h3.cut hf k4⟩|.fn g cs::r,_,_,⟨_,_,_,h2,h3⟩,⟨q,rest,k1,k2,k3⟩=>⟨q,rest,k1,⟨k2.1,λj hj=>H1.of hf (h2.2 j hj) _ _ (k2.2 j hj)⟩,h3.cut hf k3⟩
inductive Vy where|t(t:Nat)(T:Ty)|cell(l j:Nat)(T:Ty)|row(l:Nat)(T:Ty)|vrow(l:Nat)(T:Ty)(k:Option Nat)|smap(l:Nat)(T:Ty)|imap(l:Nat)(T:Ty)
@[reducible]def Vy.den:Vy→Type|.t _ T=>T.den|.cell _ _ T=>T.den|.row _ T=>List T.den|.vrow _ T _=>List (List T.den)×Nat|.smap _ T=>ByteArray→Option T.den|.imap _ T=>Int→Option T.den
@[reducible]def DZ:List Vy→Type|[]=>Unit|[v]=>v.den|v::u::l=>v.den×DZ (u::l)
structure LA where
 vs:List Vy
 es:List Nat
 an:List Nat
 dd:List Nat
def KK(l j:Nat):(v:Vy)→v.den→Option V
 |.cell k i T,y=>match Nat.beq k l with
  |true=>match Nat.beq i j with|true=>some (Gj T y)|false=>none
  |false=>none
 |_,_=>none
def cJ:Option Nat→List V|none=>[]|some k=>[.osl k]
def GK(l:Nat):(v:Vy)→v.den→Option Obj
 |.row k T,y=>match Nat.beq k l with|true=>some (.row T y)|false=>none
 |.vrow k T so,y=>match Nat.beq k l with|true=>some (.vrow T y.1 (cJ so) y.2)|false=>none
 |.smap k T,y=>match Nat.beq k l with|true=>some (.smap T y)|false=>none
 |.imap k T,y=>match Nat.beq k l with|true=>some (.imap T y)|false=>none
 |_,_=>none
def GL{α:Type}(f:(v:Vy)→v.den→Option α):(vs:List Vy)→DZ vs→Option α|[],_=>none|[v],y=>f v y|v::u::l,y=>match f v y.1 with|some r=>some r|none=>GL f (u::l) y.2
def Vy.key:Vy→Option Nat|.t _ _=>none|.cell l _ _|.row l _|.vrow l _ _|.smap l _|.imap l _=>some l
def FW:List Vy→List Nat|[]=>[]|v::r=>match v.key with
 |some l=>match Be l (FW r)with|true=>FW r|false=>l::FW r
 |none=>FW r
def Jh(vs:List Vy)(y:DZ vs)(l:Nat):Nat→List V→List V|_,[]=>[]|j,v::r=>(match GL (KK l j) vs y with|some u=>u|none=>v)::Jh vs y l (j+1) r
def Um(vs:List Vy)(dd:List Nat)(y:DZ vs)(l:Nat)(o:Obj):Obj:=match Be l dd with|true=>.dead|false=>match GL (GK l) vs y with|some o'=>o'|none=>match o with|.box cs=>.box (Jh vs y l 0 cs)|o=>o
def IG(vs:List Vy)(dd:List Nat)(y:DZ vs)(objs:AF):List Nat→AF|[]=>objs|l::ks=>match AA l objs with|some o=>(l,Um vs dd y l o)::IG vs dd y objs ks|none=>IG vs dd y objs ks
def J4:List Nat→List (Nat×V)→List (Nat×V)|[],tm=>tm|t::r,tm=>(t,.any)::J4 r tm
def G9:(vs:List Vy)→DZ vs→List (Nat×V)→List (Nat×V)
 |[],_,tm=>tm|[v],y,tm=>match v,y with|.t t T,y=>(t,Gj T y)::tm|_,_=>tm
 |v::u::l,y,tm=>match v,y with|.t t T,y=>(t,Gj T y.1)::G9 (u::l) y.2 tm|_,y=>G9 (u::l) y.2 tm
def LA.keys(la:LA):List Nat:=FW la.vs++la.dd
def LA.tmps:List Vy→List Nat|[]=>[]|.t t _::r=>t::LA.tmps r|_::r=>LA.tmps r
def head(la:LA)(s:St)(y:DZ la.vs):St:=match la,s,y with|⟨vs,es,an,dd⟩,⟨nt,tmps,objs,nx,df,wr,di,mv⟩,y=>match FW vs++dd with|ks=>⟨nt,J4 an (G9 vs y tmps),IG vs dd y objs ks,nx,df,[],[],ks++mv⟩
mutual
def V.eqb:V→V→Bool
 |.any,.any=>true|.nilp,.nilp=>true|.nilf,.nilf=>true|.nils,.nils=>true|.nilm,.nilm=>true|.fn (.func f) a b,v=>match v with
  |.fn (.func g) a' b'=>match Nat.beq f g with
   |true=>match G5 a a' with|true=>G5 b b'|false=>false
   |false=>false
  |_=>false
 |.agg a,v=>match v with|.agg b=>G5 a b|_=>false
 |.er a,v=>match v with|.er b=>G5 a b|_=>false
 |.ref l o,v=>match v with
  |.ref k q=>match Nat.beq l k with|true=>Nat.beq o q|false=>false
  |_=>false
 |.osl l,v=>match v with|.osl k=>Nat.beq l k|_=>false
 |.map l,v=>match v with|.map k=>Nat.beq l k|_=>false
 |.yl l,v=>match v with|.yl k=>Nat.beq l k|_=>false
 |.bsl l n,v=>match v with
  |.bsl k m=>match Nat.beq l k with|true=>Nat.beq n m|false=>false
  |_=>false
 |_,_=>false
def G5:List V→List V→Bool
 |[],[]=>true|v::l,u::m=>match V.eqb v u with|true=>G5 l m|false=>false
 |_,_=>false
end
mutual
theorem Sq:∀{a b:V},a.eqb b=true→a=b
 |.any,b,h=>by cases b<;>first|rfl|(simp[V.eqb]at h)
 |.nilp,b,h=>by cases b<;>first|rfl|(simp[V.eqb]at h)
 |.nilf,b,h=>by cases b<;>first|rfl|(simp[V.eqb]at h)
 |.nils,b,h=>by cases b<;>first|rfl|(simp[V.eqb]at h)
 |.nilm,b,h=>by cases b<;>first|rfl|(simp[V.eqb]at h)
 |.fn f a b,v,h=>by
  cases f<;>try(simp[V.eqb]at h;done)
  cases v<;>try(simp[V.eqb]at h;done)
  rename_i g a' b';cases g<;>try(simp[V.eqb]at h;done)
  simp only[V.eqb]at h;split at h
  ·rename_i h1;split at h;·rename_i h2;rw[yW h1,JJ h2,JJ h]
   ·cases h
  ·cases h|.agg a,v,h=>by
  cases v<;>simp only[V.eqb]at h<;>try(cases h;done)
  rw[JJ h]|.er a,v,h=>by
  cases v<;>simp only[V.eqb]at h<;>try(cases h;done)
  rw[JJ h]|.ref l o,v,h=>by
  cases v<;>simp only[V.eqb]at h<;>try(cases h;done)
  split at h;·rename_i h1;rw[yW h1,yW h]
  ·cases h|.osl l,v,h=>by
  cases v<;>simp only[V.eqb]at h<;>try(cases h;done)
  rw[yW h]|.map l,v,h=>by
  cases v<;>simp only[V.eqb]at h<;>try(cases h;done)
  rw[yW h]|.yl l,v,h=>by
  cases v<;>simp only[V.eqb]at h<;>try(cases h;done)
  rw[yW h]|.bsl l n,v,h=>by
  cases v<;>simp only[V.eqb]at h<;>try(cases h;done)
  split at h;·rename_i h1;rw[yW h1,yW h]
  ·cases h|.d _ _,_,h=>by simp[V.eqb]at h|.tup _,_,h=>by simp[V.eqb]at h|.rref ..,_,h=>by simp[V.eqb]at h|.osp ..,_,h=>by simp[V.eqb]at h|.when ..,_,h=>by simp[V.eqb]at h|.opt ..,_,h=>by simp[V.eqb]at h|.pf ..,_,h=>by simp[V.eqb]at h
theorem JJ:∀{a b:List V},G5 a b=true→a=b
 |[],[],_=>rfl|v::l,u::m,h=>by
  simp only[G5]at h;split at h;·rename_i h1;rw[Sq h1,JJ h]
  ·cases h|[],_::_,h=>by simp[G5]at h|_::_,[],h=>by simp[G5]at h
end
def H8(s:St):(v:Vy)→Option v.den
 |.t t T=>getD T (AW t s.tmps)|.cell l j T=>match AA l s.objs with|some (.box cs)=>getD T (cs.getD j .any)|_=>none
 |.row l T=>match AA l s.objs with|some (.row T' xs)=>if h:T'=T then some (h▸xs)else none|_=>none
 |.vrow l T so=>match AA l s.objs with
  |some (.vrow T' xs cs m)=>match G5 cs (cJ so)with|true=>if h:T'=T then some (h▸xs,m)else none|false=>none
  |_=>none
 |.smap l T=>match AA l s.objs with|some (.smap T' m)=>if h:T'=T then some (h▸m)else none|_=>none
 |.imap l T=>match AA l s.objs with|some (.imap T' m)=>if h:T'=T then some (h▸m)else none|_=>none
def Lh(s:St):(vs:List Vy)→Option (DZ vs)|[]=>some ()|[v]=>H8 s v|v::u::l=>match H8 s v with
 |some x=>match Lh s (u::l)with|some y=>some (x,y)|none=>none
 |none=>none
def frzT(t:Nat):Nat→St→St|0,s=>s|n+1,s=>match(AW t s.tmps).fk with|none=>s|some l=>match s.freeze l with|⟨nt,tmps,objs,nx,df,wr,di,mv⟩=>frzT t n ⟨nt,tmps,objs,nx,df,wr,di,mv⟩
def frzC(l j:Nat):Nat→St→St|0,s=>s|n+1,s=>match AA l s.objs with
 |some (.box cs)=>match(cs.getD j .any).fk with|none=>s|some k=>match s.freeze k with|⟨nt,tmps,objs,nx,df,wr,di,mv⟩=>frzC l j n ⟨nt,tmps,objs,nx,df,wr,di,mv⟩
 |_=>s
def frzVs:List Vy→St→St|[],s=>s|.t t _::r,s=>frzVs r (frzT t 5 s)|.cell l j _::r,s=>frzVs r (frzC l j 5 s)|_::r,s=>frzVs r s
def Ja(l j:Nat):List Vy→Bool
 |[]=>false|.cell k i _::r=>match Nat.beq k l with
  |true=>match Nat.beq i j with|true=>true|false=>Ja l j r
  |false=>Ja l j r
 |_::r=>Ja l j r
def IV(l:Nat):List Vy→Bool
 |[]=>false|.row k _::r|.vrow k _ _::r|.smap k _::r|.imap k _::r=>match Nat.beq k l with|true=>true|false=>IV l r
 |_::r=>IV l r
def G4(vs:List Vy)(l:Nat):Nat→List V→List V→Bool
 |_,[],[]=>true|j,a::l1,b::l2=>match Ja l j vs with|true=>G4 vs l (j+1) l1 l2|false=>match a.eqb b with|true=>G4 vs l (j+1) l1 l2|false=>false
 |_,_,_=>false
def QS(vs:List Vy)(dd:List Nat)(o0 o1:AF)(l:Nat):Bool:=match AA l o1 with|none=>false|some p=>match AA l o0 with|none=>false|some q=>match Be l dd with|true=>true|false=>match IV l vs with
 |true=>match p with
  |.vrow _ _ c1 _=>match q with|.vrow _ _ c0 _=>G5 c1 c0|_=>false
  |_=>true
 |false=>match p with
  |.box cs1=>match q with|.box cs=>G4 vs l 0 cs cs1|_=>false
  |_=>false
def QT(vs:List Vy)(dd:List Nat)(o0 o1:AF):List Nat→Bool|[]=>true|l::r=>match QS vs dd o0 o1 l with|true=>QT vs dd o0 o1 r|false=>false
def LH(la:LA)(t0 t1:List (Nat×V)):List Nat→Bool|[]=>true|t::r=>match Be t la.an with|true=>LH la t0 t1 r|false=>match Be t (LA.tmps la.vs)with|true=>LH la t0 t1 r|false=>match Be t la.es with
 |true=>match(AW t t0).eqb (AW t t1)with|true=>LH la t0 t1 r|false=>false
 |false=>false
def Oh(ks:List Nat)(nx:Nat):List Nat→Bool|[]=>true|l::r=>match Nat.ble nx l with|true=>Oh ks nx r|false=>match Be l ks with|true=>Oh ks nx r|false=>false
def KG(ks:List Nat)(nx:Nat)(o0 o1:AF):List Nat→Bool|[]=>true|l::r=>match Nat.ble nx l with|true=>KG ks nx o0 o1 r|false=>match Be l ks with|true=>KG ks nx o0 o1 r|false=>match AA l o0 with
 |some (.box cs)=>match AA l o1 with
  |some (.box cs1)=>match G5 cs cs1 with|true=>KG ks nx o0 o1 r|false=>false
  |_=>false
 |_=>false
def back(la:LA)(s0 s:St):Option (DZ la.vs):=match frzVs la.vs s with|s1=>match Lh s1 la.vs with|none=>none|some y=>match LH la s0.tmps s1.tmps s1.wr with|false=>none|true=>match Be s0.nt s1.wr with|true=>none|false=>match KG la.keys s0.nx s0.objs s1.objs s1.di with|false=>none|true=>match Oh (la.keys++s0.mv) s0.nx s1.mv with|false=>none|true=>match QT la.vs la.dd s0.objs s1.objs la.keys with|false=>none|true=>some y
end
section
variable {P : Program} {τ : Ad} {κ : Ar}
theorem O7{E:AH}{T:Ty}{x:T.den}{lo:Nat→Option AU}{c:Value}(h:Jz E.w E.S T x c):Z P ⟨E.w,E.S,lo⟩ (Gj T x) c:=Ms h
theorem Ye{E:AH}{lo:Nat→Option AU}{s1:St}{t:Nat}{c:Value}{tm:List (Nat×V)}(hr:Z P E (AW t s1.tmps) c):∀{vs:List Vy}{y:DZ vs},Lh s1 vs=some y→(t∉LA.tmps vs→Z P ⟨E.w,E.S,lo⟩ (AW t tm) c)→Z P ⟨E.w,E.S,lo⟩ (AW t (G9 vs y tm)) c
 |[],_,_,h=>h (by simp[LA.tmps])|[v],y,hy,h=>by cases v with
  |t u T=>
   simp only[G9,CC];split;·rename_i e;subst e;exact O7 (JM hy hr)
   ·rename_i e;exact h (by simp[LA.tmps];exact ZAM e)|_=>exact h (by simp[LA.tmps])
 |v::u::l,y,hy,h=>by
  simp only[Lh]at hy;split at hy
  ·rename_i x hx;split at hy;·rename_i y' hy';cases hy;have ih:=λh'=>Ye (E:=E) (lo:=lo) (tm:=tm) hr (vs:=u::l) (y:=y') hy' h';cases v with
    |t w T=>
     simp only[G9,CC];split;·rename_i e;subst e;exact O7 (JM hx hr)
     ·rename_i e;exact ih λhn=>h (by simp only[LA.tmps,zO,ZAX];exact⟨ZAM e,hn⟩)|_=>exact ih h
   ·cases hy
  ·cases hy
theorem Re{t:Nat}{tm:List (Nat×V)}:∀an:List Nat,AW t (J4 an tm)=if t∈an then .any else AW t tm
 |[]=>by simp[J4]|u::r=>by
  simp only[J4,CC,Re r,zO];by_cases e:u=t;·simp[e]
  ·rw[yP e];by_cases h:t∈r;·rw[yS h,yS (.inr h)]
   ·rw[yP h,yP (by rintro(h'|h');exact e h'.symm;exact h h')]
theorem Lq{vs:List Vy}{dd:List Nat}{y:DZ vs}{objs:AF}{l:Nat}:∀ks:List Nat,AA l (IG vs dd y objs ks)=if l∈ks then(AA l objs).map (Um vs dd y l)else AA l objs
 |[]=>by simp[IG]|k::ks=>by
  simp only[IG];split
  ·rename_i o ho;rw[Ay];split;·rename_i e;subst e;simp[ho]
   ·rename_i e;rw[Lq ks];by_cases h:l∈ks;·rw[yS h,yS (zD _ h)]
    ·rw[yP h,yP (by simp only[zO,ZAX];exact⟨ZAM e,h⟩)]
  ·rename_i ho;rw[Lq ks];by_cases h:l∈ks;·rw[yS h,yS (zD _ h)]
   ·by_cases e:l=k;·subst e;rw[yP h,yS ZCM,ho];rfl
    ·rw[yP h,yP (by simp only[zO,ZAX];exact⟨e,h⟩)]
theorem Sw{α:Type}{f:(v:Vy)→v.den→Option α}{s1:St}:∀{vs:List Vy}{y:DZ vs}{r:α},Lh s1 vs=some y→GL f vs y=some r→∃v x,v∈vs∧H8 s1 v=some x∧f v x=some r
 |[],_,_,_,h=>by cases h|[v],y,r,hy,h=>⟨v,y,by simp,hy,h⟩|v::u::l,y,r,hy,h=>by
  simp only[Lh]at hy;split at hy
  ·rename_i x hx;split at hy
   ·rename_i y' hy';cases hy;simp only[GL]at h;split at h;·rename_i r' hr';cases h;exact⟨v,x,by simp,hx,hr'⟩
    ·obtain⟨v',x',h1,h2,h3⟩:=Sw (vs:=u::l) hy' h;exact⟨v',x',zD _ h1,h2,h3⟩
   ·cases hy
  ·cases hy
theorem kV{s1:St}{l:Nat}{v:Vy}{x:v.den}{o:Obj}(h1:H8 s1 v=some x)(h2:GK l v x=some o):AA l s1.objs=some o:=by cases v with
 |t _ _=>cases h2|cell _ _ _=>cases h2|row k T=>
  simp only[GK]at h2;split at h2
  ·rename_i e;cases h2;have :=yW e;subst this;simp only[H8]at h1;split at h1
   ·rename_i T' xs ho;split at h1;·rename_i e;subst e;cases h1;exact ho
    ·cases h1
   ·cases h1
  ·cases h2|vrow k T so=>
  simp only[GK]at h2;split at h2
  ·rename_i e;cases h2;have :=yW e;subst this;simp only[H8]at h1;split at h1
   ·rename_i T' xs cs m ho;split at h1
    ·rename_i hc;split at h1;·rename_i e;subst e;cases h1;rw[JJ hc]at ho;exact ho
     ·cases h1
    ·cases h1
   ·cases h1
  ·cases h2|smap k T=>
  simp only[GK]at h2;split at h2
  ·rename_i e;cases h2;have :=yW e;subst this;simp only[H8]at h1;split at h1
   ·rename_i T' xs ho;split at h1;·rename_i e;subst e;cases h1;exact ho
    ·cases h1
   ·cases h1
  ·cases h2|imap k T=>
  simp only[GK]at h2;split at h2
  ·rename_i e;cases h2;have :=yW e;subst this;simp only[H8]at h1;split at h1
   ·rename_i T' xs ho;split at h1;·rename_i e;subst e;cases h1;exact ho
    ·cases h1
   ·cases h1
  ·cases h2
theorem kU{s1:St}{l j:Nat}{v:Vy}{x:v.den}{u:V}{cs:List V}{E:AH}{c:Value}{lo:Nat→Option AU}(h1:H8 s1 v=some x)(h2:KK l j v x=some u)(ho:AA l s1.objs=some (.box cs))(r:Z P E (cs.getD j .any) c):Z P ⟨E.w,E.S,lo⟩ u c:=by cases v with
 |cell k i T=>
  simp only[KK]at h2;split at h2
  ·rename_i e1;split at h2;·rename_i e2;cases h2;have :=yW e1;subst this;have :=yW e2;subst this;simp only[H8,ho]at h1;exact O7 (JM h1 r)
   ·cases h2
  ·cases h2|_=>cases h2
theorem qV{vs:List Vy}{y:DZ vs}{l:Nat}(h:IV l vs=false):GL (GK l) vs y=none:=by induction vs with|nil=>rfl|cons v r ih=>
 have h1:∀x,GK l v x=none:=λx=>by cases v<;>simp only[IV]at h<;>simp only[GK];all_goals(split at h;cases h;first|rfl|(rename_i e;rw[e]))
 have h2:IV l r=false:=by cases v<;>simp only[IV]at h<;>first|exact h|(split at h;cases h;exact h)
 cases r with|nil=>exact h1 y|cons u l'=>simp only[GL];rw[h1];exact ih h2
theorem Zb{s1:St}{l:Nat}:∀{vs:List Vy}{y:DZ vs},IV l vs=true→∃o,GL (GK l) vs y=some o
 |[],_,h=>by cases h|[v],y,h=>by
  cases v<;>simp only[IV]at h<;>try(cases h;done)
  all_goals(split at h<;>try(cases h;done));rename_i e;simp only[GL,GK,e];exact⟨_,rfl⟩|v::u::l',y,h=>by
  simp only[GL];split;·exact⟨_,rfl⟩
  ·rename_i hn;refine Zb (s1:=s1) ?_;cases v<;>simp only[IV]at h⊢<;>first|exact h|skip
   all_goals(split at h;rename_i e;simp only[GK,e]at hn;cases hn;exact h)
theorem Ru{vs:List Vy}{l:Nat}:∀{j:Nat}{a b:List V},G4 vs l j a b=true→a.length=b.length
 |_,[],[],_=>rfl|j,a::l1,b::l2,h=>by
  simp only[G4]at h;split at h;·simp[Ru h]
  ·split at h;·simp[Ru h]
   ·cases h|_,[],_::_,h=>by simp[G4]at h|_,_::_,[],h=>by simp[G4]at h
theorem ZZ{l j:Nat}:∀{vs:List Vy}{y:DZ vs},Ja l j vs=true→∃o,GL (KK l j) vs y=some o
 |[],_,h=>by cases h|[v],y,h=>by
  cases v<;>simp only[Ja]at h<;>try(cases h;done)
  split at h<;>try(cases h;done)
  rename_i e1;split at h<;>try(cases h;done)
  rename_i e2;simp only[GL,KK,e1,e2];exact⟨_,rfl⟩|v::u::l',y,h=>by
  simp only[GL];split;·exact⟨_,rfl⟩
  ·rename_i hn;refine ZZ ?_;cases v<;>simp only[Ja]at h⊢<;>first|exact h|skip
   split at h
   ·rename_i e1;split at h;·rename_i e2;simp only[KK,e1,e2]at hn;cases hn
    ·exact h
   ·exact h
theorem Ul{vs:List Vy}{y:DZ vs}{l:Nat}:∀{j:Nat}{cs:List V},(Jh vs y l j cs).length=cs.length|_,[]=>rfl|j,v::r=>by simp only[Jh,yX,Ul]
theorem aP{vs:List Vy}{y:DZ vs}{l:Nat}:∀{j:Nat}{cs:List V}{i:Nat},i<cs.length→(Jh vs y l j cs).getD i .any=match GL (KK l (j+i)) vs y with|some u=>u|none=>cs.getD i .any
 |_,[],i,h=>by simp at h|j,v::r,0,_=>by first|(simp[Jh];done)|(simp[Jh];rfl)
 |j,v::r,i+1,h=>by simp only[Jh,ZCF];rw[aP (by simpa using h),show j+1+i=j+(i+1)from by omega]
theorem Wc{vs:List Vy}{l:Nat}:∀{j:Nat}{a b:List V}{i:Nat},G4 vs l j a b=true→i<a.length→Ja l (j+i) vs=true∨a.getD i .any=b.getD i .any
 |_,[],_,_,_,h=>by simp at h|j,a::l1,[],_,h,_=>by simp[G4]at h|j,a::l1,b::l2,0,h,_=>by
  simp only[G4]at h;split at h;·rename_i e;exact .inl e
  ·split at h;·rename_i e;exact .inr (by simpa using Sq e)
   ·cases h|j,a::l1,b::l2,i+1,h,hi=>by
  have h':G4 vs l (j+1) l1 l2=true:=by
   simp only[G4]at h;split at h;·exact h
   ·split at h;·exact h
    ·cases h
  have :=Wc (i:=i) h' (by simpa using hi);rw[show j+1+i=j+(i+1)from by omega]at this;simpa using this
theorem UR{vs:List Vy}{dd:List Nat}{o0 o1:AF}:∀{ks:List Nat},QT vs dd o0 o1 ks=true→∀l∈ks,QS vs dd o0 o1 l=true
 |[],_,l,h=>by simp at h|k::r,h,l,hl=>by
  simp only[QT]at h;split at h
  ·rename_i h1;rcases List.mem_cons.1 hl with rfl|hl;·exact h1
   ·exact UR h l hl
  ·cases h
theorem Ve{ks:List Nat}{nx:Nat}:∀{r:List Nat},Oh ks nx r=true→∀l∈r,nx≤l∨l∈ks
 |[],_,l,h=>by simp at h|k::r,h,l,hl=>by
  simp only[Oh]at h;split at h
  ·rename_i h1;rcases List.mem_cons.1 hl with rfl|hl;·exact .inl (zW h1)
   ·exact Ve h l hl
  ·split at h
   ·rename_i h1;rcases List.mem_cons.1 hl with rfl|hl;·exact .inr (Eg.1 h1)
    ·exact Ve h l hl
   ·cases h
theorem SG{ks:List Nat}{nx:Nat}{o0 o1:AF}:∀{r:List Nat},KG ks nx o0 o1 r=true→∀l∈r,nx≤l∨l∈ks∨∃cs,AA l o0=some (.box cs)∧AA l o1=some (.box cs)
 |[],_,l,h=>by simp at h|k::r,h,l,hl=>by
  simp only[KG]at h;have key:(l=k→nx≤l∨l∈ks∨∃cs,AA l o0=some (.box cs)∧AA l o1=some (.box cs))→KG ks nx o0 o1 r=true→nx≤l∨l∈ks∨∃cs,AA l o0=some (.box cs)∧AA l o1=some (.box cs):=λh1 h2=>(List.mem_cons.1 hl).elim h1 (SG h2 l);split at h;·rename_i h1;exact key (λe=>.inl (e▸zW h1)) h
  ·split at h;·rename_i h1;exact key (λe=>.inr (.inl (e▸Eg.1 h1))) h
   ·split at h
    ·rename_i cs h0;split at h
     ·rename_i cs1 h2;split at h;·rename_i h3;exact key (λe=>.inr (.inr ⟨cs,e▸h0,by rw[e,h2,JJ h3]⟩)) h
      ·cases h
     ·cases h
    ·cases h
theorem eJ{la:LA}{t0 t1:List (Nat×V)}:∀{r:List Nat},LH la t0 t1 r=true→∀t∈r,t∈la.an∨t∈LA.tmps la.vs∨AW t t0=AW t t1
 |[],_,l,h=>by simp at h|k::r,h,t,ht=>by
  simp only[LH]at h;have key:(t=k→t∈la.an∨t∈LA.tmps la.vs∨AW t t0=AW t t1)→LH la t0 t1 r=true→t∈la.an∨t∈LA.tmps la.vs∨AW t t0=AW t t1:=λh1 h2=>(List.mem_cons.1 ht).elim h1 (eJ h2 t);split at h;·rename_i h1;exact key (λe=>.inl (e▸Eg.1 h1)) h
  ·split at h;·rename_i h1;exact key (λe=>.inr (.inl (e▸Eg.1 h1))) h
   ·split at h
    ·split at h;·rename_i h1;exact key (λe=>.inr (.inr (e▸Sq h1))) h
     ·cases h
    ·cases h
theorem Vr{cx:Cx}(t:Nat):∀(n:Nat)(s:St),Wk P cx s (frzT t n s)
 |0,s=>.refl s|n+1,s=>by
  simp only[frzT];split;·exact .refl s
  ·rename_i l hl;exact(Ot l).trans (Vr t n _)
theorem AR.frzT(t:Nat):∀(n:Nat)(s:St),AR s (frzT t n s)
 |0,s=>.refl s|n+1,s=>by
  simp only[YtldikbpclaeajaaGreatDoor.frzT];split;·exact .refl s
  ·rename_i l hl;exact(AR.freeze l s).trans (AR.frzT t n _)
theorem eI{cx:Cx}(l j:Nat):∀(n:Nat)(s:St),Wk P cx s (frzC l j n s)
 |0,s=>.refl s|n+1,s=>by
  simp only[frzC];split
  ·split;·exact .refl s
   ·exact(Ot _).trans (eI l j n _)
  ·exact .refl s
theorem AR.frzC(l j:Nat):∀(n:Nat)(s:St),AR s (frzC l j n s)
 |0,s=>.refl s|n+1,s=>by
  simp only[YtldikbpclaeajaaGreatDoor.frzC];split
  ·split;·exact .refl s
   ·exact(AR.freeze _ s).trans (AR.frzC l j n _)
  ·exact .refl s
theorem Ou{cx:Cx}:∀(vs:List Vy)(s:St),Wk P cx s (frzVs vs s)|[],s=>.refl s|v::r,s=>by cases v<;>simp only[frzVs]<;>first|exact Ou r s|exact(Vr _ _ s).trans (Ou r _)|exact(eI _ _ _ s).trans (Ou r _)
theorem AR.frzVs:∀(vs:List Vy)(s:St),AR s (frzVs vs s)|[],s=>.refl s|v::r,s=>by cases v<;>simp only[YtldikbpclaeajaaGreatDoor.frzVs]<;>first|exact AR.frzVs r s|exact(AR.frzT _ _ s).trans (AR.frzVs r _)|exact(AR.frzC _ _ _ s).trans (AR.frzVs r _)
end
section
variable {P : Program} {τ : Ad} {κ : Ar}
structure Hd(la:LA)(s0 s:St):Prop where
 nt:s.nt=s0.nt
 nx:s0.nx≤s.nx
 tmp:∀t,t∉s.wr→t∉la.an→t∉LA.tmps la.vs→AW t s.tmps=AW t s0.tmps
 obj:∀l,l∉s.di→l∉la.keys→AA l s.objs=AA l s0.objs
 df:s0.nt∉s.wr→s.df=s0.df
theorem Hd.inv{la:LA}{s0 s s':St}(h:Hd la s0 s)(k:AR s s'):Hd la s0 s':=⟨k.nt.trans h.nt,zV h.nx k.nx,λt h1 h2 h3=>(k.tmp t h1).trans (h.tmp t (λhm=>h1 (k.wr t hm)) h2 h3),λl h1 h2=>(k.obj l h1).trans (h.obj l (λhm=>h1 (k.di l hm)) h2),λh1=>(k.df (by rw[h.nt];exact h1)).trans (h.df λhm=>h1 (k.wr _ hm))⟩
def St.clr(s:St):St:=match s with|⟨nt,tmps,objs,nx,df,wr,di,mv⟩=>⟨nt,tmps,objs,nx,df,[],[],mv⟩
theorem Hd.clr(la:LA)(s0:St):Hd la s0 s0.clr:=⟨rfl,zB _,λ_ _ _ _=>rfl,λ_ _ _=>rfl,λ_=>rfl⟩
theorem Td{t:Nat}{tm:List (Nat×V)}:∀{vs:List Vy}{y:DZ vs},t∉LA.tmps vs→AW t (G9 vs y tm)=AW t tm
 |[],_,_=>rfl|[v],y,h=>by cases v with|t u T=>simp only[LA.tmps,zO,ZAX]at h;simp only[G9,CC];rw[yP (ZAM h.1)]|_=>rfl
 |v::u::l,y,h=>by cases v with|t w T=>simp only[LA.tmps,zO,ZAX]at h;simp only[G9,CC];rw[yP (ZAM h.1)];exact Td h.2|_=>simp only[G9];exact Td h
theorem Hd.head(la:LA)(s0:St)(y:DZ la.vs):Hd la s0 (head la s0 y):=by
 obtain⟨vs,es,an,dd⟩:=la;obtain⟨nt,tmps,objs,nx,df,wr,di,mv⟩:=s0;refine⟨rfl,zB _,λt _ h2 h3=>?_,λl _ h2=>?_,λ_=>rfl⟩;·show AW t (J4 an (G9 vs y tmps))=AW t tmps;rw[Re,yP h2];exact Td h3
 ·show AA l (IG vs dd y objs (FW vs++dd))=AA l objs;rw[Lq,yP (show l∉FW vs++dd from h2)]
theorem Uu{E E':AH}{objs CJ:AF}(tr:∀l o,AA l CJ=some o→∃o1 L,AA l objs=some o1∧E.loc l=some L∧E'.loc l=some L∧(∀L,o.has L→o1.has L)∧(Aj P E L o1→Aj P E' L o)){b:Nat}(h:Cd E' CJ b):Cd E objs b:=by obtain⟨l,o,L,h1,h2,h3,h4⟩:=h;obtain⟨o1,L1,k1,k2,k3,k4,k5⟩:=tr l o h1;rw[k3]at h2;cases h2;exact⟨l,o1,L,k1,k2,k4 L h3,h4⟩
theorem AC.sub{E E':AH}{objs CJ:AF}(g:AC P E objs)(hw:E'.w=E.w)(hS:E'.S=E.S)(tr:∀l o,AA l CJ=some o→∃o1 L,AA l objs=some o1∧E.loc l=some L∧E'.loc l=some L∧(∀L,o.has L→o1.has L)∧(Aj P E L o1→Aj P E' L o)):AC P E' CJ:=by
 refine⟨λl o h=>?_,λb h hs=>?_,λb hs=>?_,g.tab.mono λb hb=>⟨hS▸hb,by rw[hw]⟩,λi j p q K K' h1 h2 h3 h4 h5 h6 h7=>?_⟩;·obtain⟨o1,L1,k1,k2,k3,k4,k5⟩:=tr l o h;obtain⟨L,hL,ha⟩:=g.at_ l o1 k1;rw[k2]at hL;cases hL;exact⟨L1,k3,k5 ha⟩
 ·exact g.ns b (Uu tr h) (hS▸hs)
 ·rw[hw];exact g.sl b (hS▸hs)
 ·obtain⟨o1,L1,k1,k2,k3,k4,k5⟩:=tr i p h1;obtain⟨o2,L2,m1,m2,m3,m4,m5⟩:=tr j q h2;rw[k3]at h3;cases h3;rw[m3]at h4;cases h4;exact g.inj i j o1 o2 K K' k1 m1 k2 m2 (k4 _ h5) (m4 _ h6) h7
theorem Rm{cx:Cx}{la:LA}{s0 s:St}{y':DZ la.vs}{a0:Act}{w0:World}(h0:Av P cx s0 a0 w0)(hd0:Hd la s0 s)(hb:back la s0 s=some y'){a:Act}{w:World}(hr:Av P cx s a w):Av P cx (head la s0 y') a w:=by
  unfold back at hb;have hr1:=Ou (P:=P) (cx:=cx) la.vs s a w hr;have hd:=hd0.inv (AR.frzVs la.vs s);revert hb hr1 hd;generalize frzVs la.vs s=s1;intro hb hr1 hd;simp only at hb;split at hb;·cases hb
  · rename_i y hy;split at hb;·cases hb
    · rename_i ZL;split at hb;·cases hb
      · rename_i Tz;split at hb;·cases hb
        · rename_i Yb;split at hb;·cases hb
          · rename_i HM;split at hb;·cases hb
            · rename_i GQ;cases hb;obtain⟨E0,rfl,r0⟩:=h0;obtain⟨E,rfl,r⟩:=hr1;have hf:=r0.fresh;have AY:∀{l o},AA l s0.objs=some o→l<s0.nx:=λ{l o}h=>ZBb λhle=>by obtain⟨L,hL,_⟩:=r0.good.at_ l o h;rw[hf l hle]at hL;cases hL
              have TX:s1.df=s0.df:=hd.df λhm=>by have :=Eg.2 hm;rw[Tz]at this;cases this
              have JQ:∀l,s0.nx≤l→cx.E.loc l=none:=λl hl=>by
                have hn:AA l s0.objs=none:=by cases h:AA l s0.objs with|none=>rfl|some o=>exact absurd (AY h) (by omega)
                rw[←r0.step.dom l hn];exact hf l hl
              obtain⟨vs,es,an,dd⟩:=la;have tr:∀l o,AA l (IG vs dd y' s0.objs (FW vs++dd))=some o→∃o1 L,AA l s1.objs=some o1∧E.loc l=some L∧(E.cut s0.nx).loc l=some L∧(∀L,o.has L→o1.has L)∧(Aj P E L o1→Aj P (E.cut s0.nx) L o):=by
                intro l o h;rw[Lq]at h;have Hp:l<s0.nx:=by
                  split at h;·rw[ZAA]at h;obtain⟨o0,h1,_⟩:=h;exact AY h1
                  ·exact AY h
                split at h
                · rename_i hm;rw[ZAA]at h;obtain⟨o0,h1,rfl⟩:=h;have hk:=UR GQ l hm;unfold QS at hk;split at hk;·cases hk
                  · rename_i p hp;obtain⟨L,hL,hat⟩:=r.good.at_ l p hp;refine⟨p,L,hp,hL,He hL Hp,?_⟩;unfold Um;rw[h1]at hk;simp only at hk;split at hk;·rename_i KU;exact⟨λ_ h=>h.elim,λ_=>trivial⟩
                    · rename_i KU;split at hk
                      · rename_i Cu;obtain⟨o',ho'⟩:=Zb (s1:=s1) (y:=y') Cu;simp only[ho'];obtain⟨v,x,hv,hx1,Cw⟩:=Sw hy ho';have :=kV hx1 Cw;rw[hp]at this;cases this;refine⟨λ_ h=>h,λh=>?_⟩;have Tx:∀cs,p≠.box cs:=λcs e=>by subst e;cases v<;>simp only[GK]at Cw<;>first|(cases Cw;done)|(split at Cw<;>cases Cw)
                        have FR:∀n t p' a b st j,p≠.lrec n t p' a b st j:=λn t p' a b st j e=>by subst e;cases v<;>simp only[GK]at Cw<;>first|(cases Cw;done)|(split at Cw<;>cases Cw)
                        cases p with
                        |box cs=>exact absurd rfl (Tx cs)|lrec n t p' a b st j=>exact absurd rfl (FR n t p' a b st j)|dead=>trivial|row t xs=>exact h|vrow t xs s m=>
                          simp only at hk;split at hk;·obtain⟨_,_,IB⟩:=r0.good.at_ l _ h1;rw[←JJ hk]at IB;exact J1.vrow (cK hf IB) _ _ h
                          ·cases hk|smap t m=>exact h|imap t m=>exact h|dfb=>exact h
                      · rename_i Cu;rw[qV Cu];split at hk
                        · rename_i cs1;split at hk
                          · rename_i cs;refine⟨λ_ _=>trivial,λh=>?_⟩;obtain⟨vals,t,k1,k2,k3⟩:=h;have hlen:=Ru hk;refine⟨vals,t,k1,by rw[Ul];omega,λj hj=>?_⟩;rw[Ul]at hj;rw[aP hj,ZAJ];split;·rename_i u hu;obtain⟨v,x,hv,hx1,Cw⟩:=Sw hy hu;exact kU (E:=E) hx1 Cw hp (k3 j (by omega))
                            · rename_i hu;rcases Wc hk hj with hc|hc;·rw[ZAJ]at hc;obtain⟨u,hu'⟩:=ZZ (y:=y') hc;rw[hu]at hu';cases hu'
                              ·obtain⟨L0,lX,IB⟩:=r0.good.at_ l _ h1;obtain⟨_,_,_,_,m3⟩:=IB;have Nb:=H1.of hf (m3 j hj);rw[hc];rw[hc]at Nb;exact Nb _ _ (k3 j (by omega))
                          ·cases hk
                        ·cases hk
                · rename_i hm;have hp:AA l s1.objs=some o:=by
                    by_cases hnd:l∈s1.di
                    · rcases SG Yb l hnd with h1|h1|⟨cs,h1,h2⟩;·omega
                      ·exact absurd h1 hm
                      ·rw[h2,←h,h1]
                    ·exact(hd.obj l hnd hm).trans h
                  obtain⟨L,hL,hat⟩:=r.good.at_ l o hp;obtain⟨L0,lX,IB⟩:=r0.good.at_ l o h;exact⟨o,L,hp,hL,He hL Hp,λ_ h=>h,J1.of hf IB _ _⟩
              have g2:=AC.sub (E':=E.cut s0.nx) r.good rfl rfl tr;obtain⟨nt,tmps,objs,nx,df,wr,di,mv⟩:=s0;refine⟨E.cut nx,rfl,⟨g2,λl hl=>?_,?_,r.drawn,r.size.trans hd.nt,?_,λt=>?_⟩⟩;·show(if l<nx then _ else _)=_;rw[yP (by have :nx≤l:=hl;omega)]
              · refine⟨⟨r.step.ext.S,λl L hl hL=>?_⟩,r.step.os,r.step.tape,r.step.output,r.step.size,r.step.frame,λb hb=>r.step.own b (Uu tr hb),r.step.st,λl hl=>?_,λl hl=>?_⟩
                · have Hp:l<nx:=ZBb λhle=>by rw[JQ l hle]at hL;cases hL
                  refine He (r.step.ext.loc l L (λhm=>?_) hL) Hp;rcases Ve HM l hm with h|h;·simp only at h;omega
                  ·exact hl h
                · have :AA l (IG vs dd y' objs (FW vs++dd))=none:=hl;rw[Lq]at this;refine r0.step.keys l ?_;split at this;·simpa using this
                  ·exact this
                · have h2:AA l (IG vs dd y' objs (FW vs++dd))=none:=hl;rw[Lq]at h2;have h3:AA l objs=none:=by
                    split at h2;·simpa using h2
                    ·exact h2
                  show(if l<nx then E.loc l else none)=_;split
                  · rename_i Hp;by_cases hm:l∈FW vs++dd;·have hk:=UR GQ l hm;unfold QS at hk;rw[h3]at hk;split at hk<;>cases hk
                    · have hnd:l∉s1.di:=λA9=>by
                        rcases SG Yb l A9 with h1|h1|⟨cs,h1,h2⟩;·simp only at h1;omega
                        ·exact hm h1
                        ·rw[h3]at h1;cases h1
                      exact r.step.dom l ((hd.obj l hnd hm).trans h3)
                  ·rename_i Hp;exact(JQ l (by simp only;omega)).symm
              ·have :=r.df;rw[TX]at this;exact DU.cut hf r0.df this
              · show Z P (E.cut nx) (AW t (J4 an (G9 vs y' tmps))) _;rw[Re];split;·exact .any _
                · rename_i hn;refine Ye (lo:=(E.cut nx).loc) (r.rep t) hy λKe=>?_;have e:AW t tmps=AW t s1.tmps:=by
                    by_cases hw:t∈s1.wr
                    · rcases eJ ZL t hw with h|h|h;·exact absurd h hn
                      ·exact absurd h Ke
                      ·exact h
                    ·exact(hd.tmp t hw hn Ke).symm
                  have Nb:=H1.of hf (r0.rep t);have e':AW t (St.mk nt tmps objs nx df wr di mv).tmps=AW t s1.tmps:=e;rw[e']at Nb;rw[e];exact Nb _ _ (r.rep t)
end
section
variable {P : Program} {τ : Ad} {κ : Ar}
def E6(M:List Nat)(v:V):V:=match v.key with
 |some k=>match Be k M with|true=>.any|false=>v
 |none=>v
theorem qU{E E':AH}{M:List Nat}(hx:Bv E E' M){v:V}{c:Value}(r:Z P E v c):Z P E' (v.subst (E6 M)) c:=by
 refine LF hx.S (λv c hr r=>?_) r;unfold E6;split
 ·rename_i k hk;split;·exact .any _
  ·rename_i hm;have hk':∀{L},E.loc k=some L→E'.loc k=some L:=λh=>hx.loc k _ (λA9=>by rw[Eg.2 A9]at hm;cases hm) h;cases r<;>simp only[V.isRef,zY]at hr<;>simp only[V.key,ZA5]at hk<;>subst hk;·rename_i h;exact .ref (hk' h)
   ·rename_i h;exact .rref (hk' h)
   ·rename_i h;exact .osl (hk' h)
   ·rename_i h hp;exact .osp (hk' h) hp
   ·rename_i h;exact .map (hk' h)
   ·rename_i h;exact .yl (hk' h)
   ·rename_i h;exact .bsl (hk' h)
 ·rename_i hk;cases r<;>simp only[V.isRef,zY]at hr<;>simp only[V.key,reduceCtorEq]at hk
mutual
def V.hit(M:List Nat):V→Bool|.fn _ a b=>Is M a||Is M b|.agg cs=>Is M cs|.tup cs=>Is M cs|.er cs=>Is M cs|.when _ v=>V.hit M v|.opt _ v=>V.hit M v|.ref k _=>Be k M|.rref k _ _=>Be k M|.osl k=>Be k M|.osp k _ _=>Be k M|.map k=>Be k M|.yl k=>Be k M|.bsl k _=>Be k M|_=>false
def Is(M:List Nat):List V→Bool|[]=>false|v::r=>V.hit M v||Is M r
end
mutual
theorem Q6{M:List Nat}:∀{v:V},v.hit M=false→v.subst (E6 M)=v|.fn g a b,h=>by simp only[V.hit,ZBA]at h;simp only[V.subst,Js h.1,Js h.2]|.agg cs,h=>by simp only[V.hit]at h;simp only[V.subst,Js h]|.tup cs,h=>by simp only[V.hit]at h;simp only[V.subst,Js h]|.er cs,h=>by simp only[V.hit]at h;simp only[V.subst,Js h]|.when b v,h=>by simp only[V.hit]at h;simp only[V.subst,Q6 h]|.opt b v,h=>by simp only[V.hit]at h;simp only[V.subst,Q6 h]|.ref k o,h=>by simp only[V.hit]at h;simp only[V.subst,E6,V.key,h]|.rref k i o,h=>by simp only[V.hit]at h;simp only[V.subst,E6,V.key,h]|.osl k,h=>by simp only[V.hit]at h;simp only[V.subst,E6,V.key,h]|.osp k lo n,h=>by simp only[V.hit]at h;simp only[V.subst,E6,V.key,h]|.map k,h=>by simp only[V.hit]at h;simp only[V.subst,E6,V.key,h]|.yl k,h=>by simp only[V.hit]at h;simp only[V.subst,E6,V.key,h]|.bsl k n,h=>by simp only[V.hit]at h;simp only[V.subst,E6,V.key,h]|.any,_=>rfl|.d _ _,_=>rfl|.nilp,_=>rfl|.nilf,_=>rfl|.nils,_=>rfl|.nilm,_=>rfl|.pf _ _ _ _,_=>rfl
theorem Js{M:List Nat}:∀{cs:List V},Is M cs=false→C4 (E6 M) cs=cs|[],_=>rfl|v::r,h=>by simp only[Is,ZBA]at h;simp only[C4,Q6 h.1,Js h.2]
end
def Nl(M:List Nat):List (Nat×V)→List Nat|[]=>[]|(t,v)::r=>match v.hit M with|true=>t::Nl M r|false=>Nl M r
theorem Ua{M:List Nat}{t:Nat}:∀{tmps:List (Nat×V)},t∉Nl M tmps→AW t (EV (E6 M) tmps)=AW t tmps|[],_=>rfl|(u,v)::r,h=>by simp only[Nl]at h;rw[EV,CC,CC];cases hv:v.hit M with|true=>rw[hv]at h;simp only[zO,ZAX]at h;rw[yP (ZAM h.1),yP (ZAM h.1)];exact Ua h.2|false=>
 rw[hv]at h;rw[Q6 hv];split;·rfl
 ·exact Ua h
structure FI where
 nt:Nat
 res:List ResultVar
 code:Code
def FI.Ok(P:Program)(g:FuncId)(fi:FI):Prop:=∃fn,P.funcs[g]?=some fn∧fn.body=some fi.code∧fn.ntmps=fi.nt∧fn.results.toList=fi.res∧(fn.name== "runtime.NumGoroutine")=false
theorem FI.Ok.call{g:FuncId}{fi:FI}(h:fi.Ok P g):Bz P g:=by obtain⟨fn,h1,h2,_,_,h5⟩:=h;exact⟨fn,h1,by rw[h2];rfl,h5⟩
def JD:List Df→AF→Option AF
 |[],o=>some o|.mark l::r,o=>match AA l o with|some .dfb=>JD r ((l,.dead)::o)|_=>none
 |.fn _ _::_,_=>none
def M7:List Df→List Nat|[]=>[]|.mark l::r=>l::M7 r|.fn _ _::r=>M7 r
def K8(τ:Ad)(tmps:List (Nat×V))(objs:AF):List ResultVar→Option (List V)
 |[]=>some []|.tmp t::l=>match K8 τ tmps objs l with|some r=>some (AW t tmps::r)|none=>none
 |.cell b t::l=>match AW b tmps with
  |.ref k 0=>match AA k objs with
   |some (.box cs)=>match τ t with
    |some ti=>match ti.k.known with
     |true=>match I8 ti.size cs with
      |some ds=>match Jj ti.isAgg ds with
       |some v=>match K8 τ tmps objs l with|some r=>some (v::r)|none=>none
       |none=>none
      |none=>none
     |false=>none
    |none=>none
   |_=>none
  |_=>none
def aC:List V→V|[v]=>v|l=>.tup l
def KL(τ:Ad)(res:List ResultVar)(s:St):Option (V×St):=match s with|⟨nt,tmps,objs,nx,df,wr,di,mv⟩=>match JD df objs with
 |some CJ=>match K8 τ tmps CJ res with|some vs=>some (aC vs,⟨nt,tmps,CJ,nx,[],wr,M7 df++di,mv⟩)|none=>none
 |none=>none
def Qs(tmps:Array Value):ResultVar→Sem Value|.tmp t=>pure (tmps.getD t undef)|.cell b t=>do loadVar t (←asAddr (tmps.getD b undef))
theorem uA(fn:Func)(tmps:Array Value):results fn tmps=(do let vs←fn.results.mapM (Qs tmps);pure (if h:vs.size=1 then vs[0]else .tuple vs)):=by rfl
theorem VO(hτ:A6 P τ){tmps:List (Nat×V)}{objs:AF}{E:AH}{a:Act}(g:AC P E objs)(h6:∀t,Z P E (AW t tmps) (a.tmps.getD t undef)):∀{l:List ResultVar}{vs:List V},K8 τ tmps objs l=some vs→∃cs:List Value,(l.mapM (Qs a.tmps)).run P E.w=.ok cs E.w∧AS P E vs cs
 |[],vs,h=>by simp only[K8]at h;cases h;exact⟨[],by simp,.nil⟩|.tmp t::l,vs,h=>by
  simp only[K8]at h;split at h;·rename_i r h1;cases h;obtain⟨cs,h2,h3⟩:=VO hτ g h6 h1;exact⟨a.tmps.getD t undef::cs,by simp only[List.mapM_cons,Qs,ZAL,ZAo,zS,h2],.cons (h6 t) h3⟩
  ·cases h|.cell b t::l,vs,h=>by
  simp only[K8]at h;split at h
  ·rename_i k hb;split at h
   ·rename_i cs hcs;split at h
    ·rename_i ti BC;split at h
     ·rename_i hk;split at h
      ·rename_i ds hd1;split at h
       ·rename_i v Ev;split at h;·rename_i r hr;cases h;obtain⟨rfl,Hj⟩:=Oj hd1;obtain⟨L,hL,hat⟩:=g.at_ _ _ hcs;obtain⟨vals,t',h4,h5⟩:=Rp hat;obtain⟨h7,h8⟩:=h5.at_cells h4 0 ti.size;rw[ZCt]at h7;have hb':=h6 b;rw[hb]at hb';obtain⟨L',hL',e⟩:=MY hb';rw[hL]at hL';cases hL';have hl:=Zz (hτ t ti BC) hk E.w L.b 0 _ (h7.1.trans Hj) h8;obtain⟨cs',h2,h3⟩:=VO hτ g h6 hr;have r1:=aT Ev h7;have hl':=hl r1.2;refine⟨_,by simp only[List.mapM_cons,Qs,e,asAddr,ZAL,ZAo,zS,hl',h2],.cons r1.1 h3⟩
        ·cases h
       ·cases h
      ·cases h
     ·cases h
    ·cases h
   ·cases h
  ·cases h
theorem rU{E:AH}{vs:List V}{cs:List Value}(r:AS P E vs cs):Z P E (aC vs) (if h:cs.toArray.size=1 then cs.toArray[0]else .tuple cs.toArray):=by match vs,cs,r with|[],[],r=>exact .tup rfl λj hj=>by simp at hj|[v],[c],r=>exact r.head|v::v'::vs,c::c'::cs,r=>rw[dif_neg (by simp)];exact .tup (by simpa using r.1) λj hj=>by have :=r.2 j hj;simpa[zH,yT]using this|[],_::_,r=>have :=r.1;simp at this|[_],[],r=>have :=r.1;simp at this|[_],_::_::_,r=>have :=r.1;simp at this|_::_::_,[],r=>have :=r.1;simp at this|_::_::_,[_],r=>have :=r.1;simp at this
def H4:Nat→List V→List (Nat×V)|_,[]=>[]|n,v::l=>(n,v)::H4 (n+1) l
theorem Z0:∀(l:List V)(n t:Nat),AW t (H4 n l)=if n≤t then l.getD (t-n) .any else .any
 |[],n,t=>by simp[H4,AW]|v::l,n,t=>by
  rw[H4,CC];split;·rename_i e;subst e;simp
  ·rename_i e;rw[Z0 l (n+1) t];by_cases h:n≤t;·rw[yS h,yS (by omega),show t-n=t-(n+1)+1 from by omega];simp
   ·rw[yP h,yP (by omega)]
theorem Sk{E:AH}{objs:AF}{nx nt:Nat}{args:List V}{cargs:Array Value}(g:AC P E objs)(hf:∀l,nx≤l→E.loc l=none)(r:AS P E args cargs.toList)(hn:args.length≤nt):Av P ⟨E,objs⟩ ⟨nt,H4 0 args,objs,nx,[],[],[],[]⟩ {tmps:=cargs++Array.replicate (nt-cargs.size) undef,defers:=[]} E.w:=by
 have Ae:cargs.size=args.length:=by simpa using r.1
 refine⟨E,rfl,g,hf,.refl _ _ _,zB _,?_,rfl,λt=>?_⟩;·simp[Ae];omega
 ·show Z P E (AW t (H4 0 args)) _;rw[Z0,yS (ZAl _),ZCo];by_cases ht:t<args.length;·have :=r.2 t ht;simp only[zH];rw[ZBB (by omega)];simpa[yT]using this
  ·rw[yT,ZAW (by omega)];exact .any _
structure V6(P:Program)(E:AH)(objs:AF)(s2:St)(E':AH):Prop where
 good:AC P E' s2.objs
 fresh:∀l,s2.nx≤l→E'.loc l=none
 step:BF E objs E' s2.objs s2.mv
 drawn:E.w.drawn≤E'.w.drawn
theorem Zr{fn:Func}{tmps:Array Value}{R:Ending→World→Prop}:∀{df:List Df}{ds:List Deferred}{objs CJ:AF}{E:AH},JD df objs=some CJ→DU P E df ds→AC P E objs→(∀E',AC P E' CJ→BF E objs E' CJ []→E.w.drawn≤E'.w.drawn→LeavesInM (fz none) 0 P fn tmps R [] .returning E'.w)→LeavesInM (fz none) 0 P fn tmps R ds .returning E.w
 |[],ds,objs,CJ,E,h,hd,g,hk=>by cases h;rw[show ds=[]from hd];exact hk E g (.refl _ _ _) (zB _)|.mark l::r,ds,objs,CJ,E,h,⟨L,rest,h1,⟨K,hK,h2⟩,h3⟩,g,hk=>by
  simp only[JD]at h;split at h
  ·rename_i ho;obtain⟨K',hK',hat⟩:=g.at_ l _ ho;rw[hK]at hK';cases hK';have hb:E.w.heap[L]?=some (.deferred (some [])):=by rw[←h2];exact hat
   have AY:L<E.w.heap.size:=(Array.getElem?_eq_some_iff.1 hb).1;have hgr:E.w.grownBy (E.w.putObj L (.deferred none)) (some L):=ZDL _ _ _;have hp:=AC.put g (mv:=false) (o':=.dead) (L':=K) ho hK hgr (λb e=>by cases e;exact⟨trivial,h2.symm⟩) (λ_=>rfl) trivial λh=>h.elim;have e:E.setL (E.w.putObj L (.deferred none)) l K=⟨E.w.putObj L (.deferred none),E.S,E.loc⟩:=by
    simp only[AH.setL];congr 1;funext j;split;·rename_i e;subst e;exact hK.symm
    ·rfl
   rw[e]at hp;subst h1;refine⟨by simp,.inl ⟨L,_,rfl,run_takeDeferred hb,?_⟩⟩;have hx:Bv E ⟨E.w.putObj L (.deferred none),E.S,E.loc⟩ []:=by simpa[moved]using hp.2.ext
   exact Zr (E:=⟨E.w.putObj L (.deferred none),E.S,E.loc⟩) h (h3.ext hx) hp.1 λE' g' st hd=>hk E' g' (by simpa[moved,edit]using hp.2.trans st) hd
  ·cases h|.fn _ _::_,_,_,_,_,h,_,_,_=>by cases h
theorem UX(hτ:A6 P τ){cx:Cx}{fi:FI}{fn:Func}(N3:fn.results.toList=fi.res){s s2:St}{v:V}(h:KL τ fi.res s=some (v,s2)){a:Act}{w:World}(hr:Av P cx s a w){R:Ending→World→Prop}(hk:∀u E',V6 P cx.E cx.imp s2 E'→Z P E' v u→R (.returned u) E'.w):LeavesInM (fz none) 0 P fn a.tmps R a.defers .returning w:=by
 obtain⟨nt,tmps,objs,nx,df,wr,di,mv⟩:=s;unfold KL at h;simp only at h;split at h
 ·rename_i CJ hc;split at h
  ·rename_i vs Km;cases h;obtain⟨E,rfl,r⟩:=hr;refine Zr hc r.df r.good λE' g' st hd=>?_;have HP:∀t,Z P E' (AW t tmps) (a.tmps.getD t undef):=λt=>(r.rep t).mono st.ext;obtain⟨cs,FN,lO⟩:=VO hτ g' HP Km;refine⟨_,?_,hk _ E' ⟨g',λl hl=>?_,by simpa using r.step.trans st,zV r.drawn hd⟩ (rU lO)⟩;·rw[uA,ZC6,N3];simp only[ZAL,Sem.run_map,FN,zS,ZAo]
   ·have hn:AA l CJ=none:=by
     have h1:AA l objs=none:=by cases h:AA l objs with|none=>rfl|some o=>obtain⟨L,hL,_⟩:=r.good.at_ l o h;rw[r.fresh l hl]at hL;cases hL
     exact closeM_none hc h1
    rw[st.dom l hn];exact r.fresh l hl
  ·cases h
 ·cases h where closeM_none:∀{df:List Df}{objs CJ:AF}{l:Nat},JD df objs=some CJ→AA l objs=none→AA l CJ=none
  |[],_,_,_,h,hn=>by cases h;exact hn|.mark k::r,objs,CJ,l,h,hn=>by
   simp only[JD]at h;split at h
   ·rename_i ho;refine closeM_none h ?_;rw[Ay,yP ?_];·exact hn
    ·intro e;subst e;rw[hn]at ho;cases ho
   ·cases h|.fn _ _::_,_,_,_,h,_=>by cases h
def O4(M:List Nat):List Df→Bool
 |[]=>true|.mark l::r=>match Be l M with|true=>false|false=>O4 M r
 |.fn _ _::_=>false
def Ik(s s2:St):Option St:=match s,s2 with|⟨nt,tmps,_,_,df,wr,di,mv⟩,⟨_,_,objs,nx,_,_,di2,mv2⟩=>match mv2 with|[]=>some ⟨nt,tmps,objs,nx,df,wr,di2++di,mv⟩|l::r=>match O4 (l::r) df with|true=>some ⟨nt,EV (E6 (l::r)) tmps,objs,nx,df,Nl (l::r) tmps++wr,di2++di,l::r++mv⟩|false=>none
theorem DU.marks{E E':AH}{M:List Nat}(hx:Bv E E' M):∀{df:List Df}{ds:List Deferred},O4 M df=true→DU P E df ds→DU P E' df ds
 |[],_,_,h=>h|.mark l::r,_,hm,⟨L,rest,h1,⟨K,hK,h2⟩,h3⟩=>by
  simp only[O4]at hm;split at hm;·cases hm
  ·rename_i Ab;exact⟨L,rest,h1,⟨K,hx.loc l K (λh=>by rw[Eg.2 h]at Ab;cases Ab) hK,h2⟩,h3.marks hx hm⟩|.fn _ _::_,_,hm,_=>by cases hm
theorem Rl{cx:Cx}{s s2 s3:St}{a:Act}{E E':AH}(r:A5 P cx s a E)(h:Ik s s2=some s3)(k:V6 P E s.objs s2 E'):A5 P cx s3 a E':=by obtain⟨nt,tmps,objs,nx,df,wr,di,mv⟩:=s;obtain⟨nt2,Jv,OO,nx2,df2,wr2,di2,mv2⟩:=s2;unfold Ik at h;cases mv2 with|nil=>cases h;have hx:Bv E E' []:=k.step.ext;exact⟨k.good,k.fresh,r.step.trans k.step,zV r.drawn k.drawn,r.size,r.df.ext hx,λt=>(r.rep t).mono hx⟩|cons l M=>
 simp only at h;split at h;·rename_i hm;cases h;have hx:Bv E E' (l::M):=k.step.ext;refine⟨k.good,k.fresh,r.step.trans k.step,zV r.drawn k.drawn,r.size,r.df.marks hx hm,λt=>?_⟩;show Z P E' (AW t (EV _ tmps)) _;rw[Jt,Ks];exact qU hx (r.rep t)
 ·cases h
structure V8(objs:AF)(nx:Nat)(s2:St):Prop where
 nx:nx≤s2.nx
 obj:∀l,l∉s2.di→AA l s2.objs=AA l objs
theorem kW{s0 s s2:St}{v:V}{res:List ResultVar}(h:KL τ res s=some (v,s2))(k:AR s0 s):V8 s0.objs s0.nx s2:=by
 obtain⟨nt,tmps,objs,nx,df,wr,di,mv⟩:=s;unfold KL at h;simp only at h;split at h
 ·rename_i CJ hc;split at h;·cases h;refine⟨k.nx,λl hl=>?_⟩;simp only[zM,ZAX]at hl;exact(closeM_get hc hl.1).trans (k.obj l hl.2)
  ·cases h
 ·cases h where closeM_get:∀{df:List Df}{objs CJ:AF}{l:Nat},JD df objs=some CJ→l∉M7 df→AA l CJ=AA l objs
  |[],_,_,_,h,_=>by cases h;rfl|.mark k::r,objs,CJ,l,h,hn=>by
   simp only[JD]at h;simp only[M7,zO,ZAX]at hn;split at h;·rw[closeM_get h hn.2,Ay,yP (ZAM hn.1)]
   ·cases h|.fn _ _::_,_,_,_,h,_=>by cases h
theorem Rk{s s2 s3:St}(h:Ik s s2=some s3)(k:V8 s.objs s.nx s2):AR s s3:=by obtain⟨nt,tmps,objs,nx,df,wr,di,mv⟩:=s;obtain⟨nt2,Jv,OO,nx2,df2,wr2,di2,mv2⟩:=s2;unfold Ik at h;have ho:∀l,l∉di2++di→AA l OO=AA l objs:=λl hl=>k.obj l λhm=>hl (ZAq _ hm);cases mv2 with|nil=>cases h;exact⟨rfl,k.nx,λ_ h=>h,λl hl=>ZAj _ hl,λ_ h=>h,λ_ _=>rfl,ho,λ_=>rfl⟩|cons l M=>
 simp only at h;split at h;·cases h;exact⟨rfl,k.nx,λt ht=>ZAj _ ht,λl hl=>ZAj _ hl,λ_ h=>ZAj _ h,λt ht=>Ua λhm=>ht (ZAq _ hm),ho,λ_=>rfl⟩
 ·cases h
end
section
variable {P : Program}
def ZQ(l:Nat):List Nat→Nat→Option Nat|[],_=>none|k::r,i=>match Nat.beq k l with|true=>some i|false=>ZQ l r (i+1)
def V.rekey(k:Nat):V→V|.ref _ o=>.ref k o|.rref _ i o=>.rref k i o|.osl _=>.osl k|.osp _ lo n=>.osp k lo n|.map _=>.map k|.yl _=>.yl k|.bsl _ n=>.bsl k n|v=>v
def Vo(ks:List Nat)(v:V):V:=match v.key with
 |some l=>match ZQ l ks 0 with|some i=>v.rekey i|none=>.any
 |none=>v
def Qt(ks:List Nat)(v:V):V:=match v.key with
 |some i=>match ks[i]? with|some l=>v.rekey l|none=>.any
 |none=>v
structure JA where
 α:Type
 β:Type
 rs:List Ty
 k:Nat
 vals:α→List V
 objs:β→AF
 get:List V→AF→Option (List Nat×α×β)
 back:AF→Option β
 pre:α→β→Prop
 post:α→β→BR rs→β→Prop
 ch:List Nat
 mv:List Nat
structure JA.Law(R:JA):Prop where
 get:∀vs os ks a b,R.get vs os=some (ks,a,b)→C4 (Vo ks) vs=R.vals a∧ks.length=R.k∧ks.Nodup∧∀i l,ks[i]?=some l→∃o,AA l os=some o∧AA i (R.objs b)=some (o.subst (Vo ks))∧(i∉R.ch→(o.subst (Vo ks)).subst (Qt ks)=o)
 dom:∀b i o,AA i (R.objs b)=some o→i<R.k
 back:∀os b,R.back os=some b→∀i,i<R.k→AA i os=AA i (R.objs b)
 same:∀b b' i,i∉R.ch→AA i (R.objs b')=AA i (R.objs b)
 ch:∀i∈R.ch,i<R.k
 mv:∀i∈R.mv,i∈R.ch
def Kv(ks:List Nat)(os:AF):List Nat→AF|[]=>[]|i::r=>match ks[i]? with
 |some l=>match AA i os with|some o=>(l,o.subst (Qt ks))::Kv ks os r|none=>Kv ks os r
 |none=>Kv ks os r
def HY(ks:List Nat):List Nat→List Nat|[]=>[]|i::r=>match ks[i]? with|some l=>l::HY ks r|none=>HY ks r
def Q5(M:List Nat)(objs:AF):AF:=match M with|[]=>objs|l::r=>substO (E6 (l::r)) objs
def I3(R:JA)(ks:List Nat)(b:R.β)(objs:AF):AF:=Kv ks (R.objs b) R.ch++Q5 (HY ks R.mv) objs
theorem S9{l:Nat}:∀{a b:AF},AA l (a++b)=match AA l a with|some o=>some o|none=>AA l b
 |[],_=>rfl|(k,o)::r,b=>by
  rw[ZA1,Ay,Ay];split;·rfl
  ·exact S9
theorem Un{ks:List Nat}{os:AF}{l:Nat}{o:Obj}:∀{ch:List Nat},AA l (Kv ks os ch)=some o→∃i∈ch,ks[i]?=some l∧∃q,AA i os=some q∧o=q.subst (Qt ks)
 |[],h=>by cases h|i::r,h=>by
  simp only[Kv]at h;have rec':AA l (Kv ks os r)=some o→∃j∈i::r,ks[j]?=some l∧∃q,AA j os=some q∧o=q.subst (Qt ks):=λh=>by obtain⟨j,h1,h2⟩:=Un h;exact⟨j,zD _ h1,h2⟩
  split at h
  ·rename_i l' hl;split at h
   ·rename_i q hq;rw[Ay]at h;split at h;·rename_i e;subst e;cases h;exact⟨i,by simp,hl,q,hq,rfl⟩
    ·exact rec' h
   ·exact rec' h
  ·exact rec' h
theorem Uj{ks:List Nat}{l:Nat}:∀{mv:List Nat},l∈HY ks mv↔∃i∈mv,ks[i]?=some l
 |[]=>by simp[HY]|i::r=>by
  simp only[HY];split
  ·rename_i k hk;rw[zO,Uj (mv:=r)];constructor
   ·rintro(rfl|⟨j,h1,h2⟩);·exact⟨i,by simp,hk⟩
    ·exact⟨j,zD _ h1,h2⟩
   ·rintro⟨j,h1,h2⟩;rcases List.mem_cons.1 h1 with rfl|h1;·rw[hk]at h2;cases h2;exact .inl rfl
    ·exact .inr ⟨j,h1,h2⟩
  ·rename_i hk;rw[Uj (mv:=r)];constructor;·rintro⟨j,h1,h2⟩;exact⟨j,zD _ h1,h2⟩
   ·rintro⟨j,h1,h2⟩;rcases List.mem_cons.1 h1 with rfl|h1;·rw[hk]at h2;cases h2
    ·exact⟨j,h1,h2⟩
theorem vF{M:List Nat}{objs:AF}{l:Nat}:AA l (Q5 M objs)=(AA l objs).map λq=>match M with|[]=>q|m::r=>q.subst (E6 (m::r)):=by cases M with|nil=>simp only[Q5,Option.map_id_fun',id_eq]|cons m r=>simp only[Q5,G6]
theorem tP{R:JA}(hl:R.Law){objs:AF}{vs:List V}{ks:List Nat}{a:R.α}{b b':R.β}(hg:R.get vs objs=some (ks,a,b)){l:Nat}{o:Obj}(h:AA l (I3 R ks b' objs)=some o):∃q,AA l objs=some q:=by
 simp only[I3,S9]at h;split at h;·rename_i o' hn;obtain⟨i,_,hk,_⟩:=Un hn;obtain⟨q,hq,_⟩:=(hl.get _ _ _ _ _ hg).2.2.2 i l hk;exact⟨q,hq⟩
 ·rw[vF,ZAA]at h;obtain⟨q,hq,_⟩:=h;exact⟨q,hq⟩
def Obj.hit(M:List Nat):Obj→Bool|.box cs|.vrow _ _ cs _=>Is M cs|.lrec ..=>true|_=>false
def Nk(M:List Nat):AF→List Nat|[]=>[]|(k,o)::r=>match o.hit M with|true=>k::Nk M r|false=>Nk M r
theorem sC{M:List Nat}{o:Obj}(h:o.hit M=false):o.subst (E6 M)=o:=by cases o with|box cs=>simp only[Obj.hit]at h;simp only[Obj.subst,Js h]|vrow t xs cs m=>simp only[Obj.hit]at h;simp only[Obj.subst,Js h]|lrec=>cases h|_=>rfl
theorem TA{M:List Nat}{l:Nat}:∀{objs:AF},l∉Nk M objs→AA l (substO (E6 M) objs)=AA l objs
 |[],_=>rfl|(k,o)::r,h=>by
  simp only[Nk]at h;simp only[substO,Ay];split at h;·simp only[zO,ZAX]at h;rw[yP (ZAM h.1),yP (ZAM h.1),TA h.2]
  ·rename_i h0;rw[sC h0,TA h]
def OC(ks:List Nat):List Nat→List Nat|[]=>[]|i::r=>match ks[i]? with|some l=>l::OC ks r|none=>OC ks r
def VH(R:JA)(ks:List Nat)(objs:AF):List Nat:=OC ks R.ch++match HY ks R.mv with|[]=>[]|l::r=>Nk (l::r) objs
theorem Ze{ks:List Nat}:∀{ch:List Nat},OC ks ch=HY ks ch|[]=>rfl|i::r=>by simp only[OC,HY,Ze (ch:=r)]
theorem tO{R:JA}{ks:List Nat}{b':R.β}{objs:AF}{l:Nat}(h:l∉VH R ks objs):AA l (I3 R ks b' objs)=AA l objs:=by
 simp only[VH,zM,ZAX]at h;obtain⟨h1,h2⟩:=h;rw[Ze]at h1;simp only[I3,S9];split;·rename_i o hn;obtain⟨i,hi,hk,_⟩:=Un hn;exact absurd (Uj.2 ⟨i,hi,hk⟩) h1
 ·revert h2;cases HY ks R.mv with|nil=>exact λ_=>rfl|cons m r=>exact λh2=>TA h2
theorem WS{s s2 s3:St}(h:Ik s s2=some s3):∀l∈s2.mv,l∈s3.mv:=by obtain⟨nt,tmps,objs,nx,df,wr,di,mv⟩:=s;obtain⟨nt2,Jv,OO,nx2,df2,wr2,di2,mv2⟩:=s2;unfold Ik at h;cases mv2 with|nil=>cases h;exact λl hl=>absurd hl (by simp)|cons l M=>
 simp only at h;split at h;·cases h;exact λk hk=>ZAq _ hk
 ·cases h
end
end Go.Proofs.YtldikbpclaeajaaGreatDoor
