/- Part of a proof that a law of the program holds for every input: how abstract states follow the program. No conditions. -/
import Derived.Test.YtldikbpclaeajaaDoorF01
namespace Go.Proofs.YtldikbpclaeajaaDoor
open Go
set_option linter.defProp false
def dL:=@decide_eq_true
def dR:=@decide_eq_false
def gQ:=@Option.some.inj
def gS:=@decide_eq_false_iff_not
def hI:=@List.cons.inj
def hJ:=@List.getElem?_of_mem
def jA:=@Array.getElem?_eq_none
def jK:=@List.pairwise_append
def jR:=@Go.callsIn_of_wp_marks
def jY:=@Bool.false_or
def kE:=@Classical.byContradiction
def kT:=@Prod.mk.inj
def kX:=@List.drop_drop
def kZ:=@List.length_filter_le
def lM:=@List.append_of_mem
def lY:=@List.take_add_one
def mG:=@List.filter_cons
set_option linter.unusedSimpArgs false
set_option linter.unusedVariables false
section
variable {P : Program} {τ : AK} {κ : AZ} {E : AB} {objs : AA}
def Aq(i:Int):List Int:=(Lib.itoa i).map λb=>(b.toNat:Int)
def Iu{α:Type}(f:α→α→Int)(l:List α):Prop:=l.Pairwise λa b=>¬f b a<0
inductive Sp where|appInt|sort(T:Ty)(c:Nat)(pre:T.den→T.den→Prop)(f:T.den→T.den→Int)|self(R:GF)
def Mm(P:Program)(g:FuncId)(T:Ty)(xs:List T.den)(args:List Value)(mv:Bool)(R:List T.den→Prop)(v:Nat→V):Prop:=∀(E:AB)(objs:AA)(l:Nat)(L:AH),U P E objs→O l objs=some (.row T xs)→E.loc l=some L→Calls P g (L.v::args).toArray E.w λe w2=>∃u E' ys,e=.returned u∧E'.w=w2∧R ys∧U P E' (edit objs (some (l,.row T ys,mv)))∧Ak E objs E' (edit objs (some (l,.row T ys,mv))) (moved (some (l,.row T ys,mv)))∧E.w.drawn≤w2.drawn∧N P E' (v l) u
def H3(i:Int)(bs:List Int):Prop:=AD .i64 i∧bs.length+21≤140737488355328
def P2{α:Type}(pre:α→α→Prop)(xs:List α):Prop:=xs.length<4611686018427387904∧∀a∈xs,∀b∈xs,pre a b
def Sp.Ok(P:Program)(g:FuncId):Sp→Prop|.appInt=>Bu P g∧∀(bs:List (Ty.int .u8).den)(i:Int),H3 i bs→Mm P g (.int .u8) bs [.int .i64 i,.int .i64 10] true (λys=>ys=bs++Aq i) .osl|.sort T c pre f=>Bu P g∧∀xs:List T.den,P2 pre xs→Mm P g T xs [.func (.func c) #[] #[]] false (λys=>xs.Perm ys∧Iu f ys) λ_=>.tup []|.self R=>R.Law∧Bu P g∧∀(E:AB)(objs:AA)(vs:List V)(ks:List Nat)(a:R.α)(b:R.β),U P E objs→R.get vs objs=some (ks,a,b)→R.pre a b→∀cs:List Value,AE P E vs cs→Calls P g cs.toArray E.w λe w2=>∃u E' r b',e=.returned u∧E'.w=w2∧R.post a b r b'∧U P E' (F7 R ks b' objs)∧Ak E objs E' (F7 R ks b' objs) (Ea ks R.mv)∧E.w.drawn≤w2.drawn∧N P E' (AO R.rs r) u
def Uj(R:GF)(ks:List Nat)(b:R.β)(s:St)(k:St→Prop):Prop:=match Fh s ⟨0,[],F7 R ks b s.objs,s.nx,[],[],Po R ks s.objs,Ea ks R.mv⟩with|some s3=>k s3|none=>False
def MT(s:St)(l:Nat)(o:Obj)(mv:Bool)(k:St→Prop):Prop:=match GL s.nx s.df (some (l,o,mv))with|true=>k (s.edit (some (l,o,mv)))|false=>False
def KW:Sp→List V→St→(V→St→Prop)→Prop
 |.appInt,args,s,k=>match args with
  |[.osl l,.d (.int .i64) i,.d (.int .i64) (.ofNat b)]=>match Nat.beq b 10 with
   |true=>match O l s.objs with|some (.row (.int .u8) bs)=>H3 i bs∧MT s l (.row (.int .u8) (bs++Aq i)) true (k (.osl l))|_=>False
   |false=>False
  |_=>False
 |.sort T c pre f,args,s,k=>match args with
  |[.osl l,.fn (.func g) [] []]=>match Nat.beq g c with
   |true=>match O l s.objs with|some (.row T' xs)=>if h:T'=T then P2 pre (h▸xs)∧∀ys:List T.den,(h▸xs:List T.den).Perm ys∧Iu f ys→MT s l (.row T ys) false (k (.tup []))else False|_=>False
   |false=>False
  |_=>False
 |.self R,args,s,k=>match R.get args s.objs with|some (ks,a,b)=>R.pre a b∧∀(r:A8 R.rs)(b':R.β),R.post a b r b'→Uj R ks b' s (k (AO R.rs r))|none=>False
inductive FX where|fi(f:FI)|sp(s:Sp)
def FX.Ok(P:Program)(g:FuncId):FX→Prop|.fi f=>f.Ok P g|.sp s=>s.Ok P g
theorem U0{cx:Cx}{s:St}{a:Act}{T:Ty}{xs:List T.den}{l:Nat}{mv:Bool}{k:V→St→Prop}{vf:Nat→V}{g:FuncId}{args:List Value}{Rr:List T.den→Prop}(hc:Mm P g T xs args mv Rr vf)(ho:O l s.objs=some (.row T xs))(r:Af P cx s a E)(hk:∀ys,Rr ys→MT s l (.row T ys) mv (k (vf l))){c:Value}(rc:N P E (.osl l) c):∀R:Ending→World→Prop,(∀u v s3 E',AC s s3→k v s3→Af P cx s3 a E'→N P E' v u→(∀l L,l∉s3.mv→E.loc l=some L→E'.loc l=some L)→R (.returned u) E'.w)→CallsIn (fz none) 0 P g (c::args).toArray E.w R:=by intro R hR;cases rc with|osl hL=>
 rename_i L;refine LO (gG (hc E s.objs l L r.good ho hL) ?_);rintro e w2⟨u,E',ys,rfl,rfl,hy,g',st,hd,hu⟩;have h:=hk ys hy;unfold MT at h;split at h;·rename_i Ac;refine hR u (vf l) _ E' (AC.edit s _) h (Af.edit r Ac hd g' st) hu λl' L' hl' hL'=>st.ext.loc l' L' (λhm=>hl' ?_) hL';obtain⟨nt,tmps,objs,nx,df,wr,di,m⟩:=s;cases mv with|false=>simp[moved]at hm|true=>simp only[moved,eN]at hm;subst hm;simp[St.edit,St.subst]
 ·exact h.elim
theorem Ox{k:IntKind}{n:Int}{c:Value}(r:N P E (.d (.int k) n) c):c=.int k n:=by cases r with|d h=>exact(hI (show[c]=[Value.int k n]from h)).1
theorem aT{sp:Sp}{g:FuncId}(hok:sp.Ok P g){args:List V}{s:St}{k:V→St→Prop}(h:KW sp args s k){cx:Cx}{a:Act}(r:Af P cx s a E){cs:List Value}(ra:AE P E args cs):Bu P g∧∀R:Ending→World→Prop,(∀u v s3 E',AC s s3→k v s3→Af P cx s3 a E'→N P E' v u→(∀l L,l∉s3.mv→E.loc l=some L→E'.loc l=some L)→R (.returned u) E'.w)→CallsIn (fz none) 0 P g cs.toArray E.w R:=by cases sp with
 |appInt=>
  obtain⟨hc,hok⟩:=hok;refine⟨hc,?_⟩;simp only[KW]at h;split at h
  ·rename_i l i b;split at h
   ·rename_i hb;have hb:=dJ hb;subst hb;split at h;·rename_i bs ho;obtain⟨h1,h2⟩:=h;match cs,ra with|[c,d,e],ra=>have r1:=ra.head;have e2:=Ox ra.tail.head;have e3:=Ox ra.tail.tail.head;subst e2 e3;exact U0 (hok bs i h1) ho r (λys hy=>by subst hy;exact h2) r1|[],ra=>exact absurd ra.1 (by simp)|[_],ra=>exact absurd ra.1 (by simp)|[_,_],ra=>exact absurd ra.1 (by simp)|_::_::_::_::_,ra=>exact absurd ra.1 (by simp)
    ·exact h.elim
   ·exact h.elim
  ·exact h.elim|sort T c pre f=>
  obtain⟨hc,hok⟩:=hok;refine⟨hc,?_⟩;simp only[KW]at h;split at h
  ·rename_i l g2;split at h
   ·rename_i hb;have hb:=dJ hb;subst hb;split at h
    ·rename_i T' xs ho;split at h;·rename_i hT;subst hT;obtain⟨h1,h2⟩:=h;match cs,ra with
      |[c,d],ra=>
       have r1:=ra.head;have e2:d=.func (.func g2) #[] #[]:=by
        obtain⟨p,q,rfl,k1,k2⟩:=IH ra.tail.head;have :p=#[]:=by have :=k1.1;simpa using this
        subst this;have :q=#[]:=by have :=k2.1;simpa using this
        subst this;rfl
       subst e2;exact U0 (hok xs h1) ho r (λys hy=>h2 ys hy) r1|[],ra=>exact absurd ra.1 (by simp)|[_],ra=>exact absurd ra.1 (by simp)|_::_::_::_,ra=>exact absurd ra.1 (by simp)
     ·exact h.elim
    ·exact h.elim
   ·exact h.elim
  ·exact h.elim|self R=>
  obtain⟨YJ,hc,hok⟩:=hok;refine⟨hc,?_⟩;simp only[KW]at h;split at h
  ·rename_i ks a' b hg;obtain⟨h1,h2⟩:=h;intro R0 hR;refine LO (gG (hok E s.objs args ks a' b r.good hg h1 cs ra) ?_);rintro e w2⟨u,E',r',b',rfl,rfl,hp,g',st,hd,hu⟩;have h3:=h2 r' b' hp;unfold Uj at h3;split at h3
   ·rename_i s3 hb;refine hR u _ s3 E' (M0 hb ⟨dT _,λl hl=>Z4 hl⟩) h3 (M1 r hb ⟨g',λl hl=>?_,st,hd⟩) hu λl L hl hL=>st.ext.loc l L (λhm=>hl (Qt hb l hm)) hL;have hn:O l (F7 R ks b' s.objs)=none:=by cases e:O l (F7 R ks b' s.objs)with|none=>rfl|some o=>obtain⟨q,hq⟩:=Z5 YJ hg e;obtain⟨L,hL,_⟩:=r.good.at_ l q hq;rw[r.fresh l hl]at hL;cases hL
    rw[st.dom l hn];exact r.fresh l hl
   ·exact h3.elim
  ·exact h.elim
end
section
variable {P : Program} {τ : AK} {κ : AZ} {φ : Nat → Option FX}
inductive Gh where|own(t:Nat)(T:Ty)|ownc(l j:Nat)(T:Ty)|frz(t:Nat)|frzc(l j:Nat)|frzl(l:Nat)|zero(t:Nat)|part(t:Nat)|cases(t j n:Nat)|data(t:Nat)(T:Ty)|opn(l:Nat)|cls(l:Nat)|dne(l:Nat)|ren(n k:Nat)|nxt(n:Nat)
inductive An where|mk(gs:List (Nat×List Gh))(lps:List (Nat×LA))(jns:List (Nat×LA))(un:List (Nat×Nat))(cs:List (Nat×An))
def An.none:An:=.mk [] [] [] [] []
def Ej{α:Type}(n:Nat):List (Nat×α)→Option α|[]=>.none|(m,x)::r=>match Nat.beq m n with|true=>some x|false=>Ej n r
def An.gs:An→Nat→List Gh|.mk g _ _ _ _,n=>match Ej n g with|some l=>l|.none=>[]
def An.lp:An→Nat→Option LA|.mk _ l _ _ _,n=>Ej n l
def An.jn:An→Nat→Option LA|.mk _ _ l _ _,n=>Ej n l
def An.un:An→Nat→Option Nat|.mk _ _ _ l _,n=>Ej n l
def An.call:An→Nat→An|.mk _ _ _ _ l,n=>match Ej n l with|some a=>a|.none=>An.none
def ZO(l:Nat)(Y:List (Nat×An)):An:=match Ej l Y with|some a=>a|.none=>An.none
abbrev Ci:=An→List (Nat×An)→Bool→Code→St→(Exit→St→Prop)→Prop
def Bf(P:Program)(run:Ci):Prop:=∀(A:An)(Y:List (Nat×An))(r:Option Nat)(c:Code)(s:St)(k:Exit→St→Prop)(cx:Cx)(R:CC),run A Y r.isSome c s k→∀a w,Ab P cx s a w→(∀e s' a' w',AC s s'→k e s'→Ab P cx s' a' w'→R e a' w')→c.wpIn (fz r) 0 P R a w
def If:Exit→Bool|.normal=>true|.ret=>true|_=>false
def Kx(τ:AK)(φ:Nat→Option FX)(run:Ci)(A:An)(Y:List (Nat×An))(f:V)(args:List V)(s:St)(k:V→St→Prop):Prop:=match f with
 |.fn (.func g) fst caps=>match φ g with|.none=>False|some (.sp sp)=>KW sp (fst++(args++caps)) s k|some (.fi ⟨nt,res,code⟩)=>match fst++(args++caps)with|vs=>match Nat.ble vs.length nt with|false=>False|true=>match s with|⟨nt0,tmps,objs,nx,df,wr,di,mv⟩=>run A Y false code ⟨nt,FA 0 vs,objs,nx,[],[],[],[]⟩ λe s1=>match If e with
  |true=>match HH τ res s1 with|.none=>False|some (v,s2)=>match Fh ⟨nt0,tmps,objs,nx,df,wr,di,mv⟩ s2 with|.none=>False|some s3=>k v s3
  |false=>False
 |_=>False
theorem Qz(hτ:Ah P τ)(hφ:∀g fi,φ g=some fi→fi.Ok P g){run:Ci}(hrun:Bf P run){A:An}{Y:List (Nat×An)}{f:V}{args:List V}{s:St}{k:V→St→Prop}(h:Kx τ φ run A Y f args s k){cx:Cx}{a:Act}{E:AB}(r:Af P cx s a E){c:Value}{cs:List Value}(rf:N P E f c)(ra:AE P E args cs):∃g p q,c=.func (.func g) p q∧Bu P g∧∀R:Ending→World→Prop,(∀u v s3 E',AC s s3→k v s3→Af P cx s3 a E'→N P E' v u→(∀l L,l∉s3.mv→E.loc l=some L→E'.loc l=some L)→R (.returned u) E'.w)→CallsIn (fz none) 0 P g (p++cs.toArray++q) E.w R:=by
 unfold Kx at h;split at h
 ·rename_i g fst caps;split at h;·exact h.elim
  ·rename_i sp hg;obtain⟨p,q,rfl,rp,rq⟩:=IH rf;have rs:AE P E (fst++(args++caps)) (p++cs.toArray++q).toList:=by have :=rp.append (ra.append rq);simpa using this
   obtain⟨h1,h2⟩:=aT (hφ g _ hg) h r rs;exact⟨g,p,q,rfl,h1,λR hR=>by have :=h2 R hR;rwa[lC]at this⟩
  ·rename_i nt res code hg;have hok:FI.Ok P g ⟨nt,res,code⟩:=hφ g _ hg;obtain⟨fn,h1,h2,h3,h4,h5⟩:=id hok;obtain⟨p,q,rfl,rp,rq⟩:=IH rf;refine⟨g,p,q,rfl,hok.call,λR hR=>?_⟩;simp only at h;split at h;·exact h.elim
   ·rename_i hlen;obtain⟨nt0,tmps,objs,nx,df,wr,di,mv⟩:=s;simp only at h h3 h4;have rs:AE P E (fst++(args++caps)) (p++cs.toArray++q).toList:=by have :=rp.append (ra.append rq);simpa using this
    have Ev:=Nh (nt:=nt) r.good r.fresh rs (eJ hlen);refine jR h1 h2 trivial ?_;rw[h3];refine hrun A Y none code _ _ ⟨E,objs⟩ _ h _ E.w Ev λe s1 a1 w1 hi hk hr1=>?_;have fin:If e=true→LeavesInM (fz none) 0 P fn a1.tmps R a1.defers .returning w1:=λhe=>by
     rw[he]at hk;simp only at hk;split at hk;·exact hk.elim
     ·rename_i v s2 hf;split at hk;·exact hk.elim
      ·rename_i s3 hb;refine O7 hτ (fi:=⟨nt,res,code⟩) h4 hf hr1 λu E' haft hu=>?_;exact hR u v s3 E' (M0 hb (XK (s0:=⟨nt,FA 0 (fst++(args++caps)),objs,nx,[],[],[],[]⟩) hf hi)) hk (M1 r hb haft) hu λl L hl hL=>haft.step.ext.loc l L (λhm=>hl (Qt hb l hm)) hL
    cases e with|normal=>exact fin rfl|ret=>exact fin rfl|_=>exact hk.elim
 ·exact h.elim
def Ki(nt:Nat):List Nat→List V→Option (List (Nat×V))
 |[],vs=>match vs with|[]=>some []|_=>.none
 |p::ps,vs=>match vs with
  |v::r=>match Nat.blt p nt with
   |true=>match Ki nt ps r with|some l=>some (l++[(p,v)])|.none=>.none
   |false=>.none
  |[]=>.none
def Um:Exit→Option RJ|.normal=>some .no|.ret=>some .ret|.exit i=>some (.exit i)|_=>.none
def RJ.isNo:RJ→Bool|.no=>true|_=>false
def RJ.st:RJ→LoopState|.no=>.ready|_=>.done
def Pp(l:Nat)(di1 di3:List Nat)(j:RJ)(nt:Nat)(tmps:List (Nat×V))(ps:List Nat)(a b:Code)(nt4:Nat)(Ee:List (Nat×V))(ps4:List Nat)(a4 b4:Code):Obj×List Nat:=match A2 l di1 with|true=>(.lrec nt4 Ee ps4 a4 b4 j.st j,l::(di3++di1))|false=>match A2 l di3 with|true=>(.lrec nt4 Ee ps4 a4 b4 j.st j,l::(di3++di1))|false=>match j with|.no=>(.lrec nt tmps ps a b .ready .no,di3++di1)|j=>(.lrec nt4 Ee ps4 a4 b4 j.st j,l::(di3++di1))
def QJ(run:Ci)(Y:List (Nat×An))(l:Nat)(args:List V)(s:St)(k:V→St→Prop):Prop:=match s with|⟨nt0,QC,objs,nx,df,wr,di,mv⟩=>match O l objs with
 |some (.lrec nt tmps ps assign body .ready .no)=>match Ki nt ps args with|.none=>False|some pa=>match ZO l Y with|A=>run A Y true assign ⟨nt,pa++tmps,objs,nx,[],[],[],[]⟩ λe s1=>match e with
  |.normal=>match s1 with|⟨nt1,Ma,MD,nx1,df1,wr1,di1,mv1⟩=>match A2 l mv1 with|true=>False|false=>match O l MD with
   |some (.lrec nt2 Gv ps2 a2 b2 .ready j2)=>run A Y true body ⟨nt1,Ma,(l,.lrec nt2 Gv ps2 a2 b2 .busy j2)::MD,nx1,df1,[],[],mv1⟩ λe s2=>match Um e with|.none=>False|some j=>match s2 with|⟨_,_,KK,nx3,_,_,di3,mv3⟩=>match A2 l mv3 with|true=>False|false=>match O l KK with
    |some (.lrec nt4 Ee ps4 a4 b4 _ _)=>match Pp l di1 di3 j nt tmps ps assign body nt4 Ee ps4 a4 b4 with|(o4,di4)=>match Fh ⟨nt0,QC,objs,nx,df,wr,di,mv⟩ ⟨0,[],(l,o4)::KK,nx3,[],[],di4,mv3⟩with|.none=>False|some s3=>k (.d .bool j.isNo) s3
    |_=>False
   |_=>False
  |_=>False
 |_=>False
theorem U.lrec{E:AB}{objs:AA}(g:U P E objs){l:Nat}{L:AH}{nt:Nat}{tmps:List (Nat×V)}{ps:List Nat}{a b:Code}{st st':LoopState}{j j':RJ}(ho:O l objs=some (.lrec nt tmps ps a b st j))(hL:E.loc l=some L):∃r:Loop,E.w.heap[L.b]?=some (.loop r)∧r.tmps.size=nt∧(∀t,N P E (AF t tmps) (r.tmps.getD t undef))∧r.params.toList=ps∧r.assign=a∧r.body=b∧r.state=st∧r.pending=j.code∧∃E',E'.w=E.w.putObj L.b (.loop {r with state:=st',pending:=j'.code})∧E'.S=E.S∧E'.loc=E.loc∧U P E' ((l,.lrec nt tmps ps a b st' j')::objs)∧Ak E objs E' ((l,.lrec nt tmps ps a b st' j')::objs) []:=by
 obtain⟨K,hK,hat⟩:=g.at_ l _ ho;rw[hL]at hK;cases hK;obtain⟨r,h1,h2,h3,h4,h5,h6,h7,h8⟩:=hat;refine⟨r,h1,h2,h3,h4,h5,h6,h7,h8,?_⟩;have AM:L.b<E.w.heap.size:=(Array.getElem?_eq_some_iff.1 h1).1;have hgr:E.w.grownBy (E.w.putObj L.b (.loop {r with state:=st',pending:=j'.code})) (some L.b):=kR _ _ _;have e:E.setL (E.w.putObj L.b (.loop {r with state:=st',pending:=j'.code})) l L=⟨E.w.putObj L.b (.loop {r with state:=st',pending:=j'.code}),E.S,E.loc⟩:=by
  simp only[AB.setL];congr 1;funext j;split;·rename_i e;subst e;exact hL.symm
  ·rfl
 have hx:BE E (E.setL (E.w.putObj L.b (.loop {r with state:=st',pending:=j'.code})) l L) []:=Hl g ho hL hgr (λb e=>by cases e;exact⟨trivial,rfl⟩) λ_=>rfl;have hp:=U.put g (mv:=false) (o':=.lrec nt tmps ps a b st' j') (L':=L) ho hL hgr (λb e=>by cases e;exact⟨trivial,rfl⟩) (λ_=>rfl) ⟨{r with state:=st',pending:=j'.code},World.putObj_heap_same AM,h2,λt=>(h3 t).mono hx,h4,h5,h6,rfl,rfl⟩ λ_=>.inl ⟨trivial,rfl⟩;rw[e]at hp;exact⟨⟨E.w.putObj L.b (.loop {r with state:=st',pending:=j'.code}),E.S,E.loc⟩,rfl,rfl,rfl,hp.1,by simpa[moved,edit]using hp.2⟩
theorem VY{nt:Nat}{E:AB}{tmps:List (Nat×V)}:∀{ps:List Nat}{vs:List V}{pa:List (Nat×V)}{cs:List Value}{ta:Array Value},Ki nt ps vs=some pa→AE P E vs cs→ta.size=nt→(∀t,N P E (AF t tmps) (ta.getD t undef))→ps.length=cs.length∧((ps.zip cs).foldl (λt(p,v)=>t.setIfInBounds p v) ta).size=nt∧∀t,N P E (AF t (pa++tmps)) (((ps.zip cs).foldl (λt(p,v)=>t.setIfInBounds p v) ta).getD t undef)
 |[],vs,pa,cs,ta,h,r,hs,ht=>by
  simp only[Ki]at h;split at h;·cases h;have :cs=[]:=dZ (by simpa using r.1);subst this;exact⟨rfl,hs,ht⟩
  ·cases h|p::ps,vs,pa,cs,ta,h,r,hs,ht=>by
  simp only[Ki]at h;split at h
  ·rename_i v rest;split at h
   ·rename_i hp;split at h;·rename_i l hl;cases h;have hp:p<nt:=eJ hp;match cs,r with
     |[],r=>exact absurd r.1 (by simp)|c::cs,r=>
      have ih:=VY (tmps:=(p,v)::tmps) (ta:=ta.setIfInBounds p c) hl r.tail (by simpa using hs) λt=>by
       rw[BU];simp only[dQ,jS];split;·rename_i e;subst e;simp[show p<ta.size from by omega];exact r.head
       ·have :=ht t;rwa[dQ]at this
      refine⟨by simp[ih.1],ih.2.1,λt=>?_⟩;have :=ih.2.2 t;simpa using this
    ·cases h
   ·cases h
  ·cases h
theorem aA{j:RJ}:j.code.isNone=j.isNo:=by cases j<;>rfl
theorem cA{run:Ci}(hrun:Bf P run){Y:List (Nat×An)}{l:Nat}{args:List V}{s:St}{k:V→St→Prop}(h:QJ run Y l args s k){cx:Cx}{a:Act}{E:AB}(r:Af P cx s a E){c:Value}{cs:Array Value}(rl:N P E (.yl l) c)(ra:AE P E args cs.toList)(ro:Option Nat):∃(b fn:Nat)(tmps:Array Value)(assign body:Code),c=.func (.yield b) #[] #[]∧(Instr.yield b cs).run P E.w=.ok (.round b fn tmps assign body) E.w∧∀R:Ending→World→Prop,(∀u v s3 E',AC s s3→k v s3→Af P cx s3 a E'→N P E' v u→R (.returned u) E'.w)→RoundIn (fz ro) 0 P b fn tmps assign body E.w R:=by
 obtain⟨nt0,QC,objs,nx,df,wr,di,mv⟩:=s;unfold QJ at h;simp only at h;split at h
 ·rename_i nt tmps ps assign body ho;split at h;·exact h.elim
  ·rename_i pa YW;cases rl with|yl hL=>
   rename_i L;obtain⟨K,hK,hat⟩:=r.good.at_ l _ ho;rw[hL]at hK;cases hK;obtain⟨rc,h1,h2,h3,h4,h5,h6,h7,h8⟩:=hat;obtain⟨z1,z2,z3⟩:=VY YW ra h2 h3;have AS:cs.size=rc.params.size:=by
    have :rc.params.toList.length=cs.toList.length:=by rw[h4];exact z1
    simpa using this.symm
   refine⟨L.b,rc.fn,_,rc.assign,rc.body,rfl,run_yield h1 AS,λR hR=>?_⟩;refine roundIn_of_wpIn trivial ?_;rw[h5];have Yk:Ab P ⟨E,objs⟩ ⟨nt,pa++tmps,objs,nx,[],[],[],[]⟩ {tmps:=(rc.params.zip cs).foldl (λtmps(t,a)=>tmps.setIfInBounds t a) rc.tmps,defers:=[]} E.w:=by
    have e:(rc.params.zip cs).foldl (λ(tmps:Array Value)(x:Nat×Value)=>tmps.setIfInBounds x.1 x.2) rc.tmps=(ps.zip cs.toList).foldl (λ(t:Array Value)(x:Nat×Value)=>t.setIfInBounds x.1 x.2) rc.tmps:=by rw[←lK,Array.toList_zip,h4]
    refine⟨E,rfl,r.good,r.fresh,.refl _ _ _,dT _,?_,rfl,λt=>?_⟩;·show((rc.params.zip cs).foldl (λ(tmps:Array Value)(x:Nat×Value)=>tmps.setIfInBounds x.1 x.2) rc.tmps).size=nt;rw[e];exact z2
    ·show N P E (AF t (pa++tmps)) (((rc.params.zip cs).foldl (λ(tmps:Array Value)(x:Nat×Value)=>tmps.setIfInBounds x.1 x.2) rc.tmps).getD t undef);rw[e];exact z3 t
   refine hrun _ Y (some L.b) assign _ _ ⟨E,objs⟩ _ h _ E.w Yk λe s1 a1 w1 hi1 hk1 hr1=>?_;cases e<;>try(exact hk1.elim)
   obtain⟨nt1,Ma,MD,nx1,df1,wr1,di1,mv1⟩:=s1;simp only at hk1;split at hk1;·exact hk1.elim
   ·rename_i FO;split at hk1
    ·rename_i nt2 Gv ps2 a2 b2 j2 ho1;obtain⟨E1,rfl,r1⟩:=hr1;have nm:∀{M:List Nat},A2 l M=false→l∉M:=λh hm=>by rw[Cr.2 hm]at h;cases h
     have Xf:E1.loc l=some L:=r1.step.ext.loc l L (nm FO) hL;obtain⟨q,q1,q2,q3,q4,q5,q6,q7,q8,E2,e1,e2,e3,g2,s2⟩:=U.lrec (st':=.busy) (j':=j2) r1.good ho1 Xf;have Yr:E1.w.putObj L.b (.loop {q with state:=.busy})=E2.w:=by rw[e1];congr 2;rw[←q8]
     refine⟨E2.w,by rw[←Yr];exact run_beginRound q1 q7,?_⟩;rw[h6];have YM:Ab P ⟨E,objs⟩ ⟨nt1,Ma,(l,.lrec nt2 Gv ps2 a2 b2 .busy j2)::MD,nx1,df1,[],[],mv1⟩ a1 E2.w:=⟨E2,rfl,g2,λj hj=>by rw[e3];exact r1.fresh j hj,r1.step.trans s2,by rw[e1];exact r1.drawn,r1.size,r1.df.ext s2.ext,λt=>(r1.rep t).mono s2.ext⟩;refine hrun _ Y (some L.b) body _ _ ⟨E,objs⟩ _ hk1 _ _ YM λe s4 a3 w3 hi2 hk2 J1=>?_;obtain⟨ntz,dI,KK,nx3,dfz,wrz,di3,mv3⟩:=s4;have fin:∀j:RJ,Um e=some j→∃v w',(Instr.endRound L.b j.code).run P w3=.ok v w'∧R (.returned v) w':=by
      intro j hj;rw[hj]at hk2;simp only at hk2;split at hk2;·exact hk2.elim
      ·rename_i YL;split at hk2
       ·rename_i nt4 Ee ps4 a4 b4 _ _ S8;generalize Eu:Pp l di1 di3 j nt tmps ps assign body nt4 Ee ps4 a4 b4=od at hk2;obtain⟨o4,di4⟩:=od;simp only at hk2;split at hk2;·exact hk2.elim
        ·rename_i s3 hb;obtain⟨E3,rfl,r3⟩:=J1;have Xg:E3.loc l=some L:=r3.step.ext.loc l L (nm YL) hL;obtain⟨p,p1,p2,p3,p4,p5,p6,p7,p8,E4,f1,f2,f3,g4,st4⟩:=U.lrec (st':=j.st) (j':=j) r3.good S8 Xg;have Ys:E3.w.putObj L.b (.loop {p with state:=if j.code.isNone then .ready else .done,pending:=j.code})=E4.w:=by rw[f1];congr 2;cases j<;>rfl
         refine⟨.bool j.isNo,E4.w,by rw[←Ys,←aA];exact run_endRound j.code p1,?_⟩;have Ba:nx≤nx3:=by have h1:nx≤nx1:=hi1.nx;have h2:nx1≤nx3:=hi2.nx;exact eO h1 h2
         have TD:∀l',l'≠l→l'∉di3→l'∉di1→O l' KK=O l' objs:=λl' AU h3 h1=>by have k1:=hi2.obj l' h3;have k2:=hi1.obj l' h1;simp only at k1 k2;rw[k1,Ad,dK (eS AU),k2]
         have hcase:o4=.lrec nt4 Ee ps4 a4 b4 j.st j∧l∈di4∧(∀l',l'∉di4→l'≠l∧l'∉di3∧l'∉di1)∨o4=.lrec nt4 Ee ps4 a4 b4 j.st j∧o4=.lrec nt tmps ps assign body .ready .no∧∀l',l'∉di4→l'∉di3∧l'∉di1:=by
          have ED:o4=.lrec nt4 Ee ps4 a4 b4 j.st j→di4=l::(di3++di1)→o4=.lrec nt4 Ee ps4 a4 b4 j.st j∧l∈di4∧∀l',l'∉di4→l'≠l∧l'∉di3∧l'∉di1:=λe1 e2=>by subst e2;refine⟨e1,by simp,λl' hl'=>?_⟩;simp only[eA,fC,fJ]at hl';exact hl'
          unfold Pp at Eu;split at Eu;·cases Eu;exact .inl (ED rfl rfl)
          ·rename_i hn1;split at Eu;·cases Eu;exact .inl (ED rfl rfl)
           ·rename_i YQ;split at Eu;·cases Eu;have k1:=hi2.obj l (nm YQ);have k2:=hi1.obj l (nm hn1);simp only at k1 k2;rw[Ad,dO rfl,S8]at k1;rw[ho,ho1]at k2;cases k1;cases k2;exact .inr ⟨rfl,rfl,λl' hl'=>by simp only[fC,fJ]at hl';exact hl'⟩
            ·cases Eu;exact .inl (ED rfl rfl)
         have S9:o4=.lrec nt4 Ee ps4 a4 b4 j.st j:=hcase.elim (λh=>h.1) λh=>h.1;refine hR _ _ s3 E4 (M0 hb ⟨Ba,λl' hl'=>?_⟩) hk2 (M1 r hb ⟨by rw[S9];exact g4,λj hj=>by rw[f3];exact r3.fresh j hj,by rw[S9];exact r3.step.trans st4,by rw[f1];exact r3.drawn⟩) (.mk_bool _);show O l' ((l,o4)::KK)=O l' objs;rw[Ad];rcases hcase with⟨_,_,h⟩|⟨_,h1,h⟩;·have :=h l' hl';rw[dK (eS this.1)];exact TD l' this.1 this.2.1 this.2.2
         ·have :=h l' hl';by_cases e:l=l';·subst e;rw[dO rfl,h1,ho]
          ·rw[dK e];exact TD l' (eS e) this.1 this.2
       ·exact hk2.elim
     cases e with|normal=>exact fin .no rfl|ret=>exact fin .ret rfl|exit i=>exact fin (.exit i) rfl|_=>exact hk2.elim
    ·exact hk1.elim
 ·exact h.elim
end
section
variable {P : Program} {τ : AK} {κ : AZ} {φ : Nat → Option FX}
theorem Ak.swap{E0 E:AB}{imp objs BX:AA}{M:List Nat}(h:Ak E0 imp E objs M)(tr:∀l o,O l BX=some o→∃o1 L,O l objs=some o1∧E.loc l=some L∧E.loc l=some L∧(∀L,o.has L→o1.has L)∧(AY P E L o1→AY P E L o))(hn:∀l,O l BX=none→O l objs=none):Ak E0 imp E BX M:=⟨h.ext,h.os,h.tape,h.output,h.size,h.frame,λb hb=>h.own b (PU (P:=P) tr hb),h.st,λl hl=>h.keys l (hn l hl),λl hl=>h.dom l (hn l hl)⟩
def D2(v:V):Nat→List V→List V|_,[]=>[]|0,_::r=>v::r|n+1,u::r=>u::D2 v n r
theorem P0{v:V}:∀{n:Nat}{l:List V},(D2 v n l).length=l.length|_,[]=>by cases‹Nat›<;>rfl|0,_::_=>rfl|n+1,_::r=>by simp only[D2,dX,P0]
theorem Ut{v:V}:∀{n:Nat}{l:List V}(j:Nat),j<l.length→(D2 v n l).getD j .any=if j=n then v else l.getD j .any
 |n,[],j,h=>by simp at h|0,u::r,0,_=>by simp[D2]|0,u::r,j+1,_=>by simp[D2]|n+1,u::r,0,_=>by simp[D2]|n+1,u::r,j+1,h=>by
  simp only[D2,jP];rw[Ut j (by simpa using h)];by_cases e:j=n;·simp[e]
  ·rw[dK e,dK (by omega)]
def Hn(n k:Nat)(v:V):V:=match v with
 |.osl j=>match Nat.beq j n with|true=>.osl k|false=>v
 |v=>Bh n v
def redo(l:Nat)(o:Obj)(s:St):St:=match s with|⟨nt,tmps,objs,nx,df,wr,di,mv⟩=>⟨nt,tmps,(l,o)::objs,nx,df,wr,l::di,mv⟩
def ghost1:Gh→St→Option St
 |.opn _,_=>none|.nxt n,s=>match s with|⟨nt,tmps,objs,nx,df,wr,di,mv⟩=>match Nat.ble nx n with|true=>some ⟨nt,tmps,objs,n,df,wr,di,mv⟩|false=>none
 |.cls l,s=>match O l s.objs with
  |some (.vrow T xs [v] m)=>match Cv (.sl T) [v]with|some y=>some (redo l (.vrow T (xs++[y]) [] m) s)|none=>none
  |_=>none
 |.dne l,s=>match O l s.objs with|some (.vrow T xs [] m)=>some (redo l (.row (.sl T) (xs++List.replicate m [])) s)|_=>none
 |.ren n k,s=>match O n s.objs with
  |some (.row T ys)=>match O k s.objs with
   |some .dead=>match Nat.beq n k with|true=>none|false=>match GL s.nx s.df (some (k,.row T ys,true))with|true=>some ((redo n .dead (s.edit (some (k,.row T ys,true)))).subst n (Hn n k))|false=>none
   |_=>none
  |_=>none
 |.own t T,s=>match s with|⟨nt,tmps,objs,nx,df,wr,di,mv⟩=>match AF t tmps with
  |.nils=>match Nat.blt 0 T.size with|true=>some ⟨nt,(t,.osl nx)::tmps,(nx,.row T [])::objs,nx+1,df,t::wr,nx::di,mv⟩|false=>none
  |.osl _=>some ⟨nt,tmps,objs,nx,df,wr,di,mv⟩|.osp ..=>some ⟨nt,tmps,objs,nx,df,wr,di,mv⟩|_=>none
 |.ownc l j T,s=>match s with|⟨nt,tmps,objs,nx,df,wr,di,mv⟩=>match O l objs with
  |some (.box cs)=>match cs.getD j .any with
   |.nils=>match Nat.blt 0 T.size with|true=>some ⟨nt,tmps,(l,.box (D2 (.osl nx) j cs))::(nx,.row T [])::objs,nx+1,df,wr,l::nx::di,mv⟩|false=>none
   |.osl _=>some ⟨nt,tmps,objs,nx,df,wr,di,mv⟩|_=>none
  |_=>none
 |.frz t,s=>some (frzT t 5 s)|.frzl l,s=>some (s.freeze l)|.zero t,s=>match AF t s.tmps with
  |.osp l lo n=>match Nat.beq lo 0&&Nat.beq n 0 with
   |true=>match O l s.objs with
    |some (.row T xs)=>match GL s.nx s.df (some (l,.row T [],true))with
     |true=>match s.edit (some (l,.row T [],true))with|⟨nt,tmps,objs,nx,df,wr,di,mv⟩=>some ⟨nt,(t,.osl l)::tmps,objs,nx,df,t::wr,di,mv⟩
     |false=>none
    |_=>none
   |false=>none
  |.osl _=>some s|.nils=>some s|_=>none
 |.part _,_=>none|.cases ..,_=>none|.frzc l j,s=>match O l s.objs with
  |some (.box cs)=>match(cs.getD j .any).fk with|some k=>some (s.freeze k)|none=>some s
  |_=>none
 |.data t T,s=>match s with|⟨nt,tmps,objs,nx,df,wr,di,mv⟩=>match getD T (AF t tmps)with|some x=>some ⟨nt,(t,D6 T x)::tmps,objs,nx,df,t::wr,di,mv⟩|none=>none
theorem PN{E:AB}{objs:AA}(g:U P E objs){nx:Nat}(hf:E.loc nx=none){T:Ty}(hT:0<T.size){c:Value}(r:N P E .nils c):∃E',E'.w=E.w∧(∀l,l≠nx→E'.loc l=E.loc l)∧U P E' ((nx,.row T [])::objs)∧Ak E objs E' ((nx,.row T [])::objs) []∧N P E' (.osl nx) c:=by cases r with|nils a=>refine⟨E.setL E.w nx ⟨0,a,0,0,T.size⟩,rfl,λl h=>Ax _ _ _ h,?_⟩;have hp:=g.push (w:=E.w) (l:=nx) (L:=⟨0,a,0,0,T.size⟩) (o:=.row T []) hf ⟨rfl,rfl,rfl,dT _,λ_ _ _=>rfl⟩ ⟨rfl,hT,rfl,(0:Nat),[],rfl,.inl ⟨rfl,rfl⟩⟩ λh=>absurd rfl h;exact⟨hp.1,hp.2,.osl (A6 _ _ _ _)⟩
theorem MA{E:AB}{tmps:List (Nat×V)}{a:Act}{t0:Nat}{v:V}(h:∀t,N P E (AF t tmps) (a.tmps.getD t undef))(hv:N P E v (a.tmps.getD t0 undef))(t:Nat):N P E (AF t ((t0,v)::tmps)) (a.tmps.getD t undef):=by
 rw[BU];split;·rename_i e;subst e;exact hv
 ·exact h t
theorem cB{E:AB}{objs:AA}(g:U P E objs){l:Nat}{T:Ty}{xs:List T.den}(ho:O l objs=some (.row T xs)){c:Value}(r:N P E (.osp l 0 0) c):∃E',E'.w=E.w∧U P E' (edit objs (some (l,.row T [],true)))∧Ak E objs E' (edit objs (some (l,.row T [],true))) [l]∧N P E' (.osl l) c:=by
 obtain⟨L,hL,a,rfl,ha⟩:=Ez r;obtain⟨K,hK,hat⟩:=g.at_ l _ ho;rw[hL]at hK;cases hK;have hp:=U.put g (mv:=true) (o':=.row T []) (L':=⟨L.b,a,0,L.cap,L.esz⟩) (w:=E.w) (row:=none) ho hL ⟨rfl,rfl,rfl,dT _,λ_ _ _=>rfl⟩ (λb hb=>by cases hb) (λh=>by cases h) (by
  obtain⟨h1,h2,h3,e,cs,h4,h5⟩:=hat;refine⟨h1,h2,rfl,e,[],rfl,?_⟩;rcases h5 with⟨h6,h7⟩|⟨cur,h6,h7,h8,h9,Au,CG,C7⟩;·exact .inl ⟨h6,rfl⟩
  ·refine .inr ⟨cur,?_,h7,fW _,h9,Au,CG,by simp⟩;have :=ha (by omega);simp only[this,h6,jL];rfl) λhh=>.inl ⟨hh,rfl⟩;refine⟨E.setL E.w l ⟨L.b,a,0,L.cap,L.esz⟩,rfl,hp.1,hp.2,?_⟩;have :Value.slice a 0 (L.cap-0)=(⟨L.b,a,0,L.cap,L.esz⟩:AH).v:=rfl;rw[this];exact .osl (A6 _ _ _ _)
theorem Pq{cx:Cx}{s:St}{a:Act}{E:AB}{l:Nat}{o o':Obj}(ho:O l s.objs=some o)(hh:∀L,o'.has L→o.has L)(ha:∀L,AY P E L o→AY P E L o')(r:Af P cx s a E):Af P cx (redo l o' s) a E:=by
 obtain⟨nt,tmps,objs,nx,df,wr,di,mv⟩:=s;have ho:O l objs=some o:=ho;have tr:∀l' o1,O l' ((l,o')::objs)=some o1→∃o2 L,O l' objs=some o2∧E.loc l'=some L∧E.loc l'=some L∧(∀L,o1.has L→o2.has L)∧(AY P E L o2→AY P E L o1):=λl' o1 h1=>by
  rw[Ad]at h1;split at h1;·rename_i e;subst e;cases h1;obtain⟨L,hL,_⟩:=r.good.at_ l o ho;exact⟨o,L,ho,hL,hL,hh,ha L⟩
  ·obtain⟨L,hL,_⟩:=r.good.at_ l' o1 h1;exact⟨o1,L,h1,hL,hL,λ_ h=>h,λh=>h⟩
 exact⟨r.good.sub rfl rfl tr,r.fresh,r.step.swap tr λl' hl'=>(EC hl').2,r.drawn,r.size,r.df,r.rep⟩
theorem AC.redo{l:Nat}{o:Obj}{s:St}:AC s (redo l o s):=by obtain⟨nt,tmps,objs,nx,df,wr,di,mv⟩:=s;exact⟨rfl,dT _,λ_ h=>h,λ_ h=>dS _ h,λ_ h=>h,λ_ _=>rfl,λk hk=>by have hk:k∉l::di:=hk;simp only[eA,fJ]at hk;show O k ((l,o)::objs)=_;rw[Ad,dK (eS hk.1)],λ_=>rfl⟩
theorem WF{E:AB}{L:AH}{T:Ty}{xs:List (List T.den)}{v:V}{m:Nat}{y:List T.den}(hy:Cv (.sl T) [v]=some y)(h:AY P E L (.vrow T xs [v] m)):AY P E L (.vrow T (xs++[y]) [] m):=by
 obtain⟨h1,h2,h3,e,cs,h4,h5⟩:=h;have hlen:L.len=(xs++[y]).length+([]:List V).length+m:=by simp only[dW,dX,eC]at h3⊢;omega
 rcases h5 with h5|⟨cur,h5,h6,h7,h8,h9,Au,CG,C7,DJ⟩;·have :=h5.2;simp at h3;omega
 ·have AM:xs.length<cur.size:=by simp at h3;omega
  have hc:Al E.w E.S (.sl T) y [cur[xs.length]]:=D1 hy ⟨rfl,λj hj=>by
   obtain rfl:j=0:=by simp at hj;exact hj
   have :=C7 0 (by simp);rw[dQ,fZ,eZ AM]at this;exact this⟩;refine⟨h1,fW _,hlen,e,cs++[cur[xs.length]],h4.append ⟨[cur[xs.length]],[],rfl,hc,rfl⟩,.inr ⟨cur,h5,h6,h7,h8,h9,Au,?_,λj hj=>by simp at hj,λi hi=>DJ i (by simpa using hi)⟩⟩;rw[←CG,dW,dX,eC,fE,lY,fD,eZ AM];rfl
theorem UQ{w:World}{S:Nat→Prop}{T:Ty}:∀m:Nat,Aa w S (.sl T) (List.replicate m []) (List.replicate m (.slice none 0 0))|0=>rfl|m+1=>⟨[.slice none 0 0],List.replicate m (.slice none 0 0),by rw[iB];rfl,⟨none,0,rfl,⟨dT _,fW _⟩,λh=>absurd rfl h⟩,UQ m⟩
theorem WX{E:AB}{L:AH}{T:Ty}{xs:List (List T.den)}{m:Nat}(h:AY P E L (.vrow T xs [] m)):AY P E L (.row (.sl T) (xs++List.replicate m [])):=by
 obtain⟨h1,h2,h3,e,cs,h4,h5⟩:=h;have hlen:L.len=(xs++List.replicate m ([]:List T.den)).length:=by simp only[dW,eU,eC]at h3⊢;omega
 refine⟨h1,Nat.zero_lt_one,hlen,e,_,h4.append (UQ m),?_⟩;rcases h5 with⟨h5,h6⟩|⟨cur,h5,h6,h7,h8,h9,Au,CG,C7,DJ⟩;·exact .inl ⟨h5,dZ (by rw[←hlen];exact h6)⟩
 ·refine .inr ⟨cur,h5,h6,by rw[←hlen];exact h7,h8,h9,by rw[Au];exact(hN _).symm,?_⟩;rw[←hlen,show(Ty.sl T).size=1 from rfl,hN,←CG];have h3:L.len=xs.length+m:=by simpa using h3
  have hcl:(cur.toList.take xs.length).length=xs.length:=by simp only[eM,eG];omega
  apply fP;intro j;rw[eE];split
  ·rename_i hj;rcases iJ j xs.length with h|h;·rw[fI (by omega),eE,dO h]
   ·rw[fH (by omega),hcl,List.getElem?_replicate,dO (by omega),fD];exact DJ j (by simpa using h) hj
  ·rw[fM];rw[dW,hcl,eU];omega
theorem Z7{cx:Cx}{s:St}{a:Act}{E:AB}{n k:Nat}{T:Ty}{ys:List T.den}(hn:O n s.objs=some (.row T ys))(hk:O k s.objs=some .dead)(AU:n≠k)(Ac:GL s.nx s.df (some (k,.row T ys,true))=true)(r:Af P cx s a E):∃E',E'.w=E.w∧Af P cx ((redo n .dead (s.edit (some (k,.row T ys,true)))).subst n (Hn n k)) a E':=by
 obtain⟨nt,tmps,objs,nx,df,wr,di,mv⟩:=s;have hn:O n objs=some (.row T ys):=hn;have hk:O k objs=some .dead:=hk;obtain⟨L,hL,hat⟩:=r.good.at_ n _ hn;obtain⟨K,hK,_⟩:=r.good.at_ k _ hk;have SZ:(E.setL E.w k L).loc n=some L:=by rw[Ax _ _ _ AU];exact hL
 have hx:BE E (E.setL E.w k L) [k]:=⟨λb hb=>⟨hb,rfl⟩,λj M hj hM=>by rw[Ax _ _ _ (by simpa using hj)];exact hM⟩;have BA:∀l o,O l ((n,.dead)::(k,.row T ys)::substO (Bh k) objs)=some o→l=n∧o=.dead∨l=k∧o=.row T ys∨l≠n∧l≠k∧∃q,O l objs=some q∧o=q.subst (Bh k):=λl o h=>by
  rw[Ad]at h;split at h;·rename_i e;cases h;exact .inl ⟨e.symm,rfl⟩
  ·rename_i e1;rw[Ad]at h;split at h;·rename_i e;cases h;exact .inr (.inl ⟨e.symm,rfl⟩)
   ·rename_i e2;rw[ER,eL]at h;obtain⟨q,hq,rfl⟩:=h;exact .inr (.inr ⟨eS e1,eS e2,q,hq,rfl⟩)
 have old:∀l o M,O l ((n,.dead)::(k,.row T ys)::substO (Bh k) objs)=some o→(E.setL E.w k L).loc l=some M→o.has M→l≠n∧∃l' o',O l' objs=some o'∧E.loc l'=some M∧o'.has M∧l'=if l=k then n else l:=λl o M h1 h2 h3=>by
  rcases BA l o h1 with⟨rfl,rfl⟩|⟨rfl,rfl⟩|⟨e1,e2,q,hq,rfl⟩;·exact h3.elim
  ·rw[A6]at h2;cases h2;exact⟨eS AU,n,_,hn,hL,h3,(dO rfl).symm⟩
  ·rw[Ax _ _ _ e2]at h2;exact⟨e1,l,q,hq,h2,Obj.has_subst.1 h3,(dK e2).symm⟩
 have ownb:∀b,Bi (E.setL E.w k L) ((n,.dead)::(k,.row T ys)::substO (Bh k) objs) b→Bi E objs b:=λb⟨l,o,M,h1,h2,h3,h4⟩=>by obtain⟨_,l',o',k1,k2,k3,_⟩:=old l o M h1 h2 h3;exact⟨l',o',M,k1,k2,k3,h4⟩
 have none2:∀l,O l ((n,.dead)::(k,.row T ys)::substO (Bh k) objs)=none→l≠k∧O l objs=none:=λl h=>by obtain⟨_,h⟩:=EC h;obtain⟨h1,h⟩:=EC h;rw[ER]at h;exact⟨h1,by simpa using h⟩
 have g1:U P (E.setL E.w k L) ((n,.dead)::(k,.row T ys)::substO (Bh k) objs):=by
  refine⟨λl o h=>?_,λb h=>r.good.ns b (ownb b h),r.good.sl,r.good.tab,λi j p q M M' h1 h2 h3 h4 h5 h6 h7=>?_⟩
  ·rcases BA l o h with⟨rfl,rfl⟩|⟨rfl,rfl⟩|⟨e1,e2,q,hq,rfl⟩;·exact⟨L,SZ,trivial⟩
   ·exact⟨L,A6 _ _ _ _,hat⟩
   ·obtain⟨M,hM,ha⟩:=r.good.at_ l q hq;exact⟨M,by rw[Ax _ _ _ e2];exact hM,ha.keepS (λv c h=>J8 hx h) (λb hb=>⟨hb,rfl⟩) λ_=>rfl⟩
  ·obtain⟨n1,i',p',k1,k2,k3,k4⟩:=old i p M h1 h3 h5;obtain⟨n2,j',q',m1,m2,m3,m4⟩:=old j q M' h2 h4 h6;have :=r.good.inj i' j' p' q' M M' k1 m1 k2 m2 k3 m3 h7;rw[k4,m4]at this;by_cases e1:i=k
   ·by_cases e2:j=k;·rw[e1,e2]
    ·rw[dO e1,dK e2]at this;exact absurd this.symm n2
   ·by_cases e2:j=k;·rw[dK e1,dO e2]at this;exact absurd this n1
    ·rw[dK e1,dK e2]at this;exact this
 have st1:Ak E objs (E.setL E.w k L) ((n,.dead)::(k,.row T ys)::substO (Bh k) objs) [k]:=⟨hx,rfl,rfl,rfl,dT _,λ_ _ _=>rfl,λb hb=>.inr (ownb b hb),λb hb=>.inl hb,λl hl=>(none2 l hl).2,λl hl=>Ax _ _ _ (none2 l hl).1⟩;have cZ:k<nx:=gU λhle=>by rw[r.fresh k hle]at hK;cases hK
 have Xu:FB k nx=nx:=by
  unfold FB;split;·rename_i e;have :=dJ e;omega
  ·rfl
 have hm:Ii k df=false:=by
  simp only[GL]at Ac;split at Ac;·simpa using Ac
  ·cases Ac
 have r1:Af P cx (redo n .dead (St.edit ⟨nt,tmps,objs,nx,df,wr,di,mv⟩ (some (k,.row T ys,true)))) a (E.setL E.w k L):=by
  refine⟨g1,λj hj=>?_,r.step.trans st1,r.drawn,r.size,r.df.moved hx hm,λt=>?_⟩;·have hj:FB k nx≤j:=hj;rw[Xu]at hj;rw[Ax _ _ _ (by omega)];exact r.fresh j hj
  ·show N P _ (AF t (Cm (Bh k) tmps)) _;rw[Gu,Hf];exact J8 hx (r.rep t)
 have hf:∀v c,v.isRef=true→N P (E.setL E.w k L) v c→N P (E.setL E.w k L) (Hn n k v) c:=λv c _ h=>by
  have hi:N P (E.setL E.w k L) (Bh n v) c:=by
   unfold Bh;split
   ·split;·exact .any _
    ·exact h
   ·exact h
  unfold Hn;split
  ·rename_i j;split;·rename_i e;have e:=dJ e;subst e;obtain⟨M,hM,rfl⟩:=DB h;rw[SZ]at hM;cases hM;exact .osl (A6 _ _ _ _)
   ·exact h
  ·exact hi
 exact⟨E.setL E.w k L,rfl,r1.subst hf rfl rfl (λ_ h=>h) (r1.good.substO hf) (r1.step.substO (f:=Hn n k))⟩
theorem Z6{n k:Nat}(v:V)(hr:v.isRef=true)(h:v.has n=false):Hn n k v=v:=by cases v<;>simp only[V.isRef,eW]at hr<;>simp only[V.has]at h<;>simp only[Hn,Bh,V.key,h]
theorem SK{cx:Cx}:∀{gh:Gh}{s s':St},ghost1 gh s=some s'→Wk P cx s s'
 |.opn _,s,s',h=>by cases h|.nxt n,s,s',h=>by
  obtain⟨nt,tmps,objs,nx,df,wr,di,mv⟩:=s;simp only[ghost1]at h;split at h;·rename_i hn;cases h;have hn:=eJ hn;rintro a w⟨E,e,r⟩;exact⟨E,e,r.good,λl hl=>r.fresh l (eO hn hl),r.step,r.drawn,r.size,r.df,r.rep⟩
  ·cases h|.cls l,s,s',h=>by
  simp only[ghost1]at h;split at h
  ·rename_i T xs v m ho;split at h;·rename_i y hy;cases h;rintro a w⟨E,rfl,r⟩;exact⟨E,rfl,Pq ho (λ_ h=>h) (λ_ h=>WF hy h) r⟩
   ·cases h
  ·cases h|.dne l,s,s',h=>by
  simp only[ghost1]at h;split at h;·rename_i T xs m ho;cases h;rintro a w⟨E,rfl,r⟩;exact⟨E,rfl,Pq ho (λ_ h=>h) (λ_ h=>WX h) r⟩
  ·cases h|.ren n k,s,s',h=>by
  simp only[ghost1]at h;split at h
  ·rename_i T ys hn;split at h
   ·rename_i hk;split at h;·cases h
    ·rename_i AU;split at h;·rename_i Ac;cases h;rintro a w⟨E,rfl,r⟩;obtain⟨E',e1,r1⟩:=Z7 hn hk (fS AU) Ac r;exact⟨E',e1,r1⟩
     ·cases h
   ·cases h
  ·cases h|.own t T,s,s',h=>by
  obtain⟨nt,tmps,objs,nx,df,wr,di,mv⟩:=s;simp only[ghost1]at h;split at h
  ·rename_i hv;split at h;·rename_i hT;cases h;rintro a w⟨E,rfl,r⟩;have rv:=r.rep t;rw[show AF t (St.mk nt tmps objs nx df wr di mv).tmps=.nils from hv]at rv;obtain⟨E',e1,e2,g,st,rr⟩:=PN r.good (r.fresh nx (dT _)) (eJ hT) rv;exact⟨E',e1,g,λl hl=>by have :nx+1≤l:=hl;rw[e2 l (by omega)];exact r.fresh l (by show nx≤l;omega),r.step.trans st,by rw[e1];exact r.drawn,r.size,r.df.ext st.ext,MA (λt=>(r.rep t).mono st.ext) rr⟩
   ·cases h
  ·cases h;exact .refl _
  ·cases h;exact .refl _
  ·cases h|.ownc l j T,s,s',h=>by
  obtain⟨nt,tmps,objs,nx,df,wr,di,mv⟩:=s;simp only[ghost1]at h;split at h
  ·rename_i cs hcs;split at h
   ·rename_i hv;split at h
    ·rename_i hT;cases h;rintro a w⟨E,rfl,r⟩;obtain⟨L,hL,vals,t,k1,k2,k3⟩:=r.good.at_ l _ hcs;by_cases hj:j<cs.length
     ·have rv:=k3 j hj;rw[hv]at rv;obtain⟨E',e1,e2,g,st,rr⟩:=PN r.good (r.fresh nx (dT _)) (eJ hT) rv;have AU:l≠nx:=λe=>by subst e;rw[r.fresh l (dT _)]at hL;cases hL
      have hL':E'.loc l=some L:=by rw[e2 l AU];exact hL
      have ho1:O l ((nx,Obj.row T [])::objs)=some (.box cs):=by rw[Ad,dK (eS AU)];exact hcs
      have tr:∀l' o,O l' ((l,Obj.box (D2 (.osl nx) j cs))::(nx,.row T [])::objs)=some o→∃o1 L,O l' ((nx,Obj.row T [])::objs)=some o1∧E'.loc l'=some L∧E'.loc l'=some L∧(∀L,o.has L→o1.has L)∧(AY P E' L o1→AY P E' L o):=by
       intro l' o ho;rw[Ad]at ho;split at ho
       ·rename_i e;subst e;cases ho;refine⟨_,L,ho1,hL',hL',λ_ _=>trivial,λhat=>?_⟩;obtain⟨VK,t2,m1,m2,m3⟩:=hat;have Yo:VK=vals:=by rw[e1,k1]at m1;cases m1;rfl
        subst Yo;refine⟨VK,t2,m1,by rw[P0];exact m2,λi hi=>?_⟩;rw[P0]at hi;rw[Ut i hi];split;·rename_i e;subst e;exact rr
        ·exact m3 i hi
       ·obtain⟨L1,h1,h2⟩:=g.at_ l' o ho;exact⟨o,L1,ho,h1,h1,λ_ h=>h,λh=>h⟩
      refine⟨E',e1,g.sub rfl rfl tr,λl hl=>by have :nx+1≤l:=hl;rw[e2 l (by omega)];exact r.fresh l (by show nx≤l;omega),(r.step.trans st).swap tr λl' hl'=>(EC hl').2,by rw[e1];exact r.drawn,r.size,r.df.ext st.ext,λt=>(r.rep t).mono st.ext⟩
     ·rw[dM,fM (by omega)]at hv;cases hv
    ·cases h
   ·cases h;exact .refl _
   ·cases h
  ·cases h|.frz t,s,s',h=>by cases h;exact QH t 5 s|.frzl l,s,s',h=>by cases h;exact Ke l|.zero t,s,s',h=>by
  simp only[ghost1]at h;split at h
  ·rename_i l lo n hv;split at h
   ·rename_i hz;simp only[eP]at hz;have h1:=dJ hz.1;have h2:=dJ hz.2;subst h1 h2;split at h
    ·rename_i T xs ho;split at h;·rename_i Ac;rintro a w⟨E,rfl,r⟩;have rv:=r.rep t;rw[hv]at rv;obtain⟨E',e1,g,st,rr⟩:=cB r.good ho rv;have r2:=Af.edit r Ac (by rw[e1];exact dT _) g st;revert h r2;generalize s.edit (some (l,.row T [],true))=s2;intro h r2;obtain⟨nt,tmps,objs,nx,df,wr,di,mv⟩:=s2;cases h;exact⟨E',e1,r2.good,r2.fresh,r2.step,r2.drawn,r2.size,r2.df,MA r2.rep rr⟩
     ·cases h
    ·cases h
   ·cases h
  ·cases h;exact .refl _
  ·cases h;exact .refl _
  ·cases h|.frzc l j,s,s',h=>by
  simp only[ghost1]at h;split at h
  ·split at h;·cases h;exact Ke _
   ·cases h;exact .refl _
  ·cases h|.data t T,s,s',h=>by
  obtain⟨nt,tmps,objs,nx,df,wr,di,mv⟩:=s;simp only[ghost1]at h;split at h;·rename_i x hx;cases h;rintro a w⟨E,rfl,r⟩;exact⟨E,rfl,r.good,r.fresh,r.step,r.drawn,r.size,r.df,MA r.rep (Kp (lo:=E.loc) (GQ hx (r.rep t)))⟩
  ·cases h
theorem AC.ghost1:∀{gh:Gh}{s s':St},ghost1 gh s=some s'→AC s s'
 |.opn _,s,s',h=>by cases h|.nxt n,s,s',h=>by
  obtain⟨nt,tmps,objs,nx,df,wr,di,mv⟩:=s;simp only[YtldikbpclaeajaaDoor.ghost1]at h;split at h;·rename_i hn;cases h;exact⟨rfl,eJ hn,λ_ h=>h,λ_ h=>h,λ_ h=>h,λ_ _=>rfl,λ_ _=>rfl,λ_=>rfl⟩
  ·cases h|.cls l,s,s',h=>by
  simp only[YtldikbpclaeajaaDoor.ghost1]at h;split at h
  ·split at h;·cases h;exact AC.redo
   ·cases h
  ·cases h|.dne l,s,s',h=>by
  simp only[YtldikbpclaeajaaDoor.ghost1]at h;split at h;·cases h;exact AC.redo
  ·cases h|.ren n k,s,s',h=>by
  simp only[YtldikbpclaeajaaDoor.ghost1]at h;split at h
  ·split at h
   ·split at h;·cases h
    ·split at h;·cases h;exact((AC.edit s _).trans AC.redo).trans (AC.subst Z6)
     ·cases h
   ·cases h
  ·cases h|.own t T,s,s',h=>by
  obtain⟨nt,tmps,objs,nx,df,wr,di,mv⟩:=s;simp only[YtldikbpclaeajaaDoor.ghost1]at h;split at h
  ·split at h;·cases h;exact⟨rfl,iQ _,λ_ h=>dS _ h,λ_ h=>dS _ h,λ_ h=>h,λu hu=>by simp only[eA,fJ]at hu;simp only;rw[BU,dK (eS hu.1)],λk hk=>by simp only[eA,fJ]at hk;simp only;rw[Ad,dK (eS hk.1)],λ_=>rfl⟩
   ·cases h
  ·cases h;exact .refl _
  ·cases h;exact .refl _
  ·cases h|.ownc l j T,s,s',h=>by
  obtain⟨nt,tmps,objs,nx,df,wr,di,mv⟩:=s;simp only[YtldikbpclaeajaaDoor.ghost1]at h;split at h
  ·split at h
   ·split at h;·cases h;exact⟨rfl,iQ _,λ_ h=>h,λ_ h=>dS _ (dS _ h),λ_ h=>h,λ_ _=>rfl,λk hk=>by simp only[eA,fJ]at hk;simp only;rw[Ad,dK (eS hk.1),Ad,dK (eS hk.2.1)],λ_=>rfl⟩
    ·cases h
   ·cases h;exact .refl _
   ·cases h
  ·cases h|.frz t,s,s',h=>by cases h;exact AC.frzT t 5 s|.frzl l,s,s',h=>by cases h;exact AC.freeze l s|.zero t,s,s',h=>by
  simp only[YtldikbpclaeajaaDoor.ghost1]at h;split at h
  ·rename_i l lo n hv;split at h
   ·split at h
    ·rename_i T xs ho;split at h;·have hi:=AC.edit s (some (l,.row T [],true));revert h hi;generalize s.edit (some (l,.row T [],true))=s2;intro h hi;refine hi.trans ?_;obtain⟨nt,tmps,objs,nx,df,wr,di,mv⟩:=s2;cases h;exact⟨rfl,dT _,λ_ h=>dS _ h,λ_ h=>h,λ_ h=>h,λu hu=>by simp only[eA,fJ]at hu;simp only;rw[BU,dK (eS hu.1)],λ_ _=>rfl,λ_=>rfl⟩
     ·cases h
    ·cases h
   ·cases h
  ·cases h;exact .refl _
  ·cases h;exact .refl _
  ·cases h|.frzc l j,s,s',h=>by
  simp only[YtldikbpclaeajaaDoor.ghost1]at h;split at h
  ·split at h;·cases h;exact AC.freeze _ _
   ·cases h;exact .refl _
  ·cases h|.data t T,s,s',h=>by
  obtain⟨nt,tmps,objs,nx,df,wr,di,mv⟩:=s;simp only[YtldikbpclaeajaaDoor.ghost1]at h;split at h;·cases h;exact⟨rfl,dT _,λ_ h=>dS _ h,λ_ h=>h,λ_ h=>h,λu hu=>by simp only[eA,fJ]at hu;simp only;rw[BU,dK (eS hu.1)],λ_ _=>rfl,λ_=>rfl⟩
  ·cases h
theorem Zn{E:AB}{objs:AA}(g:U P E objs){l lo n:Nat}{T:Ty}{xs:List T.den}(ho:O l objs=some (.row T xs))(hlen:lo+n≤xs.length){c:Value}(r:N P E (.osp l lo n) c){L:AH}(hL:E.loc l=some L):N P (E.still L.b ((Obj.row T xs).has L)) (.d (.sl T) ((xs.drop lo).take n)) c:=by
 obtain⟨K,hK,a,rfl,ha⟩:=Ez r;rw[hL]at hK;cases hK;have h0:=JW g ho hL rfl (v:=.osl l) rfl (.osl hL);simp only[frz,lP]at h0;have h1:Al (E.still L.b ((Obj.row T xs).has L)).w (E.still L.b ((Obj.row T xs).has L)).S (.sl T) xs [L.v]:=Hr h0;obtain⟨CH,AW,hl,_⟩:L.esz=T.size∧0<T.size∧L.len=xs.length∧xs.length≤L.cap:=by obtain⟨M,hM,hat⟩:=g.at_ l _ ho;rw[hL]at hM;cases hM;have :=Pv hat;exact⟨hat.1,hat.2.1,hat.2.2.1,this⟩
 rw[AH.v,hl]at h1;have h2:=Q5 h1 AW lo (lo+n) (by omega) hlen;have e:(xs.take (lo+n)).drop lo=(xs.drop lo).take n:=by rw[List.drop_take];congr 1;omega
 rw[e]at h2;by_cases hn:n=0;·subst hn;rw[jV];exact .d ⟨a,L.cap-lo,rfl,⟨by simp,by obtain⟨_,cap',hc,CU,_⟩:=h1;simp only[hE,Value.slice.injEq,and_true]at hc;show L.cap-lo≤maxLen;omega⟩,λh=>absurd rfl h⟩
 ·have AU:L.cap≠lo:=by omega
  rw[dK AU,←CH,←ha AU,show lo+n-lo=n from by omega]at h2;exact .d h2
def ghosts:List Gh→St→Option St|[],s=>some s|g::r,s=>match ghost1 g s with|some s'=>ghosts r s'|none=>none
theorem SL{cx:Cx}:∀{l:List Gh}{s s':St},ghosts l s=some s'→Wk P cx s s'
 |[],s,s',h=>by cases h;exact .refl _|g::r,s,s',h=>by
  simp only[ghosts]at h;split at h;·rename_i h1;exact(SK h1).trans (SL h)
  ·cases h
theorem AC.ghosts:∀{l:List Gh}{s s':St},ghosts l s=some s'→AC s s'
 |[],s,s',h=>by cases h;exact .refl _|g::r,s,s',h=>by
  simp only[YtldikbpclaeajaaDoor.ghosts]at h;split at h;·rename_i h1;exact(AC.ghost1 h1).trans (AC.ghosts h)
  ·cases h
def Ky(f:Nat→Prop)(i:Int)(m:Nat):Nat→Prop|0=>False|c+1=>cond (decide (i=Int.ofNat m)) (f m) (Ky f i (m+1) c)
theorem Q0{f:Nat→Prop}{i:Int}:∀{c m:Nat},Ky f i m c→∃k:Nat,i=Int.ofNat k∧f k
 |0,m,h=>h.elim|c+1,m,h=>by
  simp only[Ky]at h;by_cases e:i=Int.ofNat m;·rw[dL e]at h;exact⟨m,e,h⟩
  ·rw[dR e]at h;exact Q0 h
theorem Uu{v:V}:∀{j:Nat}{cs:List V},j<cs.length→cs.getD j .any=v→D2 v j cs=cs|_,[],h,_=>by simp at h|0,x::r,_,e=>by simp at e;simp[D2,e]|j+1,x::r,h,e=>by simp[D2,Uu (by simpa using h) (by simpa using e)]
def Em:List Gh→St→(St→Prop)→Prop
 |[],s,k=>k s|.part t::r,s,k=>match AF t s.tmps with
  |.osp l lo n=>match O l s.objs with
   |some (.row T xs)=>lo+n≤xs.length∧match s.freeze l with|⟨nt,tmps,objs,nx,df,wr,di,mv⟩=>Em r ⟨nt,(t,.d (.sl T) ((xs.drop lo).take n))::tmps,objs,nx,df,t::wr,di,mv⟩ k
   |_=>False
  |_=>Em r s k
 |.cases t j n::r,s,k=>match AF t s.tmps with
  |.ref l _=>match O l s.objs with
   |some (.box cs)=>match cs.getD j .any with|.d (.int ik) i=>Ky (λm=>match s with|⟨nt,tmps,objs,nx,df,wr,di,mv⟩=>Em r ⟨nt,tmps,(l,.box (D2 (.d (.int ik) (Int.ofNat m)) j cs))::objs,nx,df,wr,l::di,mv⟩ k) i 0 n|_=>False
   |_=>False
  |_=>False
 |.opn l::r,s,k=>match s with|⟨nt,tmps,objs,nx,df,wr,di,mv⟩=>match O l objs with
  |some (.vrow T xs [] m)=>match Nat.blt 0 T.size with|true=>0<m∧Em r ⟨nt,tmps,(l,.vrow T xs [.osl nx] (m-1))::(nx,.row T [])::objs,nx+1,df,wr,l::nx::di,mv⟩ k|false=>False
  |_=>False
 |g::r,s,k=>match ghost1 g s with|some s'=>Em r s' k|none=>False
theorem Zf{cx:Cx}{nt:Nat}{tmps:List (Nat×V)}{objs:AA}{nx:Nat}{df:List Df}{wr di mv:List Nat}{a:Act}{E:AB}{l:Nat}{T:Ty}{xs:List (List T.den)}{m:Nat}(ho:O l objs=some (.vrow T xs [] m))(hT:0<T.size)(hm:0<m)(r:Af P cx ⟨nt,tmps,objs,nx,df,wr,di,mv⟩ a E):∃E',E'.w=E.w∧Af P cx ⟨nt,tmps,(l,.vrow T xs [.osl nx] (m-1))::(nx,.row T [])::objs,nx+1,df,wr,l::nx::di,mv⟩ a E':=by
 obtain⟨E',e1,e2,g,st,rr⟩:=PN (T:=T) r.good (r.fresh nx (dT _)) hT (.nils none);obtain⟨L,hL,_⟩:=r.good.at_ l _ ho;have AU:nx≠l:=λe=>by rw[←e,r.fresh nx (dT _)]at hL;cases hL
 have r1:Af P cx ⟨nt,tmps,(nx,.row T [])::objs,nx+1,df,wr,nx::di,mv⟩ a E':=⟨g,λj hj=>by have :nx+1≤j:=hj;rw[e2 j (by omega)];exact r.fresh j (by show nx≤j;omega),r.step.trans st,by rw[e1];exact r.drawn,r.size,r.df.ext st.ext,λt=>(r.rep t).mono st.ext⟩;refine⟨E',e1,Pq (l:=l) (o:=.vrow T xs [] m) (o':=.vrow T xs [.osl nx] (m-1)) (by show O l ((nx,.row T [])::objs)=_;rw[Ad,dK AU];exact ho) (λ_ h=>h) (λK h=>?_) r1⟩;obtain⟨h1,h2,h3,e,cs,h4,h5⟩:=h;have hlen:K.len=xs.length+[V.osl nx].length+(m-1):=by simp only[dX,eC]at h3⊢;omega
 refine⟨h1,dT _,hlen,e,cs,h4,?_⟩;rcases h5 with⟨h5,h6⟩|⟨cur,h5,h6,h7,h8,h9,Au,CG,C7,DJ⟩;·simp at h3;omega
 ·refine .inr ⟨cur,h5,h6,h7,h8,h9,Au,CG,λj hj=>?_,λi hi=>DJ i (by simp only[dX,eC]at hi⊢;omega)⟩;obtain rfl:j=0:=by simp at hj;exact hj
  have :=DJ xs.length (by simp) (by simp at h3;omega);rw[dQ,fZ,this];exact rr
theorem IL{cx:Cx}:∀{l:List Gh}{s:St}{k:St→Prop}{a:Act}{w:World},Em l s k→Ab P cx s a w→∃s',AC s s'∧Ab P cx s' a w∧k s'
  |[],s,k,a,w,h,r=>⟨s,.refl s,r,h⟩|g::l,s,k,a,w,h,r=>by
    have plain:(match ghost1 g s with|some s'=>Em l s' k|none=>False)→∃s',AC s s'∧Ab P cx s' a w∧k s':=λh=>by
      split at h;·rename_i s1 h1;obtain⟨s',i1,r1,k1⟩:=IL h (SK h1 a w r);exact⟨s',(AC.ghost1 h1).trans i1,r1,k1⟩
      ·exact h.elim
    cases g with
    |part t=>
      simp only[Em]at h;split at h
      · rename_i o lo n hv;split at h
        · rename_i T xs ho;obtain⟨hlen,h⟩:=h;obtain⟨E,rfl,r1⟩:=r;have rv:=r1.rep t;rw[hv]at rv;obtain⟨L,hL,_⟩:=r1.good.at_ o _ ho;have hd:=Zn r1.good ho hlen rv hL;have BN:∃E',E'.w=E.w∧(∀v c,v.fk=none→N P (E.still L.b ((Obj.row T xs).has L)) v c→N P E' v c)∧Af P cx (s.freeze o) a E':=by have hw:=VN (P:=P) (cx:=cx) o ho hL r1;exact⟨E.still L.b ((Obj.row T xs).has L),rfl,λv c hk hr=>hr,hw⟩
          obtain⟨E',e1,e2,r2⟩:=BN;have hi:=AC.freeze o s;revert h r2 hi;generalize s.freeze o=s2;intro h r2 hi;obtain⟨nt,tmps,objs,nx,df,wr,di,mv⟩:=s2;simp only at h;have r3:Ab P cx ⟨nt,(t,.d (.sl T) ((xs.drop lo).take n))::tmps,objs,nx,df,t::wr,di,mv⟩ a E.w:=⟨E',e1,r2.good,r2.fresh,r2.step,r2.drawn,r2.size,r2.df,MA r2.rep (e2 _ _ rfl hd)⟩;obtain⟨s',i1,r4,k1⟩:=IL h r3;refine⟨s',(hi.trans ?_).trans i1,r4,k1⟩;exact⟨rfl,dT _,λ_ h=>dS _ h,λ_ h=>h,λ_ h=>h,λu hu=>by simp only[eA,fJ]at hu;simp only;rw[BU,dK (eS hu.1)],λ_ _=>rfl,λ_=>rfl⟩
        ·exact h.elim
      ·exact IL h r|cases t j n=>
      simp only[Em]at h;split at h
      · rename_i o off dB;split at h
        · rename_i cs ho;split at h
          · rename_i ik i hv;obtain⟨m,e,h⟩:=Q0 h;obtain⟨E,rfl,r1⟩:=r;obtain⟨nt,tmps,objs,nx,df,wr,di,mv⟩:=s;simp only at h ho;have hj:j<cs.length:=by refine gU λhle=>?_;rw[dM,fM hle]at hv;cases hv
            have e':i=Int.ofNat m:=e;rw[Uu hj (by rw[hv,e'])]at h;have Bw:∀l',O l' ((o,Obj.box cs)::objs)=O l' objs:=λl'=>by
              rw[Ad];split;·rename_i e;rw[←e];exact ho.symm
              ·rfl
            have tr:∀l' o1,O l' ((o,Obj.box cs)::objs)=some o1→∃o2 L,O l' objs=some o2∧E.loc l'=some L∧E.loc l'=some L∧(∀L,o1.has L→o2.has L)∧(AY P E L o2→AY P E L o1):=λl' o1 h1=>by rw[Bw]at h1;obtain⟨L,hL,_⟩:=r1.good.at_ l' o1 h1;exact⟨o1,L,h1,hL,hL,λ_ h=>h,λh=>h⟩
            have r2:Ab P cx ⟨nt,tmps,(o,.box cs)::objs,nx,df,wr,o::di,mv⟩ a E.w:=⟨E,rfl,r1.good.sub rfl rfl tr,r1.fresh,r1.step.swap tr λl' hl'=>by rw[Bw]at hl';exact hl',r1.drawn,r1.size,r1.df,r1.rep⟩;obtain⟨s',i1,r4,k1⟩:=IL h r2;refine⟨s',AC.trans ?_ i1,r4,k1⟩;exact⟨rfl,dT _,λ_ h=>h,λ_ h=>dS _ h,λ_ h=>h,λ_ _=>rfl,λk _=>Bw k,λ_=>rfl⟩
          ·exact h.elim
        ·exact h.elim
      ·exact h.elim|opn l=>
      obtain⟨nt,tmps,objs,nx,df,wr,di,mv⟩:=s;simp only[Em]at h;split at h
      · rename_i T xs m ho;split at h;·rename_i hT;obtain⟨E,rfl,r1⟩:=r;obtain⟨E',e1,r2⟩:=Zf ho (eJ hT) h.1 r1;obtain⟨s',i1,r4,k1⟩:=IL h.2 (e1▸⟨E',rfl,r2⟩:Ab P cx _ a E.w);refine⟨s',AC.trans ?_ i1,r4,k1⟩;exact⟨rfl,iQ _,λ_ h=>h,λ_ h=>dS _ (dS _ h),λ_ h=>h,λ_ _=>rfl,λk hk=>by have hk:k∉l::nx::di:=hk;simp only[eA,fJ]at hk;show O k (_::_::objs)=_;rw[Ad,dK (eS hk.1),Ad,dK (eS hk.2.1)],λ_=>rfl⟩
        ·exact h.elim
      ·exact h.elim|_=>exact plain h
def V9:Option Nat→Nat|some d=>d|none=>9999
def Il(dst:Option Nat)(k:St→Prop)(v:V)(s:St):Prop:=match s.setT dst v with|some s'=>k s'|none=>False
def Lq(i:Int)(k:V→Prop):Nat→List V→Prop|_,[]=>False|_,[v]=>k v|j,v::u::r=>cond (decide (i=(j:Int))) (k v) (Lq i k (j+1) (u::r))
def Td(τ:AK)(t:TypeId)(x ix:V)(k:V→Prop):Prop:=match τ t with
 |some ⟨.arr n e,_,_,_,_⟩=>match x with
  |.agg cs=>match ix with
   |.d (.int _) i=>match τ e with
    |some ei=>match Nat.beq cs.length n&&Nat.beq ei.size 1&&!ei.isAgg&&ei.k.known with|true=>(0≤i∧i<(n:Int))∧Lq i k 0 cs|false=>False
    |none=>False
   |_=>False
  |_=>False
 |_=>False
def PM(os:AA):V→Option Prop
 |.d (.sl T) l=>some (l=([]:List T.den))|.nils=>some True|.osl l=>match O l os with|some (.row T xs)=>some (xs=[])|_=>none
 |_=>none
def UP(τ:AK)(op:BinOp)(t:TypeId)(os:AA)(x:V)(c:Value)(k:V→Prop):Prop:=match τ t with
 |some ⟨.sl _,_,_,_,_⟩=>match c with
  |.slice none 0 0=>match PM os x with
   |some p=>match op with|.eql=>∀b:Bool,(b=true→p)→k (.d .bool b)|.neq=>∀b:Bool,(b=true→p)→k (.d .bool !b)|_=>False
   |none=>False
  |_=>False
 |_=>False
def xW(τ:AK)(φ:Nat→Option FX)(run:Ci)(A:An)(Y:List (Nat×An)):XT:=λo s k=>match o with|⟨dst,op,_,_,_,_⟩=>match op with
 |.call {callee:=.value x,args,..}=>match AL s.tmps x with|.yl l=>QJ run Y l (Aw s.tmps args.toList) s (Il dst k)|f=>Kx τ φ run (A.call (V9 dst)) Y f (Aw s.tmps args.toList) s (Il dst k)
 |.index t x i=>Td τ t (AL s.tmps x) (AL s.tmps i) λv=>Il dst k v s|.binOp op t x (.const c) _=>UP τ op t s.objs (AL s.tmps x) c λv=>Il dst k v s|_=>False
theorem Tb{i:Int}{k:V→Prop}:∀{j:Nat}{cs:List V},Lq i k j cs→(j:Int)≤i→i<(j:Int)+cs.length→∃(n:Nat)(v:V),cs[n]?=some v∧i=(j:Int)+n∧k v
 |_,[],h,_,_=>h.elim|j,[v],h,h1,h2=>⟨0,v,rfl,by simp at h2;omega,h⟩|j,v::u::r,h,h1,h2=>by
  simp only[Lq]at h;by_cases e:i=(j:Int);·rw[dL e]at h;exact⟨0,v,rfl,by omega,h⟩
  ·rw[dR e]at h;simp only[dX]at h2;obtain⟨n,w,a1,a2,a3⟩:=Tb (j:=j+1) h (by omega) (by simp only[dX];omega);exact⟨n+1,w,by simpa using a1,by omega,a3⟩
theorem KR{cx:Cx}{s s1:St}{dst:Option Nat}{k:St→Prop}{v:V}{u:Value}{a:Act}{E':AB}{next:Act→World→Prop}(hn:∀s' a' w',AC s s'→k s'→Ab P cx s' a' w'→next a' w')(hi:AC s s1)(hk:Il dst k v s1)(r:Af P cx s1 a E')(rv:N P E' v u):next (a.put dst u) E'.w:=by
 unfold Il at hk;split at hk;·rename_i s' hs;exact hn s' _ _ (hi.trans (AC.setT hs)) hk ⟨E',rfl,Af.setT r hs rv⟩
 ·exact hk.elim
theorem Zc{E:AB}{objs:AA}(g:U P E objs){x:V}{p:Prop}(h:PM objs x=some p){c:Value}(r:N P E x c):∃a n cap,c=.slice a n cap∧(a.isNone=true→p):=by
 unfold PM at h;split at h;·rename_i T l;cases h;obtain⟨a,cap,hc,_,hl⟩:=Hr r;refine⟨a,_,cap,(hI hc).1,λhn=>?_⟩;apply kE;intro AU;obtain⟨b,off,ha,_⟩:=hl AU;rw[ha]at hn;cases hn
 ·cases h;cases r with|nils a=>exact⟨a,0,0,rfl,λ_=>trivial⟩
 ·rename_i l;split at h
  ·rename_i T xs ho;cases h;obtain⟨L,hL,rfl⟩:=DB r;obtain⟨K,hK,hat⟩:=g.at_ l _ ho;rw[hL]at hK;cases hK;obtain⟨_,_,_,_,_,_,⟨_,h⟩|⟨cur,h,_⟩⟩:=hat;·exact⟨_,_,_,rfl,λ_=>h⟩
   ·exact⟨_,_,_,rfl,λhn=>by rw[h]at hn;cases hn⟩
  ·cases h
 ·cases h
theorem XD{t e:TypeId}(h:P.underlying t=some (.slice e))(a:Option Addr)(n c:Nat)(w:World):(Op.equal t (.slice a n c) (.slice none 0 0)).run P w=.ok a.isNone w:=Nk λd=>by cases a<;>simp only[Op.equalIn,eQ,dU h,eF,fQ,Option.isNone]
theorem VS(hτ:Ah P τ)(hφ:∀g fi,φ g=some fi→fi.Ok P g){run:Ci}(hrun:Bf P run){A:An}{Y:List (Nat×An)}{r:Option Nat}{cx:Cx}:I4 P r cx (xW τ φ run A Y):=by
 intro o s k a w next Q hg h hr hn;obtain⟨dst,op,ty,po,af,guard⟩:=o;obtain⟨E,rfl,r1⟩:=hr;unfold xW at h;simp only at h;split at h
 ·rename_i x args tys;have ra:AE P E (Aw s.tmps args.toList) (args.toList.map a.eval):=Gj λy _=>Fm r1.rep y;have rx:=Fm r1.rep x;split at h
  ·rename_i l hx;rw[hx]at rx;obtain⟨b,fn,tm,ag,bo,e1,e2,e3⟩:=cA (cs:=args.map a.eval) hrun h r1 rx (by simpa using ra) r;refine⟨λ_ _=>trivial,?_⟩;rw[iP _ _ _ λc=>by simp];have Yd:(execOp a.eval ⟨dst,.call {callee:=.value x,args,argTypes:=tys},ty,po,af,guard⟩).run P E.w=.ok (.round b fn tm ag bo) E.w:=by simp[execOp,resolve,e1,Deferred.ofValue,invoke,e2]
   rw[Yd,Oper.uponIn_round];exact⟨λh=>by simp[fz,Fence.wide]at h,e3 _ λu v s3 E' hi hk hr' hv=>KR hn hi hk hr' hv⟩
  ·rename_i hx;obtain⟨g,p,q,e1,e2,e3⟩:=Qz hτ hφ hrun h r1 rx ra;refine⟨λ_ _=>trivial,?_⟩;rw[iP _ _ _ λc=>by simp,M7 (o:=⟨dst,.call {callee:=.value x,args,argTypes:=tys},ty,po,af,guard⟩) rfl e2 e1,kA];refine⟨λh=>by simp[fz,Fence.wide]at h,?_⟩;have :(args.toList.map a.eval).toArray=args.map a.eval:=kC (by rw[iL]);rw[this]at e3;exact e3 _ λu v s3 E' hi hk hr' hv _=>KR hn hi hk hr' hv
 ·rename_i t x i;unfold Td at h;split at h
  ·rename_i n e sz by_ ze co Ai;split at h
   ·rename_i cs hx;split at h
    ·rename_i k' ii CV;split at h
     ·rename_i ei hei;split at h
      ·rename_i hc;obtain⟨⟨h0,h1⟩,h2⟩:=h;simp only[eP]at hc;have hlen:cs.length=n:=dJ hc.1.1.1;obtain⟨m,v,m1,m2,m3⟩:=Tb (j:=0) h2 (by simpa using h0) (by rw[hlen];simpa using h1);have rx:=Fm r1.rep x;have ri:=Fm r1.rep i;rw[hx]at rx;rw[CV]at ri;have hm:m<n:=by rw[←hlen];exact(List.getElem?_eq_some_iff.1 m1).1
       have he:JM τ t (.agg cs) (.d (.int k') (Int.ofNat m))=some ⟨none,v,none⟩:=by have hb:Nat.blt m n=true:=Nat.ble_eq_true_of_le hm;simp only[JM,Ai,hei,hb,hc.1.1.2,hc.1.2,hc.2,Bool.and_self,m1]
       have ri':N P E (.d (.int k') (Int.ofNat m)) (a.eval i):=by
        have :ii=Int.ofNat m:=by simpa using m2
        rw[this]at ri;exact ri
       have :=Rj hτ he r1.good rx ri';have hran:G0 P ⟨dst,.index t x i,ty,po,af,guard⟩ a.eval E s.objs ⟨none,v,none⟩:=this.ran rfl;refine hran.did (by simp) next Q λE' u g' st hd hv=>?_;exact KR hn (.refl s) m3 (Af.edit (ed:=none) r1 rfl hd g' st) hv
      ·exact h.elim
     ·exact h.elim
    ·exact h.elim
   ·exact h.elim
  ·exact h.elim
 ·rename_i bop t x c yt;unfold UP at h;split at h
  ·rename_i e sz by_ ze co Ai;split at h
   ·split at h
    ·rename_i p hp;have ht:P.underlying t=some (.slice e):=(hτ t _ Ai).kind;obtain⟨a',n,cap,hx,S5⟩:=Zc r1.good hp (Fm r1.rep x);have heq:=XD (P:=P) ht a' n cap E.w;have EF:∀op,(eqGuard op t x (.const (.slice none 0 0)) (.slice a' n cap) (.slice none 0 0)).run P E.w=.ok () E.w:=λop=>IC _ _ _ _ rfl (by simp) _;split at h;·have hran:G0 P ⟨dst,.binOp .eql t x (.const (.slice none 0 0)) yt,ty,po,af,guard⟩ a.eval E s.objs ⟨none,.d .bool a'.isNone,none⟩:=(Ao.same (s:=do eqGuard .eql t x (.const (.slice none 0 0)) (a.eval x) (.slice none 0 0);Go.binOp .eql t (a.eval x) (.slice none 0 0)) r1.good (v:=.bool a'.isNone) (by rw[hx];simp only[eQ];rw[EF];simp only[eF,Go.binOp,eQ,heq,fQ]) (.mk_bool _)).ran rfl;refine hran.did (by simp) next Q λE' u g' st hd hv=>?_;exact KR hn (.refl s) (h a'.isNone S5) (Af.edit (ed:=none) r1 rfl hd g' st) hv
     ·have hran:G0 P ⟨dst,.binOp .neq t x (.const (.slice none 0 0)) yt,ty,po,af,guard⟩ a.eval E s.objs ⟨none,.d .bool !a'.isNone,none⟩:=(Ao.same (s:=do eqGuard .neq t x (.const (.slice none 0 0)) (a.eval x) (.slice none 0 0);Go.binOp .neq t (a.eval x) (.slice none 0 0)) r1.good (v:=.bool !a'.isNone) (by rw[hx];simp only[eQ];rw[EF];simp only[eF,Go.binOp,eQ,heq,fQ]) (.mk_bool _)).ran rfl;refine hran.did (by simp) next Q λE' u g' st hd hv=>?_;exact KR hn (.refl s) (h a'.isNone S5) (Af.edit (ed:=none) r1 rfl hd g' st) hv
     ·exact h.elim
    ·exact h.elim
   ·exact h.elim
  ·exact h.elim
 ·exact h.elim
end
section
variable {P : Program} {τ : AK} {κ : AZ} {φ : Nat → Option FX}
def Lp{σ:Type}(body:σ→(σ→Prop)→Prop)(x:σ):Prop:=∀R:σ→Prop,(∀y,body y R→R y)→R x
def Vj{σ:Type}(K:σ→Prop)(body:(σ→Prop)→Prop):Prop:=body K
def Fo:Code→Option Nat
 |.region id _ _=>some id|.seq a b=>match Fo a with|some n=>some n|none=>Fo b
 |.cond _ a b=>match Fo a with|some n=>some n|none=>Fo b
 |.block _ c=>Fo c|.loop c=>Fo c|.scope c=>Fo c|.rangeFunc _ _ a _=>Fo a|_=>none
def An.join(A:An)(d:Code):Option LA:=match Fo d with|some n=>A.jn n|.none=>.none
def St.add(s:St)(la:LA)(s0:St):St:=match la,s0,s with|⟨vs,es,an,dd⟩,⟨_,_,_,_,_,wr0,di0,_⟩,⟨nt,tmps,objs,nx,df,wr,di,mv⟩=>⟨nt,tmps,objs,nx,df,wr++(an++(LA.tmps vs++wr0)),di++(DP vs++dd++di0),mv⟩
theorem Mo{cx:Cx}{la:LA}{s0 s:St}{a:Act}{w:World}(h:Ab P cx s a w):Ab P cx (s.add la s0) a w:=by obtain⟨E,e,r⟩:=h;cases la;cases s0;cases s;exact⟨E,e,r.good,r.fresh,r.step,r.drawn,r.size,r.df,r.rep⟩
theorem Q8{cx:Cx}{s:St}{a:Act}{w:World}(h:Ab P cx s a w):Ab P cx s.clr a w:=by obtain⟨E,e,r⟩:=h;cases s;exact⟨E,e,r.good,r.fresh,r.step,r.drawn,r.size,r.df,r.rep⟩
theorem WE{s:St}:s.clr.mv=s.mv:=by cases s;rfl
theorem Sq{la:LA}{s:St}{y:CF la.vs}:∀l∈s.mv,l∈(head la s y).mv:=by cases la;cases s;exact λl hl=>fN _ hl
theorem Mn{la:LA}{s0 s:St}(h:Hd la s0 s)(hm:∀l∈s0.mv,l∈s.mv):AC s0 (s.add la s0):=by
 obtain⟨vs,es,an,dd⟩:=la;obtain⟨nt0,QC,dH,nx0,df0,wr0,di0,mv0⟩:=s0;obtain⟨nt,tmps,objs,nx,df,wr,di,mv⟩:=s;refine⟨h.nt,h.nx,λt ht=>?_,λl hl=>?_,hm,λt ht=>?_,λl hl=>?_,λhn=>?_⟩;·show t∈wr++(an++(LA.tmps vs++wr0));simp only[fC];exact .inr (.inr (.inr ht))
 ·show l∈di++(DP vs++dd++di0);simp only[fC];exact .inr (.inr hl)
 ·have ht:t∉wr++(an++(LA.tmps vs++wr0)):=ht;simp only[fC,fJ]at ht;exact h.tmp t ht.1 ht.2.1 ht.2.2.1
 ·have hl:l∉di++(DP vs++dd++di0):=hl;simp only[fC,fJ]at hl;exact h.obj l hl.1 (by show l∉DP vs++dd;simp only[fC,fJ];exact hl.2.1)
 ·have hn:nt0∉wr++(an++(LA.tmps vs++wr0)):=hn;simp only[fC,fJ]at hn;exact h.df hn.1
def QF(body:St→(Exit→St→Prop)→Prop):Nat→St→(Exit→St→Prop)→Prop|0,_,_=>False|n+1,s,k=>body s λe s'=>match e with|.normal=>QF body n s' k|e=>k e s'
abbrev DT:=XT→List Oper→St→(St→Prop)→Prop
def Mi(P:Program)(D:DT):Prop:=∀(X:XT)(id:Nat)(ops:Array Oper)(s:St)(k:St→Prop)(cx:Cx)(r:Option Nat)(R:CC),I4 P r cx X→D X ops.toList s k→∀a w,Ab P cx s a w→(∀s' a' w',AC s s'→k s'→Ab P cx s' a' w'→R .normal a' w')→(Code.region id ops true).wpIn (fz r) 0 P R a w
def Pk(l:Nat)(k:Exit→St→Prop)(s:St):Prop:=match s with|⟨nt,tmps,objs,nx,df,wr,di,mv⟩=>match A2 l mv with|true=>False|false=>match O l objs with
 |some (.lrec _ _ _ _ _ st j)=>match st with|.busy=>False|_=>match j with|.no=>k .normal ⟨nt,tmps,(l,.dead)::objs,nx,df,wr,l::di,mv⟩|.ret=>k .ret ⟨nt,tmps,(l,.dead)::objs,nx,df,wr,l::di,mv⟩|.exit i=>k (.exit i) ⟨nt,tmps,(l,.dead)::objs,nx,df,wr,l::di,mv⟩
 |_=>False
def Cj(τ:AK)(κ:AZ)(φ:Nat→Option FX)(D:DT)(run:Ci)(A:An)(Y:List (Nat×An))(ro:Bool):Nat→Code→St→(Exit→St→Prop)→Prop
 |_,.skip,s,k=>k .normal s|_,.label _,s,k=>k .normal s|_,.ret,s,k=>k .ret s|_,.exit i,s,k=>k (.exit i) s|_,.region id ops dr,s,k=>Em (A.gs id) s λs1=>match ops.toList with|l=>match dr with|false=>Cu τ κ (xW τ φ run A Y) l l [] s1 λs'=>k .normal s'|true=>D (xW τ φ run A Y) l s1 λs'=>k .normal s'
 |b,.seq c d,s,k=>match A.join d with
  |none=>Cj τ κ φ D run A Y ro b c s λe s'=>match e with|.normal=>Cj τ κ φ D run A Y ro b d s' k|e=>k e s'
  |some la=>Vj (λy=>Cj τ κ φ D run A Y ro b d ((head la s y).add la s) k) λJ=>Cj τ κ φ D run A Y ro b c s.clr λe s'=>match e with
   |.normal=>match back la s s' with|some y=>J y|none=>False
   |e=>k e (s'.add la s)
 |b,.cond x c d,s,k=>match AL s.tmps x with|.d .bool v=>cond v (Cj τ κ φ D run A Y ro b c s k) (Cj τ κ φ D run A Y ro b d s k)|_=>False
 |b,.block id c,s,k=>Cj τ κ φ D run A Y ro id c s λe s'=>match e with
  |.exit i=>match Nat.beq i id with|true=>k .normal s'|false=>k (.exit i) s'
  |e=>k e s'
 |b,.scope c,s,k=>Cj τ κ φ D run A Y ro b c s λe s'=>match e with|.goto _=>False|e=>k e s'
 |b,.loop c,s,k=>match ghosts (A.gs (1000+b)) s with|none=>False|some s=>match A.lp b with
  |none=>match A.un b with|some n=>QF (λs k=>Cj τ κ φ D run A Y ro b c s k) n s k|none=>False
  |some la=>match frzVs la.vs s with|s0=>match back la s0 s0.clr with
   |none=>False|some y0=>Lp (λy R=>Cj τ κ φ D run A Y ro b c (head la s0 y) λe s'=>match e with
    |.normal=>match back la s0 s' with|some y'=>R y'|none=>False
    |e=>k e (s'.add la s0)) y0
 |b,.rangeFunc g ps assign body,s,k=>match ro with|true=>False|false=>match s with|⟨nt,tmps,objs,nx,df,wr,di,mv⟩=>Kx τ φ run (A.call (5000+b)) ((nx+1,A)::Y) (AL tmps g) [.yl (nx+1)] ⟨nt,tmps,(nx+1,.lrec nt tmps ps.toList assign body .ready .no)::(nx,.dfb)::objs,nx+2,.mark nx::df,nt::wr,(nx+1)::nx::di,mv⟩ λ_ s'=>Pk (nx+1) k s'
 |_,_,_,_=>False
theorem aD(fn:FuncId)(tmps:Array Value)(ps:Array Tmp)(assign body:Code)(w:World):(Instr.enterLoop fn tmps ps assign body (fz none).round).run P w=.ok (w.heap.size+1,[{target:=.collected w.heap.size,args:=#[]}]) ((w.alloc (.deferred (some []))).alloc (.loop {state:=.ready,pending:=none,fn,tmps,params:=ps,assign,body,defers:=w.heap.size})):=run_enterLoop_outer fn tmps ps assign body
theorem Sr(w:World)(o:Go.Obj):(w.alloc o).heap[w.heap.size]?=some o:=World.alloc_heap_new w o
theorem Z1{cx:Cx}{s:St}{a:Act}{E:AB}(r:Af P cx s a E)(fn:FuncId)(ps:Array Tmp)(assign body:Code):∃E2,E2.w=(E.w.alloc (.deferred (some []))).alloc (.loop {state:=.ready,pending:=none,fn,tmps:=a.tmps,params:=ps,assign,body,defers:=E.w.heap.size})∧BE E E2 []∧E2.loc (s.nx+1)=some {b:=E.w.heap.size+1}∧Af P cx ⟨s.nt,s.tmps,(s.nx+1,.lrec s.nt s.tmps ps.toList assign body .ready .no)::(s.nx,.dfb)::s.objs,s.nx+2,.mark s.nx::s.df,s.nt::s.wr,(s.nx+1)::s.nx::s.di,s.mv⟩ {a with defers:={target:=.collected E.w.heap.size,args:=#[]}::a.defers} E2:=by
 have YA:=r.fresh s.nx (dT _);have p1:=U.push r.good (w:=E.w.alloc (.deferred (some []))) (l:=s.nx) (L:={b:=E.w.heap.size}) (o:=.dfb) YA (fV E.w _ none) (Sr E.w _) λ_=>dT _;have Fr:(E.setL (E.w.alloc (.deferred (some []))) s.nx {b:=E.w.heap.size}).loc (s.nx+1)=none:=by rw[Ax _ _ _ (by omega)];exact r.fresh _ (by omega)
 generalize N4:E.setL (E.w.alloc (.deferred (some []))) s.nx {b:=E.w.heap.size}=E1 at p1 Fr;have Oo:E1.w=E.w.alloc (.deferred (some [])):=by rw[←N4];rfl
 have AS:E1.w.heap.size=E.w.heap.size+1:=by rw[Oo];simp
 have hx1:BE E E1 []:=p1.2.ext;have hgr:=fV E1.w (.loop {state:=.ready,pending:=none,fn,tmps:=a.tmps,params:=ps,assign,body,defers:=E.w.heap.size}) none;have DM:=KP p1.1 {b:=E1.w.heap.size} Fr hgr;have p2:=U.push p1.1 (w:=E1.w.alloc (.loop {state:=.ready,pending:=none,fn,tmps:=a.tmps,params:=ps,assign,body,defers:=E.w.heap.size})) (l:=s.nx+1) (L:={b:=E1.w.heap.size}) (o:=.lrec s.nt s.tmps ps.toList assign body .ready .no) Fr hgr ⟨_,Sr E1.w _,r.size,λt=>((r.rep t).mono hx1).mono DM,rfl,rfl,rfl,rfl,rfl⟩ λ_=>dT _;refine⟨_,by rw[←Oo];rfl,?_,by rw[A6,AS],p2.1,λl hl=>?_,(r.step.trans p1.2).trans p2.2,by show cx.E.w.drawn≤(E1.w.alloc _).drawn;rw[Oo];exact r.drawn,r.size,?_,λt=>((r.rep t).mono hx1).mono DM⟩;·simpa using hx1.trans DM
 ·have hl:s.nx+2≤l:=hl;rw[Ax _ _ _ (by omega),←N4,Ax _ _ _ (by omega)];exact r.fresh l (by omega)
 ·exact⟨_,_,rfl,⟨_,by rw[Ax _ _ _ (by omega),←N4];exact A6 _ _ _ _,rfl⟩,(r.df.ext hx1).ext DM⟩
theorem Z0{l:Nat}{k:Exit→St→Prop}{cx:Cx}{s:St}{a:Act}{E:AB}{b:Nat}{R:CC}(h:Pk l k s)(r:Af P cx s a E)(hl:l∉s.mv→E.loc l=some {b:=b})(hk:∀e s' a' w',AC s s'→k e s'→Ab P cx s' a' w'→R e a' w'):rangePost (fz none) 0 P b R a (.returned undef) E.w:=by
 obtain⟨nt,tmps,objs,nx,df,wr,di,mv⟩:=s;unfold Pk at h;simp only at h;split at h;·exact h.elim
 ·rename_i hm;have hL:=hl λB3=>by rw[Cr.2 B3]at hm;cases hm
  split at h
  ·rename_i nt1 Ma ps1 as1 bo1 st j ho;obtain⟨K,hK,hat⟩:=r.good.at_ l _ ho;rw[hL]at hK;cases hK;obtain⟨q,q1,q2,q3,q4,q5,q6,q7,q8⟩:=hat;have AM:b<E.w.heap.size:=(Array.getElem?_eq_some_iff.1 q1).1;have hgr:E.w.grownBy (E.w.putObj b (.loop {q with state:=.exhausted})) (some b):=kR _ _ _;have hp:=U.put r.good (mv:=false) (o':=.dead) (L':={b:=b}) ho hL hgr (λb' e=>by cases e;exact⟨trivial,rfl⟩) (λ_=>rfl) trivial λh=>h.elim;have Xv:st≠.busy→q.state≠.busy:=λh e=>h (q7▸e);have Ev:Ab P cx ⟨nt,tmps,(l,.dead)::objs,nx,df,wr,l::di,mv⟩ a (E.w.putObj b (.loop {q with state:=.exhausted})):=by
    refine⟨_,rfl,hp.1,λk hk=>?_,r.step.trans hp.2,r.drawn,r.size,r.df.ext hp.2.ext,λt=>(r.rep t).mono hp.2.ext⟩;by_cases e:k=l;·subst e;have :=r.fresh k hk;rw[hL]at this;cases this
    ·rw[Ax _ _ _ e];exact r.fresh k hk
   have hinv:AC ⟨nt,tmps,objs,nx,df,wr,di,mv⟩ ⟨nt,tmps,(l,.dead)::objs,nx,df,wr,l::di,mv⟩:=⟨rfl,dT _,λ_ h=>h,λ_ h=>dS _ h,λ_ h=>h,λ_ _=>rfl,λk hk=>by simp only[eA,fJ]at hk;simp only;rw[Ad,dK (eS hk.1)],λ_=>rfl⟩;split at h;·exact h.elim
   ·rename_i BN;refine⟨j.code,_,by rw[←q8];exact run_endLoop q1 (Xv λe=>BN e),?_⟩;cases j with|no=>exact hk _ _ _ _ hinv h Ev|ret=>exact wpIn_ret (hk _ _ _ _ hinv h Ev)|exit i=>exact wpIn_exit (hk _ _ _ _ hinv h Ev)
  ·exact h.elim
end
section
variable {P : Program} {τ : AK} {κ : AZ} {φ : Nat → Option FX}
theorem VG{r:Option Nat}{cx:Cx}{R:CC}{c:Code}{body:St→(Exit→St→Prop)→Prop}{k:Exit→St→Prop}(hb:∀(s:St)(k:Exit→St→Prop)(R:CC),body s k→∀a w,Ab P cx s a w→(∀e s' a' w',AC s s'→k e s'→Ab P cx s' a' w'→R e a' w')→c.wpIn (fz r) 0 P R a w):∀(n:Nat)(s:St),QF body n s k→∀a w,Ab P cx s a w→(∀e s' a' w',AC s s'→k e s'→Ab P cx s' a' w'→R e a' w')→E9 (fz r) P c R a w|0,_,h,_,_,_,_=>h.elim|n+1,s,h,a,w,hr,hk=>E9.round (hb s _ _ h a w hr λe s' a' w' hi hq hr'=>by cases e with|normal=>exact VG hb n s' hq a' w' hr' λe s'' a'' w'' hi' hq' hr''=>hk e s'' a'' w'' (hi.trans hi') hq' hr''|_=>exact hk _ s' a' w' hi hq hr')
theorem Zg(ops:Array Oper):ops.toList.map some=(List.range ops.size).map λi=>ops[i]?:=by
 apply fP;intro j;simp only[fT,fD];by_cases h:j<ops.size;·rw[iR h];simp[h]
 ·rw[fM (by simp;omega),jA (by omega)];rfl
theorem WG(hτ:Ah P τ)(hκ:Aj P κ)(hφ:∀g fi,φ g=some fi→fi.Ok P g){D:DT}(hD:Mi P D){run:Ci}(hrun:Bf P run){A:An}{Y:List (Nat×An)}{r:Option Nat}{cx:Cx}:∀(c:Code)(b:Nat)(s:St)(k:Exit→St→Prop)(R:CC),Cj τ κ φ D run A Y r.isSome b c s k→∀a w,Ab P cx s a w→(∀e s' a' w',AC s s'→k e s'→Ab P cx s' a' w'→R e a' w')→c.wpIn (fz r) 0 P R a w:=by intro c;induction c with
 |skip=>intro b s k R h a w hr hk;exact wpIn_skip (hk _ s a w (.refl s) h hr)|label l=>intro b s k R h a w hr hk;exact wpIn_label (hk _ s a w (.refl s) h hr)|ret=>intro b s k R h a w hr hk;exact wpIn_ret (hk _ s a w (.refl s) h hr)|exit i=>intro b s k R h a w hr hk;exact wpIn_exit (hk _ s a w (.refl s) h hr)|goto l=>intro b s k R h a w hr hk;exact h.elim|refuse l=>intro b s k R h a w hr hk;exact h.elim|region id ops dr=>intro b s k R h a w hr hk;simp only[Cj]at h;obtain⟨s1,hi1,hr1,h⟩:=IL h hr;cases dr with|false=>simp only at h;refine wpIn_region ?_;have :=PQ (Q:=R) hτ hκ (VS (r:=r) (cx:=cx) hτ hφ hrun) (is:=List.range ops.size) (Zg ops) h hr1 λs' a' w' hi hq hr'=>hk _ s' a' w' (hi1.trans hi) hq hr';exact this|true=>exact hD _ id ops s1 _ cx r R (VS hτ hφ hrun) h a w hr1 λs' a' w' hi hq hr'=>hk _ s' a' w' (hi1.trans hi) hq hr'
 |seq c d ihc ihd=>
  intro b s k R h a w hr hk;simp only[Cj]at h;split at h;·refine wpIn_seq (ihc b s _ _ h a w hr λe s' a' w' hi hq hr'=>?_);cases e with|normal=>exact ihd b s' k R hq a' w' hr' λe s'' a'' w'' hi' hq' hr''=>hk e s'' a'' w'' (hi.trans hi') hq' hr''|_=>exact hk _ s' a' w' hi hq hr'
  ·rename_i la YI;refine wpIn_seq (ihc b s.clr _ _ h a w (Q8 hr) λe s' a' w' hi hq hr'=>?_);have hd:Hd la s s':=(Hd.clr la s).inv hi;have EV:∀l∈s.mv,l∈s'.mv:=λl hl=>hi.mv l (by rw[WE];exact hl);cases e with
   |normal=>
    simp only at hq;split at hq;·rename_i y hy;have J1:=M2 hr hd hy hr';exact ihd b _ k R hq a' w' (Mo J1) λe s'' a'' w'' hi' hq' hr''=>hk e s'' a'' w'' ((Mn (Hd.head la s y) Sq).trans hi') hq' hr''
    ·exact hq.elim|_=>exact hk _ _ a' w' (Mn hd EV) hq (Mo hr')
 |cond x c d ihc ihd=>
  intro b s k R h a w hr hk;simp only[Cj]at h;split at h;·rename_i v hv;obtain⟨E,rfl,r1⟩:=id hr;have rx:=Fm r1.rep x;rw[hv]at rx;cases v with|true=>exact wpIn_cond rx.bool_inv (ihc b s k R h a _ hr hk)|false=>exact wpIn_cond rx.bool_inv (ihd b s k R h a _ hr hk)
  ·exact h.elim|block id c ih=>intro b s k R h a w hr hk;simp only[Cj]at h;refine wpIn_block (ih id s _ _ h a w hr λe s' a' w' hi hq hr'=>?_);cases e with
  |exit i=>
   simp only at hq;simp only[Exit.inBlock];split at hq;·rename_i e;rw[dO (dJ e)];exact hk _ s' a' w' hi hq hr'
   ·rename_i e;rw[dK (fS e)];exact hk _ s' a' w' hi hq hr'|_=>exact hk _ s' a' w' hi hq hr'
 |scope c ih=>intro b s k R h a w hr hk;simp only[Cj]at h;refine V4 (ih b s _ _ h a w hr λe s' a' w' hi hq hr'=>?_);cases e with|goto l=>exact hq.elim|_=>exact hk _ s' a' w' hi hq hr'
 |loop c ih=>
  intro b s k R h a w hr hk;simp only[Cj]at h;split at h;·exact h.elim
  ·rename_i sg TO;replace hk:∀e s' a' w',AC sg s'→k e s'→Ab P cx s' a' w'→R e a' w':=λe s' a' w' hi=>hk e s' a' w' ((AC.ghosts TO).trans hi);replace hr:=SL TO a w hr;split at h
   ·split at h;·rename_i n hn;exact(VG (λs k R h a w hr hk=>ih b s k R h a w hr hk) n sg h a w hr hk).loop
    ·exact h.elim
   ·rename_i la YI;have J0:=Kf (P:=P) (cx:=cx) la.vs sg a w hr;have hi0:=AC.frzVs la.vs sg;revert h J0 hi0;generalize frzVs la.vs sg=s0;intro h J0 hi0;split at h;·exact h.elim
    ·rename_i y0 Yx;have GW:Ab P cx (head la s0 y0) a w:=M2 J0 (Hd.clr la s0) Yx (Q8 J0);refine E9.loop (h (λy=>∀a w,Ab P cx (head la s0 y) a w→E9 (fz r) P c R a w) (λy hy a w hr=>E9.round (ih b _ _ _ hy a w hr λe s' a' w' hi hq hr'=>?_)) a w GW);have hd:Hd la s0 s':=(Hd.head la s0 y).inv hi;have EV:∀l∈s0.mv,l∈s'.mv:=λl hl=>hi.mv l (Sq l hl);cases e with
     |normal=>
      simp only at hq;split at hq;·rename_i y' hy';exact hq a' w' (M2 J0 hd hy' hr')
      ·exact hq.elim|_=>exact hk _ _ a' w' (hi0.trans (Mn hd EV)) hq (Mo hr')
 |rangeFunc g ps assign body=>
  intro b s k R h a w hr hk;simp only[Cj]at h;split at h;·exact h.elim
  ·rename_i Ga;have Yc:r=none:=by cases r with|none=>rfl|some _=>cases Ga
   subst Yc;obtain⟨nt,tmps,objs,nx,df,wr,di,mv⟩:=s;simp only at h;obtain⟨E,rfl,r1⟩:=hr;refine wpIn_rangeFunc λfn _=>?_;obtain⟨E2,e1,e2,e3,r2⟩:=Z1 r1 fn ps assign body;have rg:N P E2 (AL tmps g) (a.eval g):=(Fm r1.rep g).mono e2;have ry:AE P E2 [.yl (nx+1)] [.func (.yield (E.w.heap.size+1)) #[] #[]]:=.cons (.yl e3) .nil;obtain⟨gf,p,q,f1,f2,f3⟩:=Qz hτ hφ hrun h r2 rg ry;rw[e1]at f3;refine⟨E.w.heap.size+1,_,_,⟨.fn (.func gf) q,p++#[.func (.yield (E.w.heap.size+1)) #[] #[]]⟩,(E.w.alloc (.deferred (some []))).alloc (.loop {state:=.ready,pending:=none,fn,tmps:=a.tmps,params:=ps,assign,body,defers:=E.w.heap.size}),gf,p++#[.func (.yield (E.w.heap.size+1)) #[] #[]]++q,(E.w.alloc (.deferred (some []))).alloc (.loop {state:=.ready,pending:=none,fn,tmps:=a.tmps,params:=ps,assign,body,defers:=E.w.heap.size}),aD fn a.tmps ps assign body E.w,?_,λ_ _=>trivial,?_,λh=>by simp[fz,Fence.wide]at h,?_⟩;·show(Deferred.ofValue (a.eval g) _).run P _=_;rw[f1];simp[rangeCall,Deferred.ofValue,show∀c,a.eval (.const c)=c from λ_=>rfl]
   ·simp only[invoke];exact M6 f2 _ _
   ·have f3':=λR hR=>f3 R hR;simp only[List.toArray]at f3';refine f3' _ λu v s3 E' hi hq hr' _ hx=>?_;refine Z0 hq hr' (λhm=>?_) λe s' a' w' hi' hq' hr''=>hk e s' a' w' ?_ hq' hr'';·exact hx _ _ hm e3
    ·refine AC.trans ?_ (hi.trans hi');exact⟨rfl,by simp only;omega,λ_ h=>dS _ h,λ_ h=>dS _ (dS _ h),λ_ h=>h,λ_ _=>rfl,λk hk=>by simp only[eA,fJ]at hk;simp only;rw[Ad,dK (eS hk.1),Ad,dK (eS hk.2.1)],λhn=>by simp at hn⟩
def Pz(τ:AK)(κ:AZ)(φ:Nat→Option FX)(D:DT):Nat→Ci|0,_,_,_,_,_,_=>False|n+1,A,Y,ro,c,s,k=>Cj τ κ φ D (Pz τ κ φ D n) A Y ro 0 c s k
theorem Uq(hτ:Ah P τ)(hκ:Aj P κ)(hφ:∀g fi,φ g=some fi→fi.Ok P g){D:DT}(hD:Mi P D):∀n,Bf P (Pz τ κ φ D n)|0=>λ_ _ _ _ _ _ _ _ h=>h.elim|n+1=>λA Y r c s k cx R h a w hr hk=>WG hτ hκ hφ hD (Uq hτ hκ hφ hD n) c 0 s k R h a w hr hk
end
section
variable {P : Program} {τ : AK} {κ : AZ} {φ : Nat → Option FX}
def HJ(τ:AK)(run:Ci)(A:An)(fi:FI)(ps:List PS)(rs:List Ty)(xs:BO ps)(Q:A8 rs→Prop):Prop:=match fi with|⟨nt,res,code⟩=>match C2 ps xs with|vs=>match Nat.ble vs.length nt with|false=>False|true=>run A [] false code ⟨nt,FA 0 vs,[],0,[],[],[],[]⟩ λe s=>match If e with|false=>False|true=>match HH τ res s with|none=>False|some (v,s2)=>match Gi 9 s2.objs [v]with
 |some ([v'],_)=>match Iz rs v' with|some r=>Q r|none=>False
 |_=>False
def JT(τ:AK)(run:Ci)(A:An)(fi:FI)(ps:List PS)(xs:BO ps)(Q:V→Prop):Prop:=match fi with|⟨nt,res,code⟩=>match C2 ps xs with|vs=>match Nat.ble vs.length nt with|false=>False|true=>run A [] false code ⟨nt,FA 0 vs,[],0,[],[],[],[]⟩ λe s=>match If e with|false=>False|true=>match HH τ res s with|none=>False|some (v,s2)=>match Gi 9 s2.objs [v]with|some ([v'],_)=>Q v'|_=>False
theorem SM{w:World}{S:Nat→Prop}(hS:EO P w S):U P ⟨w,S,λ_=>none⟩ []:=⟨λl o h=>(by cases h),λb h=>(by obtain⟨l,o,L,h,_⟩:=h;cases h),hS.lt,hS.tab,λi j o o' L L' h=>by cases h⟩
theorem R1(hτ:Ah P τ){run:Ci}(hrun:Bf P run){A:An}{f:FuncId}{fi:FI}(hok:fi.Ok P f){ps:List PS}{rs:List Ty}{xs:BO ps}{Q:A8 rs→Prop}(h:HJ τ run A fi ps rs xs Q){w:World}{S:Nat→Prop}(hS:EO P w S){args:Array Value}(ra:AE P ⟨w,S,λ_=>none⟩ (C2 ps xs) args.toList):Calls P f args w λe w2=>∃v S2 r,e=.returned v∧EN w S w2 S2∧N P ⟨w2,S2,λ_=>none⟩ (AO rs r) v∧Q r:=by
 obtain⟨nt,res,code⟩:=fi;obtain⟨fn,h1,h2,h3,h4,h5⟩:=id hok;unfold HJ at h;simp only at h h3 h4;split at h;·exact h.elim
 ·rename_i hlen;have g0:U P ⟨w,S,λ_=>none⟩ []:=SM hS;have Ev:=Nh (nx:=0) (nt:=nt) g0 (λ_ _=>rfl) ra (eJ hlen);have Fs:CallsIn (fz none) 0 P f args w λe w2=>∃v S2 r,e=.returned v∧EN w S w2 S2∧N P ⟨w2,S2,λ_=>none⟩ (AO rs r) v∧Q r:=by
   refine jR h1 h2 trivial ?_;rw[h3];refine hrun A [] none code _ _ ⟨⟨w,S,λ_=>none⟩,[]⟩ _ h _ w Ev λe s1 a1 w1 hi hk hr1=>?_;have fin:If e=true→LeavesInM (fz none) 0 P fn a1.tmps (λe w2=>∃v S2 r,e=.returned v∧EN w S w2 S2∧N P ⟨w2,S2,λ_=>none⟩ (AO rs r) v∧Q r) a1.defers .returning w1:=λhe=>by
    rw[he]at hk;simp only at hk;split at hk;·exact hk.elim
    ·rename_i v s2 hf;split at hk
     ·rename_i v' ks hl;split at hk
      ·rename_i r hr;refine O7 hτ (fi:=⟨nt,res,code⟩) h4 hf hr1 λu E' haft hu=>?_;have HV:∀b,¬Bi ⟨w,S,λ_=>none⟩ [] b:=λb h=>by obtain⟨l,o,L,h,_⟩:=h;cases h
       obtain⟨S',k1,k2,_,k4,k5,k6⟩:=Ly hl haft.good (.cons hu .nil);have st:=haft.step;refine⟨u,S',r,rfl,⟨haft.drawn,st.os,st.tape,st.output,st.size,λb hb=>st.frame b hb (HV b),λb hb=>k1 b (st.ext.S b hb).1,λb hb=>?_,k2⟩,Ul (VI hr k5.head),hk⟩;rcases k6 b hb with h|h
       ·rcases st.st b h with h|h|h;·exact .inl h
        ·exact .inr h
        ·exact absurd h (HV b)
       ·rcases st.own b h with h|h;·exact .inr h
        ·exact absurd h (HV b)
      ·exact hk.elim
     ·exact hk.elim
   cases e with|normal=>exact fin rfl|ret=>exact fin rfl|_=>exact hk.elim
  exact callsIn_wide.1 Fs
theorem XM(hτ:Ah P τ){run:Ci}(hrun:Bf P run){A:An}{f:FuncId}{fi:FI}(hok:fi.Ok P f){ps:List PS}{xs:BO ps}{Q:V→Prop}(h:JT τ run A fi ps xs Q){w:World}{S:Nat→Prop}(hS:EO P w S){args:Array Value}(ra:AE P ⟨w,S,λ_=>none⟩ (C2 ps xs) args.toList):Calls P f args w λe w2=>∃v S2 r,e=.returned v∧EN w S w2 S2∧N P ⟨w2,S2,λ_=>none⟩ r v∧Q r:=by
 obtain⟨nt,res,code⟩:=fi;obtain⟨fn,h1,h2,h3,h4,h5⟩:=id hok;unfold JT at h;simp only at h h3 h4;split at h;·exact h.elim
 ·rename_i hlen;have g0:U P ⟨w,S,λ_=>none⟩ []:=SM hS;have Ev:=Nh (nx:=0) (nt:=nt) g0 (λ_ _=>rfl) ra (eJ hlen);have Fs:CallsIn (fz none) 0 P f args w λe w2=>∃v S2 r,e=.returned v∧EN w S w2 S2∧N P ⟨w2,S2,λ_=>none⟩ r v∧Q r:=by
   refine jR h1 h2 trivial ?_;rw[h3];refine hrun A [] none code _ _ ⟨⟨w,S,λ_=>none⟩,[]⟩ _ h _ w Ev λe s1 a1 w1 hi hk hr1=>?_;have fin:If e=true→LeavesInM (fz none) 0 P fn a1.tmps (λe w2=>∃v S2 r,e=.returned v∧EN w S w2 S2∧N P ⟨w2,S2,λ_=>none⟩ r v∧Q r) a1.defers .returning w1:=λhe=>by
    rw[he]at hk;simp only at hk;split at hk;·exact hk.elim
    ·rename_i v s2 hf;split at hk
     ·rename_i v' ks hl
      ·refine O7 hτ (fi:=⟨nt,res,code⟩) h4 hf hr1 λu E' haft hu=>?_;have HV:∀b,¬Bi ⟨w,S,λ_=>none⟩ [] b:=λb h=>by obtain⟨l,o,L,h,_⟩:=h;cases h
       obtain⟨S',k1,k2,_,k4,k5,k6⟩:=Ly hl haft.good (.cons hu .nil);have st:=haft.step;refine⟨u,S',v',rfl,⟨haft.drawn,st.os,st.tape,st.output,st.size,λb hb=>st.frame b hb (HV b),λb hb=>k1 b (st.ext.S b hb).1,λb hb=>?_,k2⟩,Q7 (E:=⟨E'.w,S',E'.loc⟩) (E':=⟨E'.w,S',λ_=>none⟩) (λb hb=>⟨hb,rfl⟩) k5.head (by simp only[Bg]at k4;split at k4<;>first|(cases k4;done)|assumption),hk⟩;rcases k6 b hb with h|h
       ·rcases st.st b h with h|h|h;·exact .inl h
        ·exact .inr h
        ·exact absurd h (HV b)
       ·rcases st.own b h with h|h;·exact .inr h
        ·exact absurd h (HV b)
     ·exact hk.elim
   cases e with|normal=>exact fin rfl|ret=>exact fin rfl|_=>exact hk.elim
  exact callsIn_wide.1 Fs
def Gg:(T:Ty)→T.den→Prop|.sl t,l=>List.length (α:=t.den) l≤9223372036854775807∧∀x∈(l:List t.den),Gg t x|.pair a b,x=>Gg a x.1∧Gg b x.2|_,_=>True
def He:(ps:List PS)→BO ps→Prop|[],_=>True|.d T::l,x=>Gg T x.1∧He l x.2|.e T::l,x=>Gg T x.1∧He l x.2|.f _ _::l,x=>He l x.2
theorem JC{w:World}{S:Nat→Prop}:∀{T:Ty}{x:T.den}{cs:List Value},Al w S T x cs→Gg T x|.int _,_,_,_=>trivial|.bool,_,_,_=>trivial|.str,_,_,_=>trivial|.unit,_,_,_=>trivial|.pair a b,x,cs,⟨c1,c2,_,h1,h2⟩=>⟨JC h1,JC h2⟩|.sl t,l,cs,⟨a,c,_,hc,hl⟩=>⟨eO hc.1 hc.2,λx hx=>by
 obtain⟨i,hi⟩:=hJ hx;obtain⟨b,off,_,_,h⟩:=hl λe=>by subst e;simp at hi
 obtain⟨cs',h1,_⟩:=h i x hi;exact JC h1⟩
theorem LK{E:AB}:∀{T:Ty}{x:T.den},(∀v∈DI T x,∃c,N P E v c)→Gg T x|.int _,_,_=>trivial|.bool,_,_=>trivial|.str,_,_=>trivial|.unit,_,_=>trivial|.pair a b,x,h=>⟨LK λv hv=>h v (fR _ hv),LK λv hv=>h v (fN _ hv)⟩|.sl t,l,h=>by obtain⟨c,hc⟩:=h (.d (.sl t) l) (by simp[DI]);exact JC (T:=.sl t) (Hr hc)
theorem Z8{E:AB}{vs:List V}{cs:List Value}(r:AE P E vs cs){v:V}(hv:v∈vs):∃c,N P E v c:=by obtain⟨i,hi⟩:=hJ hv;have AM:=(List.getElem?_eq_some_iff.1 hi).1;have :=r.2 i AM;rw[dM,hi]at this;exact⟨_,this⟩
theorem V3{E:AB}:∀{T:Ty}{x:T.den}{c:Value},N P E (D6 T x) c→Gg T x|.pair a b,x,c,r=>by obtain⟨ca,rfl,rs⟩:=Qf (show N P E (.agg (DI (.pair a b) x)) c from r);exact LK λv hv=>Z8 rs hv|.int _,_,_,_=>trivial|.bool,_,_,_=>trivial|.str,_,_,_=>trivial|.unit,_,_,_=>trivial|.sl t,l,c,r=>JC (T:=.sl t) (Hr r)
theorem Kc{E:AB}:∀{ps:List PS}{xs:BO ps}{cs:List Value},AE P E (C2 ps xs) cs→He ps xs
 |[],_,_,_=>trivial|.d T::l,x,c::cs,r=>⟨V3 r.head,Kc r.tail⟩|.d T::l,x,[],r=>absurd r.1 (by simp[C2])|.e T::l,x,c::cs,r=>by refine⟨?_,Kc r.tail⟩;have h:N P E (.er (DI T x.1)) c:=r.head;cases h with|er f _ _ hr=>refine LK (P:=P) (E:=E) λv hv=>?_;obtain⟨i,hi⟩:=hJ hv;have AM:=(List.getElem?_eq_some_iff.1 hi).1;have :=hr i AM;rw[dM,hi]at this;exact⟨_,this⟩
 |.e T::l,x,[],r=>absurd r.1 (by simp[C2])|.f _ _::l,x,c::cs,r=>Kc (ps:=l) r.tail|.f _ _::l,x,[],r=>absurd r.1 (by simp[C2])
theorem WK(hτ:Ah P τ){run:Ci}(hrun:Bf P run){A:An}{f:FuncId}{fi:FI}(hok:fi.Ok P f){ps:List PS}{rs:List Ty}{pre:Option (BO ps→Prop)}{fn:BO ps→A8 rs}(h:∀xs,He ps xs→Ae (AQ.ob ⟨ps,pre,λxs=>AO rs (fn xs)⟩ xs)→HJ τ run A fi ps rs xs λr=>r=fn xs):AR P f ⟨ps,pre,λxs=>AO rs (fn xs)⟩:=⟨hok.call,λw S xs hS hp args ra=>gG (R1 hτ hrun hok (h xs (Kc ra) hp) hS ra) λe w2⟨v,S2,r,h1,h2,h3,h4⟩=>⟨v,S2,h1,h2,by subst h4;exact h3⟩⟩
theorem RC(hτ:Ah P τ){run:Ci}(hrun:Bf P run){A:An}{f:FuncId}{fi:FI}(hok:fi.Ok P f){c:AQ}(h:∀xs,He c.ps xs→Ae (c.ob xs)→JT τ run A fi c.ps xs λr=>r=c.res xs):AR P f c:=⟨hok.call,λw S xs hS hp args ra=>gG (XM hτ hrun hok (h xs (Kc ra) hp) hS ra) λe w2⟨v,S2,r,h1,h2,h3,h4⟩=>⟨v,S2,h1,h2,by subst h4;exact h3⟩⟩
end
section
variable {P : Program} {τ : AK} {κ : AZ} {φ : Nat → Option FX}
def Tf(n:Nat)(l:List Nat):List Nat:=match A2 n l with|true=>l|false=>n::l
def Hv:List Nat→List Nat→List Nat|[],l=>l|n::r,l=>Hv r (Tf n l)
def BG(i:Nat)(T:List (Nat×List Nat)):List Nat:=match Ej i T with|some l=>l|none=>[]
def NI(T:List (Nat×List Nat)):List Edge→List Nat|[]=>[]|e::r=>match Region.binds .any e with|true=>Tf e.on (Hv (BG e.on T) (NI T r))|false=>NI T r
def Ua:Nat→List Oper→List (Nat×List Nat)→List (Nat×List Nat)|_,[],T=>T|i,⟨_,_,_,_,af,_⟩::r,T=>match NI T af.toList with|l=>Ua (i+1) r ((i,l)::T)
def G3(T:List (Nat×List Nat))(j:Nat):List Edge→Bool|[]=>false|e::r=>match Region.binds .any e with
 |true=>match Nat.beq e.on j with|true=>true|false=>match A2 j (BG e.on T)with|true=>true|false=>G3 T j r
 |false=>G3 T j r
def H2(T:List (Nat×List Nat))(af:List Edge)(i:Nat):List Nat→Bool|[]=>true|j::r=>match G3 T j af with
 |true=>match Nat.blt j i with|true=>H2 T af i r|false=>false
 |false=>false
def Hb(ps:List Nat):List Edge→Bool|[]=>true|e::r=>match Region.binds .any e with
 |true=>match A2 e.on ps with|true=>Hb ps r|false=>false
 |false=>Hb ps r
def KO(T:List (Nat×List Nat)):Nat→List Oper→Bool|_,[]=>true|i,⟨_,_,_,_,af,_⟩::r=>match BG i T with|ps=>match Hb ps af.toList with
 |true=>match H2 T af.toList i ps with|true=>KO T (i+1) r|false=>false
 |false=>false
theorem Ov{ps:List Nat}:∀{l:List Edge},Hb ps l=true→∀e∈l,Region.binds .any e=true→e.on∈ps
 |[],_,e,h,_=>by simp at h|e::r,h,e',he,hb=>by
  simp only[Hb]at h;split at h
  ·split at h
   ·rename_i h1;rcases List.mem_cons.1 he with rfl|he;·exact Cr.1 h1
    ·exact Ov h e' he hb
   ·cases h
  ·rename_i h0;rcases List.mem_cons.1 he with rfl|he;·rw[hb]at h0;cases h0
   ·exact Ov h e' he hb
theorem Qj{T:List (Nat×List Nat)}{j:Nat}:∀{l:List Edge},G3 T j l=true→∃e∈l,Region.binds .any e=true∧(e.on=j∨j∈BG e.on T)
 |[],h=>by cases h|e::r,h=>by
  simp only[G3]at h;have rec':G3 T j r=true→∃e'∈e::r,Region.binds .any e'=true∧(e'.on=j∨j∈BG e'.on T):=λh=>by obtain⟨e',h1,h2⟩:=Qj h;exact⟨e',dS _ h1,h2⟩
  split at h
  ·rename_i hb;split at h;·rename_i h1;exact⟨e,by simp,hb,.inl (dJ h1)⟩
   ·split at h;·rename_i h1;exact⟨e,by simp,hb,.inr (Cr.1 h1)⟩
    ·exact rec' h
  ·exact rec' h
theorem Mp{T:List (Nat×List Nat)}{af:List Edge}{i:Nat}:∀{l:List Nat},H2 T af i l=true→∀j∈l,G3 T j af=true∧j<i
 |[],_,j,h=>by simp at h|k::r,h,j,hj=>by
  simp only[H2]at h;split at h
  ·rename_i h1;split at h
   ·rename_i h2;rcases List.mem_cons.1 hj with rfl|hj;·exact⟨h1,eJ h2⟩
    ·exact Mp h j hj
   ·cases h
  ·cases h
structure PT(ops:Array Oper)(T:List (Nat×List Nat)):Prop where
 lt:∀i j,i<ops.size→j∈BG i T→j<i
 edge:∀i o e,ops[i]?=some o→e∈o.after→Region.binds .any e=true→e.on∈BG i T
 back:∀i o j,ops[i]?=some o→j∈BG i T→∃e∈o.after,Region.binds .any e=true∧(e.on=j∨j∈BG e.on T)
theorem UZ{T:List (Nat×List Nat)}:∀{l:List Oper}{i j:Nat}{o:Oper},KO T i l=true→l[j]?=some o→Hb (BG (i+j) T) o.after.toList=true∧H2 T o.after.toList (i+j) (BG (i+j) T)=true
 |[],_,_,_,_,h=>by simp at h|⟨_,_,_,_,af,_⟩::r,i,j,o,h,hj=>by
  simp only[KO]at h;split at h
  ·rename_i h1;split at h;·rename_i h2;cases j with|zero=>simp at hj;subst hj;exact⟨h1,h2⟩|succ j=>have :=UZ (j:=j) h (by simpa using hj);rw[show i+1+j=i+(j+1)from by omega]at this;exact this
   ·cases h
  ·cases h
theorem PT.of{ops:Array Oper}{T:List (Nat×List Nat)}(h:KO T 0 ops.toList=true):PT ops T:=by
 have get:∀i o,ops[i]?=some o→Hb (BG i T) o.after.toList=true∧H2 T o.after.toList i (BG i T)=true:=λi o hi=>by have :=UZ (i:=0) (j:=i) h (by simpa using hi);simpa using this
 refine⟨λi j hi hj=>?_,λi o e hi he hb=>Ov (get i o hi).1 e (Array.mem_toList_iff.2 he) hb,λi o j hi hj=>?_⟩;·exact(Mp (get i ops[i] (eZ hi)).2 j hj).2
 ·obtain⟨e,h1,h2,h3⟩:=Qj (Mp (get i o hi).2 j hj).1;exact⟨e,Array.mem_toList_iff.1 h1,h2,h3⟩
structure Rc where
 i:Nat
 dst:Option Nat
 v:V
 ed:AA
 ks:List Nat
def Gf:AA→List Nat|[]=>[]|(l,_)::r=>l::Gf r
theorem II{l:Nat}:∀{a b:AA},O l (a++b)=match O l a with|some o=>some o|none=>O l b
 |[],_=>rfl|(k,o)::r,b=>by
  rw[gE,Ad,Ad];split;·rfl
  ·exact II
theorem KC{l:Nat}{o:Obj}:∀{a:AA},O l a=some o→l∈Gf a
 |[],h=>by cases h|(k,p)::r,h=>by
  rw[Ad]at h;split at h;·rename_i e;simp[Gf,e]
  ·exact dS _ (KC h)
def Rc.app(r:Rc)(s:St):St:=match r,s with|⟨_,dst,v,ed,_⟩,⟨nt,tmps,objs,nx,df,wr,di,mv⟩=>⟨nt,match dst with|some d=>(d,v)::tmps|none=>tmps,ed++objs,nx,df,match dst with|some d=>d::wr|none=>wr,Gf ed++di,mv⟩
def replay(p:Nat→Bool):List Rc→St→St|[],s=>s|r::rs,s=>replay p rs (if p r.i then r.app s else s)
def Cq(p:Nat→Bool)(t:Nat):List Rc→Option V|[]=>none|r::rs=>match Cq p t rs with|some v=>some v|none=>if p r.i=true∧r.dst=some t then some r.v else none
def CY(p:Nat→Bool)(l:Nat):List Rc→Option Obj|[]=>none|r::rs=>match CY p l rs with|some o=>some o|none=>if p r.i=true then O l r.ed else none
theorem Mv{r:Rc}{s:St}{t:Nat}:AF t (r.app s).tmps=if r.dst=some t then r.v else AF t s.tmps:=by obtain⟨i,dst,v,ed,ks⟩:=r;cases s;cases dst with|none=>simp[Rc.app]|some d=>simp[Rc.app,BU]
theorem Qm{r:Rc}{s:St}{l:Nat}:O l (r.app s).objs=match O l r.ed with|some o=>some o|none=>O l s.objs:=by obtain⟨i,dst,v,ed,ks⟩:=r;cases s;simp only[Rc.app,II]
theorem KU{p:Nat→Bool}{t:Nat}:∀{R:List Rc}{s:St},AF t (replay p R s).tmps=match Cq p t R with|some v=>v|none=>AF t s.tmps
 |[],_=>rfl|r::rs,s=>by simp only[replay,Cq];rw[KU (R:=rs)];cases h:Cq p t rs with|some v=>rfl|none=>
  simp only;by_cases hp:p r.i=true
  ·rw[dO hp,Mv];by_cases hd:r.dst=some t;·rw[dO hd,dO ⟨hp,hd⟩]
   ·rw[dK hd,dK λh=>hd h.2]
  ·rw[dK hp,dK λh=>hp h.1]
theorem KT{p:Nat→Bool}{l:Nat}:∀{R:List Rc}{s:St},O l (replay p R s).objs=match CY p l R with|some o=>some o|none=>O l s.objs
 |[],_=>rfl|r::rs,s=>by simp only[replay,CY];rw[KT (R:=rs)];cases h:CY p l rs with|some v=>rfl|none=>
  simp only;by_cases hp:p r.i=true;·rw[dO hp,dO hp,Qm]
  ·rw[dK hp,dK hp]
theorem MM{p:Nat→Bool}:∀{R:List Rc}{s:St},(replay p R s).nt=s.nt∧(replay p R s).nx=s.nx∧(replay p R s).df=s.df∧(replay p R s).mv=s.mv
 |[],_=>⟨rfl,rfl,rfl,rfl⟩|r::rs,s=>by
  have h:=MM (p:=p) (R:=rs) (s:=if p r.i then r.app s else s);have e:(if p r.i then r.app s else s).nt=s.nt∧(if p r.i then r.app s else s).nx=s.nx∧(if p r.i then r.app s else s).df=s.df∧(if p r.i then r.app s else s).mv=s.mv:=by
   split;·cases s;exact⟨rfl,rfl,rfl,rfl⟩
   ·exact⟨rfl,rfl,rfl,rfl⟩
  exact⟨h.1.trans e.1,h.2.1.trans e.2.1,h.2.2.1.trans e.2.2.1,h.2.2.2.trans e.2.2.2⟩
theorem O4{p q:Nat→Bool}{l:Nat}:∀{R:List Rc},(∀r∈R,∀o,O l r.ed=some o→p r.i=q r.i)→CY p l R=CY q l R|[],_=>rfl|r::rs,h=>by simp only[CY];rw[O4 (R:=rs) λr' hr'=>h r' (dS _ hr')];have h0:=h r (by simp);cases Ac:O l r.ed with|none=>simp|some x=>rw[h0 x Ac]
theorem O5{p q:Nat→Bool}{t:Nat}:∀{R:List Rc},(∀r∈R,r.dst=some t→p r.i=q r.i)→Cq p t R=Cq q t R
 |[],_=>rfl|r::rs,h=>by
  simp only[Cq];rw[O5 (R:=rs) λr' hr'=>h r' (dS _ hr')];by_cases hk:r.dst=some t;·rw[h r (by simp) hk]
  ·rw[dK λh=>hk h.2,dK λh=>hk h.2]
theorem Ab.congr{cx:Cx}{s s':St}{a:Act}{E:AB}(r:Af P cx s a E)(ht:∀t,AF t s'.tmps=AF t s.tmps)(ho:∀l,O l s'.objs=O l s.objs)(Oa:s'.nt=s.nt)(OF:s'.df=s.df)(EV:s'.mv=s.mv)(hf:∀l,s'.nx≤l→E.loc l=none):Af P cx s' a E:=by
 have tr:∀l o,O l s'.objs=some o→∃o1 L,O l s.objs=some o1∧E.loc l=some L∧E.loc l=some L∧(∀L,o.has L→o1.has L)∧(AY P E L o1→AY P E L o):=λl o h=>by rw[ho]at h;obtain⟨L,hL,_⟩:=r.good.at_ l o h;exact⟨o,L,h,hL,hL,λ_ h=>h,λh=>h⟩
 exact⟨r.good.sub rfl rfl tr,hf,by rw[EV];exact r.step.swap tr λl hl=>by rw[ho]at hl;exact hl,r.drawn,by rw[Oa];exact r.size,by rw[OF];exact r.df,λt=>by rw[ht];exact r.rep t⟩
end
section
variable {P : Program} {τ : AK} {κ : AZ} {φ : Nat → Option FX}
mutual
def V.ks:V→List Nat|.fn _ a b=>Hv (EJ a) (EJ b)|.agg cs=>EJ cs|.tup cs=>EJ cs|.er cs=>EJ cs|.when _ v=>V.ks v|.opt _ v=>V.ks v|.ref k _=>[k]|.rref k _ _=>[k]|.osl k=>[k]|.osp k _ _=>[k]|.map k=>[k]|.yl k=>[k]|.bsl k _=>[k]|_=>[]
def EJ:List V→List Nat|[]=>[]|v::r=>Hv (V.ks v) (EJ r)
end
def Hp(objs:AA):List Nat→AA|[]=>[]|l::r=>match O l objs with|some o=>(l,o)::Hp objs r|none=>Hp objs r
def Kv(objs:AA):List Nat→List Nat|[]=>[]|l::r=>match O l objs with|some (.box cs)|some (.vrow _ _ cs _)=>Hv (EJ cs) (Kv objs r)|_=>Kv objs r
def H6(op:Op)(objs:AA)(ks:List Nat):List Nat:=match op with|.load ..|.fieldAddr ..|.indexAddr ..=>ks|_=>match Hv (Kv objs ks) ks with|k1=>Hv (Kv objs k1) k1
theorem Pu{objs:AA}{l:Nat}{o:Obj}:∀{ks:List Nat},O l (Hp objs ks)=some o→l∈ks∧O l objs=some o
 |[],h=>by cases h|k::r,h=>by
  simp only[Hp]at h;split at h
  ·rename_i p hp;rw[Ad]at h;split at h;·rename_i e;subst e;cases h;exact⟨by simp,hp⟩
   ·have :=Pu h;exact⟨dS _ this.1,this.2⟩
  ·have :=Pu h;exact⟨dS _ this.1,this.2⟩
def Kd(T:List (Nat×List Nat))(ds:List (Nat×Nat))(i:Nat)(base cur:List (Nat×V))(t:Nat):V:=match Ej t ds with|none=>AF t base|some j=>match A2 j (BG i T)with|true=>AF t cur|false=>match Nat.beq j i with|true=>AF t base|false=>match A2 i (BG j T)with|true=>AF t base|false=>.any
def Dp(T:List (Nat×List Nat))(ds:List (Nat×Nat))(i:Nat)(base cur:List (Nat×V)):List Operand→List (Nat×V)|[]=>[]|.tmp t::r=>(t,Kd T ds i base cur t)::Dp T ds i base cur r|_::r=>Dp T ds i base cur r
theorem QB{T:List (Nat×List Nat)}{ds:List (Nat×Nat)}{i:Nat}{base cur:List (Nat×V)}{t:Nat}:∀{l:List Operand},AF t (Dp T ds i base cur l)=Kd T ds i base cur t∨AF t (Dp T ds i base cur l)=.any|[]=>.inr rfl|x::r=>by cases x with
 |tmp u=>
  simp only[Dp,BU];split;·rename_i e;subst e;exact .inl rfl
  ·exact QB (l:=r)|_=>exact QB (l:=r)
def Fk(op:Op)(out:AT):AT:=match op with
 |.buildSlice _ (_+1) _=>match out with
  |⟨ob,.osl k,some (l,.row T xs,false)⟩=>match Nat.beq k l with|true=>⟨ob,.d (.sl T) xs,some (l,.dead,false)⟩|false=>out
  |o=>o
 |_=>out
theorem RY(op:Op)(out:AT):(Fk op out).ob=out.ob:=by
 unfold Fk;split
 ·split;·split<;>rfl
  ·rfl
 ·rfl
theorem RX{r:Option Nat}{o:Oper}{a:Act}{E:AB}{objs:AA}{out:AT}(op:Op)(h:Ff P r o a E objs out):Ff P r o a E objs (Fk op out):=by
 unfold Fk;split
 ·split
  ·rename_i ob k l T xs;split
   ·rename_i hk;have hk:=dJ hk;subst hk;intro next Q hn;refine h next Q λE' v g st Dv hv=>?_;have ho:O k ((k,Obj.row T xs)::objs)=some (.row T xs):=by rw[Ad,dO rfl]
    obtain⟨L,hL,_⟩:=g.at_ k _ ho;obtain⟨g2,s2⟩:=g.still ho hL;have hr:=JW g ho hL rfl (v:=.osl k) rfl hv;simp only[frz,lP]at hr;have tr:∀l' o,O l' ((k,Obj.dead)::objs)=some o→∃o1 L',O l' ((k,Obj.dead)::(k,.row T xs)::objs)=some o1∧(E'.still L.b ((Obj.row T xs).has L)).loc l'=some L'∧(E'.still L.b ((Obj.row T xs).has L)).loc l'=some L'∧(∀L,o.has L→o1.has L)∧(AY P (E'.still L.b ((Obj.row T xs).has L)) L' o1→AY P (E'.still L.b ((Obj.row T xs).has L)) L' o):=by
     intro l' o h;have :O l' ((k,Obj.dead)::(k,.row T xs)::objs)=some o:=by
      rw[Ad]at h⊢;split at h;·rename_i e;rw[dO e];exact h
      ·rename_i e;rw[dK e,Ad,dK e];exact h
     obtain⟨L',hL',_⟩:=g2.at_ l' o this;exact⟨o,L',this,hL',hL',λ_ h=>h,λh=>h⟩
    refine hn (E'.still L.b ((Obj.row T xs).has L)) v (g2.sub rfl rfl tr) (Ak.swap (P:=P) (by simpa[moved,edit]using st.trans s2) tr λl' hl'=>?_) Dv hr;obtain⟨h1,h2⟩:=EC hl';rw[Ad,dK (eS h1),Ad,dK (eS h1)];exact h2
   ·exact h
  ·exact h
 ·exact h
def Ri(op:Op)(os:AA)(n:Nat)(v:V):Option (Nat×Obj×Bool)→Option (V×AA)
 |none=>some (v,[])|some (l,o,false)=>match Nat.beq l n with|true=>some (v,[(l,o)])|false=>match O l os with|some _=>some (v,[(l,o)])|none=>none
 |some (l,o,true)=>match op with
  |.call {callee:=.builtin .append,..}=>match o with|.row T zs=>some (.osl n,[(n,.row T zs),(l,.dead)])|_=>none
  |.call {callee:=.value _,..}=>match o with|.row T zs=>some (.osl n,[(n,.row T zs),(l,.dead)])|_=>none
  |_=>none
def LN:List Nat→AA→List (Nat×V)→Option (List (Nat×V)×AA×AA)|[],os,tm=>some (tm,os,[])|k::r,os,tm=>match O k os with
 |some o=>match LN r ((k,.dead)::os) (Cm (frz k o) tm)with|some (tm',os',ds)=>some (tm',os',ds++[(k,.dead)])|none=>none
 |none=>none
def LH(τ:AK)(κ:AZ)(op:Op)(tm:List (Nat×V))(os:AA)(n:Nat):Option (Option Prop×V×AA):=match LN (Ix τ κ op tm os) os tm with|none=>none|some (tm',os',ds)=>match GM τ κ op tm' os' n with|none=>none|some out=>match Fk op out with|⟨ob,v,ed⟩=>match Ri op os' n v ed with|none=>none|some (v',es)=>some (ob,v',es++ds)
def QY(P:Program)(r:Option Nat)(o:Oper)(a:Act)(E:AB)(objs:AA)(v:V)(es:AA):Prop:=∀(next:Act→World→Prop)(Q:CC),(∀E' u,U P E' (es++objs)→Ak E objs E' (es++objs) []→E.w.drawn≤E'.w.drawn→N P E' v u→next (a.put o.dst u) E'.w)→o.wpIn (fz r) 0 P a E.w next Q
theorem BV.cons{os objs:AA}(h:BV os objs)(k:Nat)(o:Obj):BV ((k,o)::os) ((k,o)::objs):=λl x hx=>by
 rw[Ad]at hx⊢;split at hx;·rename_i e;rw[dO e];exact hx
 ·rename_i e;rw[dK e];exact h l x hx
theorem SC{ρ:Operand→Value}{ops:List Operand}(hρ:∀x,(∃t,x=.tmp t)∨∀E tm,N P E (AL tm x) (ρ x)):∀{ks:List Nat}{os objs:AA}{tm tm':List (Nat×V)}{os' ds:AA}{E:AB},LN ks os tm=some (tm',os',ds)→BV os objs→U P E objs→(∀x∈ops,N P E (AL tm x) (ρ x))→∃E',E'.w=E.w∧E'.loc=E.loc∧U P E' (ds++objs)∧Ak E objs E' (ds++objs) []∧BV os' (ds++objs)∧(∀x∈ops,N P E' (AL tm' x) (ρ x))∧(∀l x,O l ds=some x→∃y,O l os=some y)∧∀l x,O l os'=some x→∃y,O l os=some y
 |[],os,objs,tm,tm',os',ds,E,h,hs,g,hr=>by cases h;exact⟨E,rfl,rfl,g,.refl _ _ _,hs,hr,λl x h=>(by cases h),λl x h=>⟨x,h⟩⟩|k::r,os,objs,tm,tm',os',ds,E,h,hs,g,hr=>by
  simp only[LN]at h;split at h
  ·rename_i o ho;split at h
   ·rename_i tm2 os2 ds2 h2;cases h;obtain⟨L,hL,_⟩:=g.at_ k o (hs k o ho);obtain⟨g1,s1⟩:=g.still (hs k o ho) hL;have hx:BE E (E.still L.b (o.has L)) []:=⟨λb hs=>⟨.inl hs,rfl⟩,λj K _ hK=>hK⟩;have hr1:∀x∈ops,N P (E.still L.b (o.has L)) (AL (Cm (frz k o) tm) x) (ρ x):=λx hx'=>by
     rcases hρ x with⟨t,rfl⟩|h;·show N P _ (AF t (Cm _ tm)) _;rw[Gu,Hf];exact Ht hx.S (λv c hr h=>JW g (hs k o ho) hL rfl hr h) (hr _ hx')
     ·exact h _ _
    obtain⟨E',e1,e2,g2,s2,k1,k2,k3,k4⟩:=SC hρ h2 (hs.cons k .dead) g1 hr1;have ee:ds2++(k,Obj.dead)::objs=ds2++[(k,.dead)]++objs:=by simp
    rw[ee]at g2 s2 k1;have back:∀l,(∃y,O l ((k,Obj.dead)::os)=some y)→∃y,O l os=some y:=λl⟨y,hy⟩=>by
     rw[Ad]at hy;split at hy;·rename_i e;subst e;exact⟨o,ho⟩
     ·exact⟨y,hy⟩
    refine⟨E',e1,e2,g2,by simpa using s1.trans s2,k1,k2,λl x hl=>?_,λl x hl=>back l (k4 l x hl)⟩;rw[II]at hl;split at hl;·rename_i y hy;exact back l (k3 l y hy)
    ·rw[Ad]at hl;split at hl;·rename_i e;subst e;exact⟨o,ho⟩
     ·cases hl
   ·cases h
  ·cases h
theorem Rk(hτ:Ah P τ)(hκ:Aj P κ){r:Option Nat}{o:Oper}{tm:List (Nat×V)}{os objs:AA}{n:Nat}{ob:Option Prop}{v:V}{es:AA}{E:AB}{a:Act}(h:LH τ κ o.op tm os n=some (ob,v,es))(hs:BV os objs)(ho:Ae ob)(g:U P E objs)(hf:E.loc n=none)(hr:∀x∈o.op.operands,N P E (AL tm x) (a.eval x)):QY P r o a E objs v es∧∀l x,O l es=some x→l=n∨∃y,O l os=some y:=by
 unfold LH at h;split at h;·cases h
 ·rename_i tm' os' ds hfz;have hρ:∀x,(∃t,x=Operand.tmp t)∨∀E tm,N P E (AL tm x) (a.eval x):=λx=>by cases x with|tmp t=>exact .inl ⟨t,rfl⟩|const v=>exact .inr λE tm=>Mc v|global g=>exact .inr λE tm=>.any _|func f=>exact .inr λE tm=>.fn rfl rfl (λj hj=>by simp at hj) λj hj=>by simp at hj
  obtain⟨E1,e1,e2,g1,s1,k1,k2,k3,k4⟩:=SC (ops:=o.op.operands.toList) hρ hfz hs g λx hx=>hr x (Array.mem_toList_iff.1 hx);split at h;·cases h
  ·rename_i out he;generalize HP:Fk o.op out=out' at h;obtain⟨ob',v0,ed⟩:=out';simp only at h;split at h;·cases h
   ·rename_i v' es' Ac;cases h;have Bw:Ae out.ob:=by rw[←RY o.op out,HP];exact ho
    have Fr:E1.loc n=none:=by rw[e2];exact hf
    have hd0:=LJ (r:=r) (a:=a) hτ hκ he k1 Bw g1 Fr λx hx=>k2 x (Array.mem_toList_iff.2 hx);have ED:=RX o.op hd0;rw[HP]at ED;have plain:∀es',(ed=none∧es'=[]∨∃l x,ed=some (l,x,false)∧es'=[(l,x)])→QY P r o a E objs v0 (es'++ds):=by
     intro es' OK next Q hn;have :=ED next Q;rw[e1]at this;refine this λE' u g' st Dv hu=>hn E' u ?_ ?_ Dv hu
     ·rcases OK with⟨rfl,rfl⟩|⟨l,x,rfl,rfl⟩;·exact g'
      ·exact g'
     ·rcases OK with⟨rfl,rfl⟩|⟨l,x,rfl,rfl⟩;·simpa[edit,moved]using s1.trans st
      ·simpa[edit,moved]using s1.trans st
    have keys:∀es',(∀l x,O l es'=some x→l=n∨∃y,O l os'=some y)→∀l x,O l (es'++ds)=some x→l=n∨∃y,O l os=some y:=λes' hk l x hx=>by
     rw[II]at hx;split at hx
     ·rename_i y hy;rcases hk l y hy with h|⟨z,hz⟩;·exact .inl h
      ·exact .inr (k4 l z hz)
     ·exact .inr (k3 l x hx)
    unfold Ri at Ac;split at Ac;·cases Ac;exact⟨plain [] (.inl ⟨rfl,rfl⟩),keys [] λl x h=>by cases h⟩
    ·rename_i l x;split at Ac;·rename_i hb;cases Ac;exact⟨plain _ (.inr ⟨l,x,rfl,rfl⟩),keys _ λl' x' h=>by
      rw[Ad]at h;split at h;·rename_i e;rw[←e];exact .inl (dJ hb)
      ·cases h⟩
     ·split at Ac;·rename_i y hy;cases Ac;exact⟨plain _ (.inr ⟨l,x,rfl,rfl⟩),keys _ λl' x' h=>by
       rw[Ad]at h;split at h;·rename_i e;rw[←e];exact .inr ⟨y,hy⟩
       ·cases h⟩
      ·cases Ac
    ·rename_i l x;obtain⟨dst,op,ty,po,af,guard⟩:=o;split at Ac
     ·rename_i args tys BK;split at Ac
      ·rename_i T zs;cases Ac;simp only at BK;subst BK;have OH:out=⟨ob,v0,some (l,.row T zs,true)⟩:=by rw[←HP];rfl
       subst OH;simp only[GM,JL]at he;obtain⟨al⟩:=args;obtain⟨tl⟩:=tys;simp only[NO]at he;split at he
       ·split at he
        ·rename_i t u _ x y e3;obtain⟨b,c,rfl,rfl,rfl⟩:=KF e3;have rb:=k2 b (by simp[Op.operands,Call.operands]);have rc:=k2 c (by simp[Op.operands,Call.operands]);obtain⟨rfl,L,xs,c1,c2,w,K,row,c3,c4,c5,c6,c7⟩:=Wj (ty:=ty) hτ he k1 Bw g1 rb rc;obtain⟨E',d1,d2,d3,d4⟩:=g1.remake c1 c2 Fr c3 c4 c5 c6;refine⟨λnext Q hn=>⟨λ_ _=>trivial,?_⟩,keys _ λl' x' h=>?_⟩
         ·rw[iP _ _ _ λc=>by simp];have hrun:(execOp a.eval ⟨dst,.call {callee:=.builtin .append,args:=⟨[b,c]⟩,argTypes:=⟨[t,u]⟩},ty,po,af,guard⟩).run P E.w=.ok (.value K.v) E'.w:=by
           have :execOp a.eval ⟨dst,.call {callee:=.builtin .append,args:=⟨[b,c]⟩,argTypes:=⟨[t,u]⟩},ty,po,af,guard⟩=(do let v←Builtin.append_ #[t,u] ty #[a.eval b,a.eval c];pure (Next.value v)):=by simp[execOp,resolve,invoke,builtin]
           rw[this,←e1,d1];simp[c7]
          rw[hrun];exact hn E' K.v (by simpa using d3) (by simpa using s1.trans d4) (by rw[←e1];exact MP _ _ _ _ (by rw[d1];exact c7)) (.osl d2)
         ·rw[Ad]at h;split at h;·rename_i e;exact .inl e.symm
          ·rw[Ad]at h;split at h
           ·rename_i e;subst e;refine .inr ?_;unfold IA at he;split at he
            ·split at he
             ·split at he
              ·split at he
               ·split at he;·cases he
                ·split at he
                 ·split at he;·rename_i hcs _;cases he;exact⟨_,hcs⟩
                  ·cases he
                 ·cases he
                ·split at he
                 ·split at he
                  ·split at he;·cases he
                   ·rename_i hcs _ _ _;cases he;exact⟨_,hcs⟩
                  ·cases he
                 ·cases he
                ·cases he
               ·cases he
              ·split at he
               ·split at he
                ·split at he;·cases he
                 ·split at he
                  ·split at he;·rename_i hcs _;cases he;exact⟨_,hcs⟩
                   ·cases he
                  ·cases he
                 ·cases he
                ·cases he
               ·cases he
             ·cases he
            ·cases he
           ·cases h
        ·cases he
       ·cases he
      ·cases Ac
     ·rename_i x args tys BK;split at Ac
      ·rename_i T zs;cases Ac;simp only at BK;subst BK;have OH:out=⟨ob,v0,some (l,.row T zs,true)⟩:=by rw[←HP];rfl
       subst OH;simp only[GM]at he;split at he
       ·rename_i rc A1;obtain⟨gf,q1,q2,T0,q3⟩:=Uo hκ A1 he k1 Bw g1 (k2 x (by simp[Op.operands,Call.operands])) (Gj λy hy=>k2 y (by simp only[Op.operands,Call.operands];simp[Array.mem_toList_iff.1 hy]));rcases q3 with⟨_,_,q4,_⟩|⟨l',L,xs,zs',q0,hL,q4,q5,hc⟩;·cases q4
        ·obtain⟨rfl,hzz,_⟩:l=l'∧Obj.row T zs=Obj.row T0 zs'∧True:=by have :=gQ q5;simp only[gL]at this;exact⟨this.1,this.2.1,trivial⟩
         cases hzz;refine⟨λnext Q hn=>?_,keys _ λl' x' h=>?_⟩;·have TS:=JB (r:=r) (o:=⟨dst,.call {callee:=.value x,args:=args,argTypes:=tys},ty,po,af,guard⟩) (a:=a) (E:=E1) rfl q1 q2 hc (next:=next) (Q:=Q) (by rintro e w2⟨K,rfl,row,c3,c4,c5,c6,c7⟩;obtain⟨E',d1,d2,d3,d4⟩:=g1.remake (k1 _ _ q0) hL Fr c3 c4 c5 c6;refine⟨_,rfl,?_⟩;rw[←d1];exact hn E' K.v (by simpa using d3) (by simpa using s1.trans d4) (by rw[←e1,d1];exact c7) (.osl d2));rw[e1]at TS;exact TS
         ·rw[Ad]at h;split at h;·rename_i e;exact .inl e.symm
          ·rw[Ad]at h;split at h;·rename_i e;subst e;exact .inr ⟨_,q0⟩
           ·cases h
       ·split at he
        ·unfold K5 at he;split at he
         ·split at he;·split at he<;>cases he
          ·cases he
         ·split at he;·split at he<;>cases he
          ·cases he
        ·split at he<;>cases he
      ·cases Ac
     ·cases Ac
def Rh(n:Nat):Option (Nat×Obj×Bool)→Option AA
 |none=>some []|some (l,.dead,false)=>match Nat.beq l n with|true=>some [(l,.dead)]|false=>none
 |_=>none
def H8(τ:AK)(κ:AZ)(dec g:Bool)(i:Nat)(dst:Option Nat)(op:Op)(tm:List (Nat×V))(os:AA)(ks:List Nat)(n:Nat):Option (Option Prop×Rc):=match dec with|false=>none|true=>match g with
 |true=>match LH τ κ op (I8 op tm) os n with|some (ob,v,es)=>some (IN true (GJ op tm) ob,⟨i,dst,v,es,Gf es++(V.ks v++ks)⟩)|none=>none
 |false=>some (none,⟨i,dst,.when false (.d .bool false),[],ks⟩)
theorem Ra{dec g:Bool}{i:Nat}{dst:Option Nat}{op:Op}{tm:List (Nat×V)}{os:AA}{ks:List Nat}{n:Nat}{ob:Option Prop}{rc:Rc}(h:H8 τ κ dec g i dst op tm os ks n=some (ob,rc)):rc.i=i∧rc.dst=dst:=by
 unfold H8 at h;split at h;·cases h
 ·split at h
  ·split at h;·cases h;exact⟨rfl,rfl⟩
   ·cases h
  ·cases h;exact⟨rfl,rfl⟩
def In(τ:AK)(κ:AZ)(dec:Bool)(T:List (Nat×List Nat))(ds:List (Nat×Nat))(ops:List Oper)(n0:Nat)(base:List (Nat×V))(i:Nat)(o:Oper)(cur:St):Option (Option Prop×Rc):=match o,cur with|⟨dst,op,_,_,_,guard⟩,⟨_,tmps,objs,_,_,_,_,_⟩=>match Dp T ds i base tmps op.operands.toList with|tm=>match H6 op objs (EJ (Aw tm op.operands.toList))with|ks=>match Hp objs ks with|os=>match guard with
 |none=>match LH τ κ op tm os (n0+i)with|some (ob,v,es)=>some (ob,⟨i,dst,v,es,Gf es++(V.ks v++ks)⟩)|none=>none
 |some (j,want)=>match JX ops j with|none=>none|some gd=>match Jb want (Kd T ds i base tmps gd)with|none=>none|some g=>match GM τ κ op (I8 op tm) os (n0+i)with
  |some out=>match Fk op out with|⟨ob,v,ed⟩=>match Rh (n0+i) ed with|some es=>some (IN g (GJ op tm) ob,⟨i,dst,.when g v,es,Gf es++(V.ks v++ks)⟩)|none=>H8 τ κ dec g i dst op tm os ks (n0+i)
  |none=>H8 τ κ dec g i dst op tm os ks (n0+i)
def IM(τ:AK)(κ:AZ)(dec:Bool)(T:List (Nat×List Nat))(ds:List (Nat×Nat))(ops:List Oper)(n0:Nat)(base:List (Nat×V)):Nat→List Oper→St→Option (List (Option Prop)×List Rc×St)|_,[],s=>some ([],[],s)|i,o::r,s=>match In τ κ dec T ds ops n0 base i o s with|none=>none|some (ob,rc)=>match rc.app s with|⟨nt,tmps,objs,nx,df,wr,di,mv⟩=>match IM τ κ dec T ds ops n0 base (i+1) r ⟨nt,tmps,objs,nx,df,wr,di,mv⟩with|none=>none|some (obs,R,s')=>some (ob::obs,rc::R,s')
def Mq:List (Option Prop)→Prop→Prop|[],k=>k|ob::r,k=>G2 ob (Mq r k)
theorem Qh{k:Prop}:∀{l:List (Option Prop)},Mq l k→(∀ob∈l,Ae ob)∧k|[],h=>⟨λob hb=>by simp at hb,h⟩|ob::r,h=>by obtain⟨h1,h2⟩:=Mu h;obtain⟨h3,h4⟩:=Qh h2;exact⟨λq hq=>(List.mem_cons.1 hq).elim (λe=>e▸h1) (h3 q),h4⟩
theorem Pr{p:Nat→Bool}:∀{A B:List Rc}{s:St},replay p (A++B) s=replay p B (replay p A s)|[],_,_=>rfl|r::rs,B,s=>by simp only[gE,replay];exact Pr
theorem Ps{p:Nat→Bool}:∀{B:List Rc}{s:St},(∀r∈B,p r.i=false)→replay p B s=s|[],_,_=>rfl|r::rs,s,h=>by simp only[replay];rw[h r (by simp)];exact Ps λr' hr'=>h r' (dS _ hr')
theorem KS{p q:Nat→Bool}:∀{B:List Rc}{s:St},(∀r∈B,p r.i=q r.i)→replay p B s=replay q B s|[],_,_=>rfl|r::rs,s,h=>by simp only[replay];rw[h r (by simp)];exact KS λr' hr'=>h r' (dS _ hr')
theorem Pn{dec:Bool}{T:List (Nat×List Nat)}{ds:List (Nat×Nat)}{ops:List Oper}{n0:Nat}{base:List (Nat×V)}{i:Nat}{o:Oper}{cur:St}{ob:Option Prop}{rc:Rc}(h:In τ κ dec T ds ops n0 base i o cur=some (ob,rc)):rc.i=i∧rc.dst=o.dst:=by
 obtain⟨dst,op,ty,po,af,guard⟩:=o;cases cur;simp only[In]at h;split at h
 ·split at h;·cases h;exact⟨rfl,rfl⟩
  ·cases h
 ·split at h;·cases h
  ·split at h;·cases h
   ·split at h
    ·split at h;·cases h;exact⟨rfl,rfl⟩
     ·exact Ra h
    ·exact Ra h
theorem SN{dec:Bool}{T:List (Nat×List Nat)}{ds:List (Nat×Nat)}{ops:List Oper}{n0:Nat}{base:List (Nat×V)}{s0:St}:∀{l:List Oper}{i:Nat}{cur send:St}{R0 R':List Rc}{obs:List (Option Prop)},IM τ κ dec T ds ops n0 base i l cur=some (obs,R',send)→(∀r∈R0,r.i<i)→cur=replay (λ_=>true) R0 s0→R'.Pairwise (λa b=>a.i<b.i)∧(∀r∈R',i≤r.i∧r.i<i+l.length)∧send=replay (λ_=>true) (R0++R') s0∧∀j o,l[j]?=some o→∃ob rc,In τ κ dec T ds ops n0 base (i+j) o (replay (λk=>decide (k<i+j)) (R0++R') s0)=some (ob,rc)∧ob∈obs∧rc∈R'
 |[],i,cur,send,R0,R',obs,h,h1,h2=>by simp only[IM,gB,gL]at h;obtain⟨rfl,rfl,rfl⟩:=h;exact⟨.nil,λr hr=>by simp at hr,by simpa using h2,λj o hj=>by simp at hj⟩|o::r,i,cur,send,R0,R',obs,h,h1,h2=>by
  simp only[IM]at h;split at h;·cases h
  ·rename_i ob rc A1;split at h;·cases h
   ·rename_i obs2 R2 s2 hg;cases h;have hi:=(Pn A1).1;have ih:=SN (R0:=R0++[rc]) hg λr hr=>by
     rcases List.mem_append.1 hr with hr|hr;·exact Nat.lt_succ_of_lt (h1 r hr)
     ·simp at hr;subst hr;omega (by rw[Pr,←h2];rfl);obtain⟨k0,k1,k2,k3⟩:=ih;have e:R0++[rc]++R2=R0++rc::R2:=by simp
    rw[e]at k2 k3;refine⟨List.pairwise_cons.2 ⟨λr' hr'=>by have :=k1 r' hr';omega,k0⟩,λr' hr'=>?_,k2,λj o' hj=>?_⟩
    ·rcases List.mem_cons.1 hr' with rfl|hr';·simp;omega
     ·have :=k1 r' hr';simp;omega
    ·cases j with|zero=>
     simp at hj;subst hj;refine⟨ob,rc,?_,by simp,by simp⟩;have :replay (λk=>decide (k<i+0)) (R0++rc::R2) s0=cur:=by
      rw[Pr,Ps,h2];·exact KS λr' hr'=>by simpa using h1 r' hr'
      ·intro r' hr';rcases List.mem_cons.1 hr' with rfl|hr';·simp;omega
       ·have :=k1 r' hr';simp;omega
     rw[this];exact A1|succ j=>obtain⟨ob',rc',m1,m2,m3⟩:=k3 j o' (by simpa using hj);rw[show i+1+j=i+(j+1)from by omega]at m1;exact⟨ob',rc',m1,dS _ m2,dS _ m3⟩
def D8:AA→List Nat→Bool|[],_=>true|(l,_)::r,ks=>match A2 l ks with|true=>false|false=>D8 r ks
theorem Rf{l:Nat}{o:Obj}{ks:List Nat}:∀{e:AA},D8 e ks=true→O l e=some o→l∉ks
 |[],_,h=>by cases h|(k,p)::r,hd,h=>by
  simp only[D8]at hd;split at hd;·cases hd
  ·rename_i hk;rw[Ad]at h;split at h;·rename_i e;subst e;exact λhm=>by rw[Cr.2 hm]at hk;cases hk
   ·exact Rf hd h
def Hj(T:List (Nat×List Nat))(r:Rc):List Rc→Bool|[]=>true|q::l=>match A2 r.i (BG q.i T)with|true=>Hj T r l|false=>match A2 q.i (BG r.i T)with|true=>Hj T r l|false=>match D8 r.ed q.ks with
 |true=>match D8 q.ed r.ks with|true=>Hj T r l|false=>false
 |false=>false
def KM(T:List (Nat×List Nat)):List Rc→Bool|[]=>true|r::l=>match Hj T r l with|true=>KM T l|false=>false
def G9(nt:Nat)(ds:List (Nat×Nat)):List Rc→Bool
 |[]=>true|⟨i,some d,_,_,_⟩::l=>match Ej d ds with
  |some j=>match Nat.beq j i with
   |true=>match Nat.blt d nt with|true=>G9 nt ds l|false=>false
   |false=>false
  |none=>false
 |_::l=>G9 nt ds l
theorem PY{T:List (Nat×List Nat)}{r:Rc}:∀{l:List Rc},Hj T r l=true→∀q∈l,r.i∈BG q.i T∨q.i∈BG r.i T∨D8 r.ed q.ks=true∧D8 q.ed r.ks=true
 |[],_,q,h=>by simp at h|q'::l,h,q,hq=>by
  simp only[Hj]at h;have key:(q=q'→r.i∈BG q.i T∨q.i∈BG r.i T∨D8 r.ed q.ks=true∧D8 q.ed r.ks=true)→Hj T r l=true→r.i∈BG q.i T∨q.i∈BG r.i T∨D8 r.ed q.ks=true∧D8 q.ed r.ks=true:=λh1 h2=>(List.mem_cons.1 hq).elim h1 (PY h2 q);split at h;·rename_i h1;exact key (λe=>.inl (e▸Cr.1 h1)) h
  ·split at h;·rename_i h1;exact key (λe=>.inr (.inl (e▸Cr.1 h1))) h
   ·split at h
    ·rename_i h1;split at h;·rename_i h2;exact key (λe=>.inr (.inr (e▸⟨h1,h2⟩))) h
     ·cases h
    ·cases h
theorem Pb{T:List (Nat×List Nat)}:∀{l:List Rc},KM T l=true→∀r∈l,∀q∈l,r=q∨r.i∈BG q.i T∨q.i∈BG r.i T∨D8 r.ed q.ks=true∧D8 q.ed r.ks=true
 |[],_,r,h,_,_=>by simp at h|x::l,h,r,hr,q,hq=>by
  simp only[KM]at h;split at h
  ·rename_i h1;rcases List.mem_cons.1 hr with hr1|hr1
   ·rcases List.mem_cons.1 hq with hq1|hq1;·exact .inl (hr1.trans hq1.symm)
    ·rw[hr1];exact .inr (PY h1 q hq1)
   ·rcases List.mem_cons.1 hq with hq1|hq1
    ·rw[hq1];rcases PY h1 r hr1 with h|h|h;·exact .inr (.inr (.inl h))
     ·exact .inr (.inl h)
     ·exact .inr (.inr (.inr ⟨h.2,h.1⟩))
    ·exact Pb h r hr1 q hq1
  ·cases h
theorem HB{nt:Nat}{ds:List (Nat×Nat)}:∀{l:List Rc},G9 nt ds l=true→∀r∈l,∀d,r.dst=some d→Ej d ds=some r.i∧d<nt|[],_,r,h,_,_=>by simp at h|⟨i,dst,v,ed,ks⟩::l,h,r,hr,d,hd=>by cases dst with
 |none=>
  simp only[G9]at h;rcases List.mem_cons.1 hr with rfl|hr;·cases hd
  ·exact HB h r hr d hd|some d'=>
  simp only[G9]at h;split at h
  ·rename_i j hj;split at h
   ·rename_i h1;split at h
    ·rename_i h2;rcases List.mem_cons.1 hr with rfl|hr;·cases hd;rw[hj,dJ h1];exact⟨rfl,eJ h2⟩
     ·exact HB h r hr d hd
    ·cases h
   ·cases h
  ·cases h
end
section
variable {P : Program} {τ : AK} {κ : AZ} {φ : Nat → Option FX}
theorem Ts{p:Nat→Bool}{l:Nat}:∀{A B:List Rc},CY p l (A++B)=match CY p l B with|some o=>some o|none=>CY p l A
 |[],B=>by simp only[hG,CY];split<;>simp_all|r::A,B=>by simp only[gE,CY];rw[Ts (A:=A)];cases h:CY p l B with|some o=>rfl|none=>rfl
theorem Tu{p:Nat→Bool}{l:Nat}:∀{A B:List Rc},Cq p l (A++B)=match Cq p l B with|some o=>some o|none=>Cq p l A
 |[],B=>by simp only[hG,Cq];split<;>simp_all|r::A,B=>by simp only[gE,Cq];rw[Tu (A:=A)];cases h:Cq p l B with|some o=>rfl|none=>rfl
theorem Tt{p:Nat→Bool}{l:Nat}:∀{A:List Rc},(∀r∈A,∀o,O l r.ed=some o→p r.i=false)→CY p l A=none|[],_=>rfl|r::A,h=>by simp only[CY];rw[Tt (A:=A) λr' hr'=>h r' (dS _ hr')];cases Ac:O l r.ed with|none=>simp|some x=>simp[h r (by simp) x Ac]
theorem KD{p:Nat→Bool}{t:Nat}:∀{A:List Rc},(∀r∈A,r.dst=some t→p r.i=false)→Cq p t A=none|[],_=>rfl|r::A,h=>by simp only[Cq];rw[KD (A:=A) λr' hr'=>h r' (dS _ hr')];simp only;rw[dK];rintro⟨h1,h2⟩;rw[h r (by simp) h2]at h1;cases h1
def C3(L:Nat→Bool)(i:Nat):Nat→Bool:=λj=>L j||decide (j=i)
theorem XX(hτ:Ah P τ)(hκ:Aj P κ){dec:Bool}{r:Option Nat}{cx:Cx}{ops:Array Oper}{T:List (Nat×List Nat)}(hT:PT ops T){ds:List (Nat×Nat)}{n0 i:Nat}{o:Oper}{ob:Option Prop}{rc:Rc}{R:List Rc}{s0:St}(hi:ops[i]?=some o)(A1:In τ κ dec T ds ops.toList n0 s0.tmps i o (replay (λk=>decide (k<i)) R s0)=some (ob,rc))(ho:Ae ob)(B3:rc∈R)(FQ:R.Pairwise λa b=>a.i<b.i)(hp:KM T R=true)(hd:G9 s0.nt ds R=true)(AM:∀q∈R,q.i<ops.size)(Ba:s0.nx=n0+ops.size){L:Nat→Bool}(hL:L i=false)(Sm:∀q∈R,L q.i=true→∀j∈BG q.i T,(∃q'∈R,q'.i=j)→L j=true)(TE:∀j∈BG i T,(∃q'∈R,q'.i=j)→L j=true){a:Act}{E:AB}(hr:Af P cx (replay L R s0) a E)(hf:∀q∈R,L q.i=false→E.loc (n0+q.i)=none){Q:CC}{K:Act→World→Prop}(hK:∀a' E',Af P cx (replay (C3 L i) R s0) a' E'→(∀q∈R,C3 L i q.i=false→E'.loc (n0+q.i)=none)→K a' E'.w):wpOpIn (fz r) 0 P ops Q i K a E.w:=by
  have CV:=(Pn A1).1;have hdst:=(Pn A1).2;have Ld:i<ops.size:=(Array.getElem?_eq_some_iff.1 hi).1;have Om:∀q∈R,q.i=i→q=rc:=λq hq e=>by
    rcases Pb hp q hq rc B3 with h|h|h|_;·exact h
    ·rw[CV]at h;have :=hT.lt i q.i Ld h;omega
    ·rw[e]at h;rw[CV]at h;have :=hT.lt i i Ld h;omega
    · obtain⟨A,B,GR⟩:=lM B3;rw[GR]at FQ hq;rw[jK]at FQ;obtain⟨_,h2,h3⟩:=FQ;rcases List.mem_append.1 hq with h|h;·have :=h3 q h rc (by simp);omega
      · rcases List.mem_cons.1 h with h|h;·exact h
        ·have :=(List.pairwise_cons.1 h2).1 q h;omega
  obtain⟨A,B,GR⟩:=lM B3;have hA:∀q∈A,q.i<i:=λq hq=>by rw[GR,jK]at FQ;have :=FQ.2.2 q hq rc (by simp);omega
  have hB:∀q∈B,i<q.i:=λq hq=>by rw[GR,jK]at FQ;have :=(List.pairwise_cons.1 FQ.2.1).1 q hq;omega
  have TC:∀q∈R,∀l x,O l q.ed=some x→l∈rc.ks→decide (q.i<i)=L q.i∨q=rc:=λq hq l x Ac hl=>by
    rcases Pb hp q hq rc B3 with h|h|h|h;·exact .inr h
    ·rw[CV]at h;have h1:=hT.lt i q.i Ld h;have h2:=TE q.i h ⟨q,hq,rfl⟩;rw[h2];left;simpa using h1
    ·rw[CV]at h;have h1:=hT.lt q.i i (AM q hq) h;left;cases Xj:L q.i with|false=>simp;omega|true=>rw[Sm q hq Xj i h ⟨rc,B3,CV⟩]at hL;cases hL
    ·exact absurd hl (Rf h.1 Ac)
  have AI:∀l∈rc.ks,O l (replay (λk=>decide (k<i)) R s0).objs=O l (replay L R s0).objs:=λl hl=>by
    rw[KT,KT,O4 (p:=λk=>decide (k<i)) (q:=L)];intro q hq x Ac;rcases TC q hq l x Ac hl with h|h;·exact h
    ·subst h;rw[CV,hL];simp
  have hval:∀t,N P E (Kd T ds i s0.tmps (replay (λk=>decide (k<i)) R s0).tmps t) (a.tmps.getD t undef):=λt=>by
    have EW:=hr.rep t;rw[KU]at EW;unfold Kd;split
    · rename_i hn;rw[KD]at EW;·exact EW
      ·intro q hq DL;rw[(HB hd q hq t DL).1]at hn;cases hn
    · rename_i j hj;have hq:∀q∈R,q.dst=some t→q.i=j:=λq hq DL=>by have :=(HB hd q hq t DL).1;rw[hj]at this;cases this;rfl
      split
      · rename_i hm;rw[KU,O5 (p:=λk=>decide (k<i)) (q:=L)];·exact EW
        ·intro q GZ DL;have e:=hq q GZ DL;rw[e];have hm:=Cr.1 hm;rw[TE j hm ⟨q,GZ,e⟩];have :=hT.lt i j Ld hm;simpa using this
      · split
        · rename_i he;have he:=dJ he;rw[KD]at EW;·exact EW
          ·intro q GZ DL;rw[hq q GZ DL,he];exact hL
        · split
          · rename_i hm;have hm:=Cr.1 hm;rw[KD]at EW;·exact EW
            ·intro q GZ DL;rw[hq q GZ DL];cases Xi:L j with|false=>rfl|true=>have e:=hq q GZ DL;have :=Sm q GZ (by rw[e];exact Xi) i (by rw[e];exact hm) ⟨rc,B3,CV⟩;rw[hL]at this;cases this
          ·exact .any _
  have X7:∀d,o.dst=some d→d<a.tmps.size:=λd Jj=>by have :=(HB hd rc B3 d (hdst.trans Jj)).2;have h1:a.tmps.size=s0.nt:=hr.size.trans (MM (p:=L) (R:=R) (s:=s0)).1;rw[h1];exact this
  have behind:∀E' u,U P E' (rc.ed++(replay L R s0).objs)→Ak E (replay L R s0).objs E' (rc.ed++(replay L R s0).objs) []→E.w.drawn≤E'.w.drawn→N P E' rc.v u→(∀l x,O l rc.ed=some x→l=n0+i∨∃y,O l (replay L R s0).objs=some y)→(∀l x,O l rc.ed=some x→l∈rc.ks)→K (a.put o.dst u) E'.w:=by
    intro E' u g st Dv hu Jr Dw;obtain⟨e1,e2,e3,e4⟩:=MM (p:=L) (R:=R) (s:=s0);obtain⟨f1,f2,f3,f4⟩:=MM (p:=C3 L i) (R:=R) (s:=s0);have Ju:∀l,E.loc l=none→l≠n0+i→E'.loc l=none:=λl hl AU=>by
      have h1:O l (replay L R s0).objs=none:=by cases h:O l (replay L R s0).objs with|none=>rfl|some x=>obtain⟨K,hK,_⟩:=hr.good.at_ l x h;rw[hl]at hK;cases hK
      rw[st.dom l ?_];·exact hl
      ·rw[II];cases Ac:O l rc.ed with|none=>exact h1|some x=>
          rcases Jr l x Ac with h|⟨z,hz⟩;·exact absurd h AU
          ·rw[h1]at hz;cases hz
    have Ev:Af P cx (rc.app (replay L R s0)) (a.put o.dst u) E':=by
      refine⟨?_,λl hl=>?_,?_,eO hr.drawn Dv,?_,?_,λt=>?_⟩
      · have :(rc.app (replay L R s0)).objs=rc.ed++(replay L R s0).objs:=by generalize replay L R s0=q;cases q;rfl
        rw[this];exact g
      · have hl:s0.nx≤l:=by
          have :(rc.app (replay L R s0)).nx=s0.nx:=by rw[←e2];generalize replay L R s0=q;cases q;rfl
          rw[this]at hl;exact hl
        exact Ju l (hr.fresh l (by rw[e2];exact hl)) (by omega)
      · have :(rc.app (replay L R s0)).mv=(replay L R s0).mv:=by generalize replay L R s0=q;cases q;rfl
        rw[this];have e:(rc.app (replay L R s0)).objs=rc.ed++(replay L R s0).objs:=by generalize replay L R s0=q;cases q;rfl
        rw[e];simpa using hr.step.trans st
      · have :(rc.app (replay L R s0)).nt=(replay L R s0).nt:=by generalize replay L R s0=q;cases q;rfl
        rw[this,←hr.size];cases o.dst<;>simp[Act.put]
      · have :(rc.app (replay L R s0)).df=(replay L R s0).df:=by generalize replay L R s0=q;cases q;rfl
        have e:(a.put o.dst u).defers=a.defers:=by cases o.dst<;>rfl
        rw[this,e];exact hr.df.ext st.ext
      ·rw[Mv,hdst];cases Jj:o.dst with|none=>exact(hr.rep t).mono st.ext|some d=>
          rw[Ud (X7 d Jj)];by_cases e:d=t;·subst e;rw[dO rfl,dO rfl];exact hu
          ·rw[dK λh=>e (by cases h;rfl),dK e];exact(hr.rep t).mono st.ext
    refine hK _ E' ?_ λq hq TG=>?_
    · refine Ab.congr Ev (λt=>?_) (λl=>?_) ?_ ?_ ?_ λl hl=>?_;·
        rw[Mv,KU,KU];by_cases e:rc.dst=some t
        · rw[dO e];have hq:∀q∈R,q.dst=some t→q=rc:=λq hq DL=>Om q hq (by have h1:=(HB hd q hq t DL).1;have h2:=(HB hd rc B3 t e).1;exact(gQ (h1.symm.trans h2)).trans CV);have N2:Cq (C3 L i) t B=none:=KD λq Jx DL=>by have :=hq q (by rw[GR];simp[Jx]) DL;have h1:=hB q Jx;rw[this,CV]at h1;omega
          have :Cq (C3 L i) t R=some rc.v:=by rw[GR,Tu];simp only[Cq,N2];rw[dO ⟨by simp[C3,CV],e⟩]
          rw[this]
        ·rw[dK e];rw[O5 (p:=C3 L i) (q:=L)];intro q hq DL;have :q.i≠i:=λh=>e (by rw[←Om q hq h];exact DL);simp[C3,this]
      · rw[Qm,KT,KT];have other:O l rc.ed=none→CY (C3 L i) l R=CY L l R:=λhn=>O4 λq hq x Ac=>by
          have :q.i≠i:=λh=>by rw[Om q hq h,hn]at Ac;cases Ac
          simp[C3,this]
        cases Ac:O l rc.ed with|none=>rw[other Ac]|some y=>
          simp only;have N2:CY (C3 L i) l B=none:=Tt λq Jx x Yb=>by
            have Ya:q∈R:=by rw[GR];simp[Jx]
            have h1:=hB q Jx;rcases TC q Ya l x Yb (Dw l y Ac)with h|h
            · have h2:L q.i=false:=by rw[←h];simp;omega
              simp only[C3,h2,jY,gS];omega
            ·rw[h,CV]at h1;omega
          have :CY (C3 L i) l R=some y:=by rw[GR,Ts];simp only[CY,N2,Ac];rw[dO (by simp[C3,CV])]
          rw[this]
      ·rw[f1,←e1];generalize replay L R s0=q;cases q;rfl
      ·rw[f3,←e3];generalize replay L R s0=q;cases q;rfl
      ·rw[f4,←e4];generalize replay L R s0=q;cases q;rfl
      ·rw[f2]at hl;exact Ju l (hr.fresh l (by rw[e2];exact hl)) (by omega)
    ·simp only[C3,gP,gS]at TG;exact Ju _ (hf q hq TG.1) (by omega)
  obtain⟨dst,op,ty,po,af,guard⟩:=o;revert A1 AI hval;generalize Si:replay (λk=>decide (k<i)) R s0=cur;obtain⟨ntc,Fe,Hi,nxc,dfc,wrc,dic,mvc⟩:=cur;intro AI hval A1;simp only[In]at A1;have J4:∀ks:List Nat,(∀l∈ks,l∈rc.ks)→BV (Hp Hi ks) (replay L R s0).objs:=λks Dw l x h=>by obtain⟨h1,h2⟩:=Pu h;rw[←AI l (Dw l h1)];exact h2
  have Ob:∀tm:List (Nat×V),tm=Dp T ds i s0.tmps Fe op.operands.toList→∀x,N P E (AL tm x) (a.eval x):=λtm e x=>by cases x with
    |tmp t=>
      show N P E (AF t tm) _;rw[e];rcases QB (T:=T) (ds:=ds) (i:=i) (base:=s0.tmps) (cur:=Fe) (t:=t) (l:=op.operands.toList)with h|h;·rw[h];exact hval t
      ·rw[h];exact .any _|const v=>exact Mc v|global g=>exact .any _|func f=>exact .fn rfl rfl (λj hj=>by simp at hj) λj hj=>by simp at hj
  have IT:E.loc (n0+i)=none:=by have :=hf rc B3 (by rw[CV];exact hL);rwa[CV]at this
  unfold wpOpIn;rw[hi];simp only;split at A1
  · rw[dO (by simp[Region.wanted])];split at A1
    · rename_i ob' v es he;have HY:ob'=ob:=by cases A1;rfl
      have C8:=(kT (gQ A1)).2;subst HY;have Dw:∀l∈H6 op Hi (EJ (Aw (Dp T ds i s0.tmps Fe op.operands.toList) op.operands.toList)),l∈rc.ks:=λl hl=>by rw[←C8];simp[hl]
      have Fw:rc.v=v:=by rw[←C8]
      have Bx:rc.ed=es:=by rw[←C8]
      obtain⟨OG,OT⟩:=Rk (r:=r) (a:=a) (o:=⟨dst,op,ty,po,af,none⟩) hτ hκ he (J4 _ Dw) ho hr.good IT λx _=>Ob _ rfl x;refine OG _ Q λE' u k1 k2 kd k3=>?_;refine behind E' u (by rw[Bx];exact k1) (by rw[Bx];exact k2) kd (by rw[Fw];exact k3) (λl x h=>?_) λl x h=>?_
      · rw[Bx]at h;rcases OT l x h with h|⟨y,hy⟩;·exact .inl h
        ·exact .inr ⟨y,J4 _ Dw l y hy⟩
      ·rw[Bx]at h;rw[←C8];exact fR _ (KC h)
    ·cases A1
  · rename_i j want;split at A1;·cases A1
    · rename_i gd EF;split at A1;·cases A1
      · rename_i g hg;have hw:=VL (o:=⟨dst,op,ty,po,af,some (j,want)⟩) rfl EF hg (hval gd);rw[hw];have Sk:H8 τ κ dec g i dst op (Dp T ds i s0.tmps Fe op.operands.toList) (Hp Hi (H6 op Hi (EJ (Aw (Dp T ds i s0.tmps Fe op.operands.toList) op.operands.toList)))) (H6 op Hi (EJ (Aw (Dp T ds i s0.tmps Fe op.operands.toList) op.operands.toList))) (n0+i)=some (ob,rc)→if g=true then Oper.wpIn (fz r) 0 P ⟨dst,op,ty,po,af,some (j,want)⟩ a E.w K Q else(∀(f:FuncId),Oper.about P E.w a.eval ⟨dst,op,ty,po,af,some (j,want)⟩=some f→(fz r).fn f)∧K (a.put dst undef) E.w:=λA1=>by
          unfold H8 at A1;split at A1;·cases A1
          · split at A1
            · rw[dO rfl];split at A1
              · rename_i ob' v es he;have HY:IN true (GJ op (Dp T ds i s0.tmps Fe op.operands.toList)) ob'=ob:=by cases A1;rfl
                have C8:=(kT (gQ A1)).2;have Dw:∀l∈H6 op Hi (EJ (Aw (Dp T ds i s0.tmps Fe op.operands.toList) op.operands.toList)),l∈rc.ks:=λl hl=>by rw[←C8];simp[hl]
                have Fw:rc.v=v:=by rw[←C8]
                have Bx:rc.ed=es:=by rw[←C8]
                have Bw:=(Ja (by rw[HY];exact ho) rfl).1;have kc:=(Ja (by rw[HY];exact ho) rfl).2;obtain⟨OG,OT⟩:=Rk (r:=r) (a:=a) (o:=⟨dst,op,ty,po,af,some (j,want)⟩) hτ hκ he (J4 _ Dw) Bw hr.good IT λx hx=>M3 hx (Ob _ rfl x) kc;refine OG _ Q λE' u k1 k2 kd k3=>?_;refine behind E' u (by rw[Bx];exact k1) (by rw[Bx];exact k2) kd (by rw[Fw];exact k3) (λl x h=>?_) λl x h=>?_
                · rw[Bx]at h;rcases OT l x h with h|⟨y,hy⟩;·exact .inl h
                  ·exact .inr ⟨y,J4 _ Dw l y hy⟩
                ·rw[Bx]at h;rw[←C8];exact fR _ (KC h)
              ·cases A1
            · rw[dK (by simp)];have C8:=(kT (gQ A1)).2;have Fw:rc.v=.when false (.d .bool false):=by rw[←C8]
              have Bx:rc.ed=[]:=by rw[←C8]
              exact⟨λ_ _=>trivial,behind E undef (by rw[Bx];exact hr.good) (by rw[Bx];exact .refl _ _ _) (dT _) (by rw[Fw];exact .when (λe=>by cases e) λ_=>rfl) (λl x h=>by rw[Bx]at h;cases h) λl x h=>by rw[Bx]at h;cases h⟩
        split at A1
        · rename_i out he;generalize HP:Fk op out=out' at A1;obtain⟨ob',v,ed⟩:=out';simp only at A1;split at A1
          · rename_i es Ac;have HY:IN g (GJ op (Dp T ds i s0.tmps Fe op.operands.toList)) ob'=ob:=by cases A1;rfl
            have C8:=(kT (gQ A1)).2;have Dw:∀l∈H6 op Hi (EJ (Aw (Dp T ds i s0.tmps Fe op.operands.toList) op.operands.toList)),l∈rc.ks:=λl hl=>by rw[←C8];simp[hl]
            have Fw:rc.v=.when g v:=by rw[←C8]
            have Bx:rc.ed=es:=by rw[←C8]
            have hcase:ed=none∧es=[]∨ed=some (n0+i,.dead,false)∧es=[(n0+i,.dead)]:=by
              unfold Rh at Ac;split at Ac;·cases Ac;exact .inl ⟨rfl,rfl⟩
              · split at Ac;·rename_i l hb;cases Ac;rw[dJ hb];exact .inr ⟨rfl,rfl⟩
                ·cases Ac
              ·cases Ac
            have Jr:∀l x,O l rc.ed=some x→l=n0+i∨∃y,O l (replay L R s0).objs=some y:=λl x h=>by
              rw[Bx]at h;rcases hcase with⟨_,rfl⟩|⟨_,rfl⟩;·cases h
              · rw[Ad]at h;split at h;·rename_i e;exact .inl e.symm
                ·cases h
            have OV:∀l x,O l rc.ed=some x→l∈rc.ks:=λl x h=>by rw[Bx]at h;rw[←C8];exact fR _ (KC h)
            cases g with|true=>
              rw[dO rfl];have Bw:Ae (Fk op out).ob:=by rw[HP];exact(Ja (by rw[HY];exact ho) rfl).1
              have kc:=(Ja (by rw[HY];exact ho) rfl).2;have hd0:=LJ (r:=r) (a:=a) (o:=⟨dst,op,ty,po,af,some (j,want)⟩) hτ hκ he (J4 _ Dw) (by rw[←RY op out];exact Bw) hr.good IT λx hx=>M3 hx (Ob _ rfl x) kc;have ED:=RX op hd0;rw[HP]at ED;refine ED _ Q λE' u k1 k2 kd k3=>?_;refine behind E' u ?_ ?_ kd (by rw[Fw];exact .when (λ_=>k3) λe=>by cases e) Jr OV
              · rw[Bx];rcases hcase with⟨rfl,rfl⟩|⟨rfl,rfl⟩;·exact k1
                ·exact k1
              · rw[Bx];rcases hcase with⟨rfl,rfl⟩|⟨rfl,rfl⟩;·exact k2
                ·exact k2|false=>
              rw[dK (by simp)];refine⟨λ_ _=>trivial,?_⟩;rcases hcase with⟨rfl,rfl⟩|⟨rfl,rfl⟩;·exact behind E undef (by rw[Bx];exact hr.good) (by rw[Bx];exact .refl _ _ _) (dT _) (by rw[Fw];exact .when (λe=>by cases e) λ_=>rfl) Jr OV
              ·have ha:=hr.good.adopt (n:=n0+i) (K:=⟨0,none,0,0,0⟩) (o:=.dead) IT trivial λh=>h.elim;exact behind (E.setL E.w (n0+i) ⟨0,none,0,0,0⟩) undef (by rw[Bx];exact ha.1) (by rw[Bx];exact ha.2 E _ [] (.refl _ _ _) λh=>h.elim) (dT _) (by rw[Fw];exact .when (λe=>by cases e) λ_=>rfl) Jr OV
          ·exact Sk A1
        ·exact Sk A1
end
section
variable {P : Program} {τ : AK} {κ : AZ} {φ : Nat → Option FX}
def Kr:Nat→List Nat→Bool|0,_=>true|n+1,l=>match A2 n l with|true=>Kr n l|false=>false
theorem Qw{l:List Nat}:∀{n:Nat},Kr n l=true→∀j,j<n→j∈l
 |0,_,j,h=>absurd h (by omega)|n+1,h,j,hj=>by
  simp only[Kr]at h;split at h
  ·rename_i h1;by_cases e:j=n;·subst e;exact Cr.1 h1
   ·exact Qw h j (by omega)
  ·cases h
def Km(T:List (Nat×List Nat))(p:Nat):Nat→Nat→Bool|_,0=>true|i,c+1=>match Kr p (BG i T)with|true=>Km T p (i+1) c|false=>false
theorem Qg{T:List (Nat×List Nat)}{p:Nat}:∀{c i:Nat},Km T p i c=true→∀j,i≤j→j<i+c→∀k,k<p→k∈BG j T
 |0,i,_,j,h1,h2,_,_=>absurd h2 (by omega)|c+1,i,h,j,h1,h2,k,hk=>by
  simp only[Km]at h;split at h
  ·rename_i hb;by_cases e:j=i;·subst e;exact Qw hb k hk
   ·exact Qg h j (by omega) (by omega) k hk
  ·cases h
def JK:Nat→List Oper→List (Nat×Nat)|_,[]=>[]|i,⟨some d,_,_,_,_,_⟩::r=>(d,i)::JK (i+1) r|i,_::r=>JK (i+1) r
def Iv{α:Type}:Nat→List α→List α×List α|0,l=>([],l)|n+1,[]=>([],[])|n+1,x::l=>match Iv n l with|(a,b)=>(x::a,b)
def JZ(τ:AK)(κ:AZ)(dec:Bool)(T:List (Nat×List Nat))(ops:List Oper)(n p:Nat)(seg:List Oper)(s:St)(k:St→Prop):Prop:=match s with|⟨nt,tmps,objs,nx,df,wr,di,mv⟩=>match IM τ κ dec T (JK p seg) ops nx tmps p seg ⟨nt,tmps,objs,nx+n,df,wr,di,mv⟩with|none=>False|some (obs,R,s')=>match KM T R with|false=>False|true=>match G9 nt (JK p seg) R with|false=>False|true=>Mq obs (k s')
def SO(ops:List Oper):List Oper→Option Nat|[]=>none|⟨_,_,_,_,_,some (j,_)⟩::_=>JX ops j|_::r=>SO ops r
def MR(t:Nat)(b:Bool)(s:St):St:=match s with|⟨nt,tmps,objs,nx,df,wr,di,mv⟩=>⟨nt,(t,.d .bool b)::tmps,objs,nx,df,t::wr,di,mv⟩
def N0(τ:AK)(κ:AZ)(T:List (Nat×List Nat))(ops:List Oper)(n p:Nat)(seg:List Oper)(s:St)(k:St→Prop):Prop:=match s with|⟨nt,tmps,objs,nx,df,wr,di,mv⟩=>match IM τ κ false T (JK p seg) ops nx tmps p seg ⟨nt,tmps,objs,nx+n,df,wr,di,mv⟩with|some _=>JZ τ κ false T ops n p seg ⟨nt,tmps,objs,nx,df,wr,di,mv⟩ k|none=>match SO ops seg with|none=>False|some t=>match AF t tmps with|.d .bool b=>cond b (JZ τ κ true T ops n p seg (MR t true ⟨nt,tmps,objs,nx,df,wr,di,mv⟩) k) (JZ τ κ true T ops n p seg (MR t false ⟨nt,tmps,objs,nx,df,wr,di,mv⟩) k)|_=>False
theorem aF{cx:Cx}{s:St}{t:Nat}{b:Bool}(hv:AF t s.tmps=.d .bool b){a:Act}{w:World}(r:Ab P cx s a w):AC s (MR t b s)∧Ab P cx (MR t b s) a w:=by
 obtain⟨nt,tmps,objs,nx,df,wr,di,mv⟩:=s;obtain⟨E,rfl,r1⟩:=r;have hl:∀u,AF u ((t,V.d .bool b)::tmps)=AF u tmps:=λu=>by
  rw[BU];split;·rename_i e;rw[←e];exact hv.symm
  ·rfl
 refine⟨⟨rfl,dT _,λ_ h=>dS _ h,λ_ h=>h,λ_ h=>h,λu hu=>hl u,λ_ _=>rfl,λ_=>rfl⟩,E,rfl,r1.good,r1.fresh,r1.step,r1.drawn,r1.size,r1.df,λu=>?_⟩;show N P E (AF u ((t,V.d .bool b)::tmps)) _;rw[hl];exact r1.rep u
theorem XW{cx:Cx}{T:List (Nat×List Nat)}{ops:List Oper}{n p:Nat}{seg:List Oper}{s:St}{k:St→Prop}(h:N0 τ κ T ops n p seg s k){a:Act}{w:World}(r:Ab P cx s a w):∃dec s1,AC s s1∧Ab P cx s1 a w∧JZ τ κ dec T ops n p seg s1 k:=by
 obtain⟨nt,tmps,objs,nx,df,wr,di,mv⟩:=s;unfold N0 at h;simp only at h;split at h;·exact⟨false,_,.refl _,r,h⟩
 ·split at h;·exact h.elim
  ·rename_i t _;split at h;·rename_i b hv;obtain⟨h1,h2⟩:=aF (P:=P) (cx:=cx) (s:=⟨nt,tmps,objs,nx,df,wr,di,mv⟩) hv r;cases b with|true=>exact⟨true,_,h1,h2,h⟩|false=>exact⟨true,_,h1,h2,h⟩
   ·exact h.elim
def H9(τ:AK)(κ:AZ)(X:XT)(T:List (Nat×List Nat))(ops:List Oper)(n:Nat):List Nat→Nat→List Oper→St→(St→Prop)→Prop
 |[],p,rest,s,k=>match rest with|[]=>k s|_=>False
 |q::qs,p,rest,s,k=>match Km T q q (n-q)with|false=>False|true=>match Nat.beq q (p+1)with
  |true=>match rest with|[]=>False|o::r=>Cu τ κ X ops [o] [] s λs'=>H9 τ κ X T ops n qs q r s' k
  |false=>match Iv (q-p) rest with|(seg,r)=>match Nat.beq (p+seg.length) q with|false=>False|true=>N0 τ κ T ops n p seg s λs'=>H9 τ κ X T ops n qs q r s' k
theorem P4{α:Type}:∀{n:Nat}{l:List α},(Iv n l).1=l.take n∧(Iv n l).2=l.drop n|0,l=>⟨rfl,rfl⟩|n+1,[]=>⟨rfl,rfl⟩|n+1,x::l=>by have :=P4 (n:=n) (l:=l);simp only[Iv,jQ,iA];exact⟨by rw[this.1],this.2⟩
theorem AC.app(r:Rc)(s:St):AC s (r.app s):=by
 obtain⟨i,dst,v,ed,ks⟩:=r;obtain⟨nt,tmps,objs,nx,df,wr,di,mv⟩:=s;refine⟨rfl,dT _,λt ht=>?_,λl hl=>?_,λ_ h=>h,λt ht=>?_,λl hl=>?_,λ_=>rfl⟩;·cases dst with|none=>exact ht|some d=>exact dS _ ht
 ·exact fN _ hl
 ·cases dst with|none=>rfl|some d=>have ht:t∉d::wr:=ht;simp only[eA,fJ]at ht;show AF t ((d,v)::tmps)=_;rw[BU,dK (eS ht.1)]
 ·have hl:l∉Gf ed++di:=hl;simp only[fC,fJ]at hl;show O l (ed++objs)=_;rw[II];cases h:O l ed with|none=>rfl|some o=>exact absurd (KC h) hl.1
theorem AC.replay(p:Nat→Bool):∀(R:List Rc)(s:St),AC s (replay p R s)
 |[],s=>.refl s|r::rs,s=>by
  simp only[YtldikbpclaeajaaDoor.replay];split;·exact(AC.app r s).trans (AC.replay p rs _)
  ·exact AC.replay p rs s
def Bd(n p:Nat)(listed:Array Bool):Prop:=listed.size=n∧∀j,j<n→listed.getD j false=decide (j<p)
def K7(n:Nat)(listed:Array Bool):Nat:=((List.range n).filter λj=>!listed.getD j false).length
theorem XH{p p':Nat→Bool}{i:Nat}(hi:p i=true)(hi':p' i=false)(hp:∀j,p' j=true→p j=true):∀{l:List Nat},i∈l→(l.filter p').length<(l.filter p).length:=by
 have hle:∀l:List Nat,(l.filter p').length≤(l.filter p).length:=by intro l;induction l with|nil=>simp|cons x l ih=>
  simp only[mG];split;·rename_i h;rw[dO (hp x h)];simpa using ih
  ·split;·simp;omega
   ·exact ih
 intro l h;induction l with|nil=>cases h|cons x l ih=>
  simp only[mG];rcases List.mem_cons.1 h with rfl|h;·rw[dO hi,dK (by rw[hi'];simp)];have :=hle l;simp;omega
  ·have :=ih h;split;·rename_i h';rw[dO (hp x h')];simpa using this
   ·split;·simp;omega
    ·exact this
theorem Hq{listed:Array Bool}{i j:Nat}(hi:i<listed.size):(listed.setIfInBounds i true).getD j false=(listed.getD j false||decide (j=i)):=by
 by_cases e:j=i;·subst e;simp[dQ,hi]
 ·rw[getD_set_ne false (eS e)];simp[e]
theorem Q9{n i:Nat}{listed:Array Bool}(hs:listed.size=n)(hi:i<n)(hl:listed.getD i false=false):K7 n (listed.setIfInBounds i true)<K7 n listed:=by refine XH (i:=i) (by simp only[hl];rfl) (by rw[Hq (by omega)];simp) (λj hj=>?_) (List.mem_range.2 hi);rw[Hq (by omega)]at hj;cases h:listed.getD j false with|false=>rfl|true=>rw[h]at hj;cases hj
def I2(T:List (Nat×List Nat))(n:Nat)(listed:Array Bool):Prop:=∀i,i<n→listed.getD i false=true→∀j∈BG i T,listed.getD j false=true
theorem Pm{ops:Array Oper}{T:List (Nat×List Nat)}(hT:PT ops T){listed:Array Bool}(hd:I2 T ops.size listed){i:Nat}(hi:i∈Region.ready .any ops listed):i<ops.size∧listed.getD i true=false∧∀j∈BG i T,listed.getD j false=true:=by
 obtain⟨h1,o,h2,h3⟩:=mem_ready.1 hi;have AM:i<ops.size:=(Array.getElem?_eq_some_iff.1 h2).1;refine⟨AM,h1,λj hj=>?_⟩;obtain⟨e,he,hb,YV⟩:=hT.back i o j h2 hj;have TA:=h3 e he hb;rcases YV with h|h;·rw[←h];exact TA
 ·exact hd e.on (Nat.lt_trans (hT.lt i e.on AM (hT.edge i o e h2 he hb)) AM) TA j h
theorem LQ{listed:Array Bool}{n j:Nat}(hs:listed.size=n)(hj:j<n):listed.getD j true=listed.getD j false:=by rw[dQ,dQ,eZ (by omega)];rfl
theorem Ui{ops:Array Oper}{T:List (Nat×List Nat)}(hT:PT ops T){listed:Array Bool}(hs:listed.size=ops.size):∀i,i<ops.size→listed.getD i false=false→Region.ready .any ops listed≠[]:=by intro i;induction i using Nat.strongRecOn with|_ i ih=>intro hi hl hn;have :i∈Region.ready .any ops listed:=mem_ready.2 ⟨by rw[LQ hs hi];exact hl,ops[i],eZ hi,λe he hb=>by have AM:=hT.lt i e.on hi (hT.edge i ops[i] e (eZ hi) he hb);cases h:listed.getD e.on false with|true=>rfl|false=>exact absurd hn (ih e.on AM (by omega) h)⟩;rw[hn]at this;cases this
theorem Qv{ops:Array Oper}{T:List (Nat×List Nat)}(hT:PT ops T){p:Nat}{listed:Array Bool}(h:Bd ops.size p listed):I2 T ops.size listed:=λi hi hl j hj=>by
 have h1:=h.2 i hi;rw[hl]at h1;have h2:=hT.lt i j hi hj;have h3:i<p:=by simpa using h1.symm
 rw[h.2 j (by omega)];simp;omega
theorem Wc{ops:Array Oper}{T:List (Nat×List Nat)}(hT:PT ops T){listed:Array Bool}(hs:listed.size=ops.size)(hd:I2 T ops.size listed){i:Nat}(hi:i∈Region.ready .any ops listed):I2 T ops.size (listed.setIfInBounds i true):=λj hj hl k hk=>by
 obtain⟨h1,h2,h3⟩:=Pm hT hd hi;rw[Hq (by omega)]at hl⊢;rcases Bool.or_eq_true_iff.1 hl with h|h;·rw[hd j hj h k hk];rfl
 ·have :j=i:=by simpa using h
  subst this;rw[h3 k hk];rfl
end
section
variable {P : Program} {τ : AK} {κ : AZ} {φ : Nat → Option FX}
theorem bR{F:Fence}{n:Nat}{o:Oper}{a:Act}{w:World}{K:Act→World→Prop}{Q Q':CC}(h:∀c a w,Q' (.panic c) a w→Q (.panic c) a w)(h2:LetsOut Q'→LetsOut Q)(hh:o.wpIn F n P a w K Q'):o.wpIn F n P a w K Q:=by unfold Oper.wpIn at*;refine⟨hh.1,?_⟩;have hh:=hh.2;generalize(o.semAt F.round a.eval).run P w=r at*;cases r with
 |ok x w'=>cases x<;>simp only[Oper.uponIn]at hh⊢<;>first|exact hh|exact⟨hh.1,CallsIn.mono hh.2 λe w'' he=>by cases e<;>first|exact h _ _ _ he|exact h2 he|exact he⟩|exact⟨hh.1,RowsIn.mono hh.2 λ_ _ he=>he⟩|exact⟨hh.1,RoundIn.mono hh.2 λe w'' he=>by cases e<;>first|exact h _ _ _ he|exact h2 he|exact he⟩
 |halt x w'=>cases x<;>simp only[Oper.uponIn]at hh⊢<;>first|exact hh|exact h _ _ _ hh
theorem bT{F:Fence}{n:Nat}{ops:Array Oper}{i:Nat}{a:Act}{w:World}{K:Act→World→Prop}{Q Q':CC}(h:∀c a w,Q' (.panic c) a w→Q (.panic c) a w)(h2:LetsOut Q'→LetsOut Q)(hh:wpOpIn F n P ops Q' i K a w):wpOpIn F n P ops Q i K a w:=by
 unfold wpOpIn at*;split;·rename_i ho;rw[ho]at hh;exact hh
 ·rename_i o ho;rw[ho]at hh;simp only at hh;split;·rename_i hw;rw[dO hw]at hh;exact bR h h2 hh
  ·rename_i hw;rw[dK hw]at hh;exact hh
theorem LG(hτ:Ah P τ)(hκ:Aj P κ){r:Option Nat}{cx:Cx}{X:XT}(hX:I4 P r cx X){ops:Array Oper}{T:List (Nat×List Nat)}(hT:PT ops T){Q:CC}:∀(qs:List Nat)(p:Nat)(rest:List Oper)(s:St)(k:St→Prop),rest=ops.toList.drop p→p≤ops.size→(∀i,p≤i→i<ops.size→∀j,j<p→j∈BG i T)→H9 τ κ X T ops.toList ops.size qs p rest s k→∀(fuel:Nat)(listed:Array Bool)(a:Act)(w:World),Bd ops.size p listed→K7 ops.size listed≤fuel→Ab P cx s a w→(∀s' a' w',AC s s'→k s'→Ab P cx s' a' w'→Q .normal a' w')→wpAnyIn (fz r) 0 P .any ops Q fuel listed a w
 |[],p,rest,s,k,HZ,YZ,Xr,h,fuel,listed,a,w,hB,hc,hr,hk=>by
  simp only[H9]at h;split at h
  ·have hp:p=ops.size:=by
    have :(ops.toList.drop p).length=0:=by rw[←HZ];rfl
    simp at this;omega
   have TJ:Region.ready .any ops listed=[]:=by refine List.eq_nil_iff_forall_not_mem.2 λi hi=>?_;obtain⟨h1,o,h2,_⟩:=mem_ready.1 hi;have AM:i<ops.size:=(Array.getElem?_eq_some_iff.1 h2).1;rw[LQ hB.1 AM,hB.2 i AM,hp]at h1;simp at h1;omega
   have hq:=hk s a w (.refl s) h hr;cases fuel with|zero=>exact⟨TJ,hq⟩|succ f=>exact⟨λ_=>hq,λi hi=>by rw[TJ]at hi;cases hi⟩
  ·exact h.elim|q::qs,p,rest,s,k,HZ,YZ,Xr,h,fuel,listed,a,w,hB,hc,hr,hk=>by
  simp only[H9]at h;split at h;·exact h.elim
  ·rename_i hall;have Jf:q≤ops.size→∀i,q≤i→i<ops.size→∀j,j<q→j∈BG i T:=λhq i h1 h2 j hj=>Qg hall i h1 (by omega) j hj;split at h;·
    rename_i Jy;have Jy:=dJ Jy;split at h;·exact h.elim
    ·rename_i o rst;have BK:ops[p]?=some o:=by
      have :ops.toList[p]?=some o:=by have :=gM (xs:=ops.toList) (i:=p) (j:=0);rw[←HZ]at this;simpa using this.symm
      simpa using this
     have AM:p<ops.size:=(Array.getElem?_eq_some_iff.1 BK).1;have Og:rst=ops.toList.drop q:=by have :=eR (List.drop 1) HZ;rw[Jy];simpa[kX]using this
     have Ol:listed.getD p false=false:=by rw[hB.2 p AM];simp
     have hB':Bd ops.size q (listed.setIfInBounds p true):=⟨by simpa using hB.1,λj hj=>by
      rw[Hq (by rw[hB.1];exact AM),hB.2 j hj,Jy];by_cases e:j=p;·subst e;simp
      ·have :(j<p+1)=(j<p):=by apply propext;omega
       simp[e,this]⟩;have hcs:=Q9 hB.1 AM Ol;cases fuel with|zero=>omega|succ f=>
      refine⟨λhn=>absurd hn (Ui hT hB.1 p AM Ol),λi hi=>?_⟩;obtain⟨h1,h2,h3⟩:=Pm hT (Qv hT hB) hi;have Sy:i=p:=by
       rw[LQ hB.1 h1,hB.2 i h1]at h2;have h2:p≤i:=by simpa using h2
       by_cases e:i=p;·exact e
       ·have :=h3 p (Jf (by omega) i (by omega) h1 p (by omega));rw[Ol]at this;cases this
      subst Sy;have :=PQ (Q:=λe a w=>match e with|.normal=>wpAnyIn (fz r) 0 P .any ops Q f (listed.setIfInBounds i true) a w|e=>Q e a w) hτ hκ hX (ops:=ops) (l:=[o]) (is:=[i]) (by simp[BK]) h hr λs' a' w' hi' hq' hr'=>LG hτ hκ hX hT qs q rst s' k Og (by omega) (Jf (by omega)) hq' f _ a' w' hB' (by omega) hr' λs'' a'' w'' hj hq'' hr''=>hk s'' a'' w'' (hi'.trans hj) hq'' hr'';rw[wpOpsIn_cons]at this;exact bT (λc a w h=>h) (λ⟨a,w,h⟩=>⟨a,w,h⟩) this
   ·generalize Fy:Iv (q-p) rest=sr at h;obtain⟨seg,rst⟩:=sr;simp only at h;have TN:seg=rest.take (q-p):=by rw[←(P4 (n:=q-p) (l:=rest)).1,Fy]
    have Og:rst=rest.drop (q-p):=by rw[←(P4 (n:=q-p) (l:=rest)).2,Fy]
    split at h;·exact h.elim
    ·rename_i hlen;have hlen:=dJ hlen;obtain⟨dec,s1,hi1,hr,h⟩:=XW h hr;replace hk:∀s' a' w',AC s1 s'→k s'→Ab P cx s' a' w'→Q .normal a' w':=λs' a' w' hi=>hk s' a' w' (hi1.trans hi);obtain⟨nt,tmps,objs,nx,df,wr,di,mv⟩:=s1;unfold JZ at h;simp only at h;split at h;·exact h.elim
     ·rename_i obs R s' hg;split at h;·exact h.elim
      ·rename_i YX;split at h;·exact h.elim
       ·rename_i X8;obtain⟨YU,Eu⟩:=Qh h;obtain⟨k0,k1,k2,k3⟩:=SN (R0:=[]) (s0:=⟨nt,tmps,objs,nx+ops.size,df,wr,di,mv⟩) hg (λ_ h=>by simp at h) rfl;simp only[hG]at k2 k3;have Jz:q≤ops.size:=by
         have :seg.length≤rest.length:=by rw[TN,eM];exact Nat.min_le_right _ _
         have h2:rest.length=ops.size-p:=by rw[HZ,fG,eG]
         omega
        have Yf:∀j o,seg[j]?=some o→ops[p+j]?=some o:=λj o hj=>by
         rw[TN,eE]at hj;split at hj;·rw[HZ,gM]at hj;simpa using hj
         ·cases hj
        have TM:rst=ops.toList.drop q:=by rw[Og,HZ,kX];congr 1;omega
        have LV:∀r∈R,r.i<ops.size:=λr hr=>by have :=k1 r hr;omega
        have hinv0:AC ⟨nt,tmps,objs,nx,df,wr,di,mv⟩ ⟨nt,tmps,objs,nx+ops.size,df,wr,di,mv⟩:=⟨rfl,by simp,λ_ h=>h,λ_ h=>h,λ_ h=>h,λ_ _=>rfl,λ_ _=>rfl,λ_=>rfl⟩;have key:∀(fuel:Nat)(listed:Array Bool)(a:Act)(E:AB),listed.size=ops.size→I2 T ops.size listed→(∀j,j<p→listed.getD j false=true)→(∀j,j<ops.size→q≤j→listed.getD j false=false)→K7 ops.size listed≤fuel→Af P cx (replay (λj=>listed.getD j false) R ⟨nt,tmps,objs,nx+ops.size,df,wr,di,mv⟩) a E→(∀r∈R,listed.getD r.i false=false→E.loc (nx+r.i)=none)→wpAnyIn (fz r) 0 P .any ops Q fuel listed a E.w:=by intro fuel;induction fuel with
         |zero=>
          intro listed a E hs hd Dj HR hc hr hf;have N8:∀j,j<ops.size→listed.getD j false=true:=λj hj=>by cases hl:listed.getD j false with|true=>rfl|false=>have hm:j∈(List.range ops.size).filter λj=>!listed.getD j false:=List.mem_filter.2 ⟨List.mem_range.2 hj,by simp only[hl];rfl⟩;rw[dZ (Nat.le_zero.1 hc)]at hm;cases hm
          have N3:Bd ops.size q listed:=⟨hs,λj hj=>by
           rw[N8 j hj];by_cases e:j<q;·simp[e]
           ·have :=HR j hj (by omega);rw[N8 j hj]at this;cases this⟩;refine LG hτ hκ hX hT qs q rst s' k TM Jz (Jf Jz) Eu 0 listed a E.w N3 hc ?_ λs'' a'' w'' hj hq'' hr''=>hk s'' a'' w'' ((hinv0.trans (by rw[k2];exact AC.replay _ _ _)).trans hj) hq'' hr'';refine⟨E,rfl,?_⟩;rw[k2,KS (p:=λ_=>true) (q:=λj=>listed.getD j false)];·exact hr
          ·intro r hr;exact(N8 r.i (LV r hr)).symm|succ f ih=>
          intro listed a E hs hd Dj HR hc hr hf;by_cases OO:∀j,p≤j→j<q→listed.getD j false=true
          ·have N3:Bd ops.size q listed:=⟨hs,λj hj=>by
            by_cases e:j<q
            ·by_cases e2:j<p;·rw[Dj j e2];simp[e]
             ·rw[OO j (by omega) e];simp[e]
            ·rw[HR j hj (by omega)];simp[e]⟩;refine LG hτ hκ hX hT qs q rst s' k TM Jz (Jf Jz) Eu (f+1) listed a E.w N3 hc ?_ λs'' a'' w'' hj hq'' hr''=>hk s'' a'' w'' ((hinv0.trans (by rw[k2];exact AC.replay _ _ _)).trans hj) hq'' hr'';refine⟨E,rfl,?_⟩;rw[k2,KS (p:=λ_=>true) (q:=λj=>listed.getD j false)];·exact hr
           ·intro r hr;have :=k1 r hr;exact(OO r.i this.1 (by omega)).symm
          ·have :∃j,p≤j∧j<q∧listed.getD j false=false:=by refine kE λhn=>OO λj h1 h2=>?_;cases hl:listed.getD j false with|true=>rfl|false=>exact absurd ⟨j,h1,h2,hl⟩ hn
           obtain⟨j,IV,hj2,Lf⟩:=this;refine⟨λhn=>absurd hn (Ui hT hs j (by omega) Lf),λi hi=>?_⟩;obtain⟨h1,h2,h3⟩:=Pm hT hd hi;rw[LQ hs h1]at h2;have Sy:p≤i:=by refine Nat.le_of_not_lt λAM=>?_;rw[Dj i AM]at h2;cases h2
           have cW:i<q:=by refine gU λhle=>?_;have :=h3 j (Jf Jz i hle h1 j hj2);rw[Lf]at this;cases this
           obtain⟨o,ho⟩:∃o,seg[i-p]?=some o:=⟨seg[i-p],dY (by omega)⟩;have Jn:=Yf _ _ ho;rw[show p+(i-p)=i from by omega]at Jn;obtain⟨ob,rc,m1,m2,m3⟩:=k3 _ _ ho;rw[show p+(i-p)=i from by omega]at m1;refine XX (L:=λj=>listed.getD j false) (n0:=nx) hτ hκ hT Jn m1 (YU ob m2) m3 k0 YX X8 LV rfl h2 (λq hq hl j hj _=>hd q.i (LV q hq) hl j hj) (λj hj _=>h3 j hj) hr hf λa' E' hr' hf'=>?_;have J3:∀j,(listed.setIfInBounds i true).getD j false=C3 (λj=>listed.getD j false) i j:=λj=>by rw[Hq (by omega)];rfl
           refine ih (listed.setIfInBounds i true) a' E' (by simpa using hs) (Wc hT hs hd hi) (λj hj=>?_) (λj hj TH=>?_) ?_ ?_ λq hq hl=>hf' q hq (by rw[←J3];exact hl);·rw[Hq (by omega),Dj j hj];rfl
           ·rw[Hq (by omega),HR j hj TH];simp;omega
           ·have :=Q9 hs h1 h2;omega
           ·rw[KS (p:=λj=>(listed.setIfInBounds i true).getD j false) (q:=C3 (λj=>listed.getD j false) i)];·exact hr'
            ·intro r _;exact J3 r.i
        obtain⟨E,rfl,r1⟩:=hr;refine key fuel listed a E hB.1 (Qv hT hB) (λj hj=>by rw[hB.2 j (by omega)];simpa using hj) (λj hj TH=>?_) hc ?_ λr hr _=>r1.fresh _ (by show nx≤nx+r.i;omega)
        ·have Jy:p≤q:=by omega
         rw[hB.2 j hj];simp;omega
        ·rw[Ps];·exact⟨r1.good,λl hl=>r1.fresh l (by have :nx+ops.size≤l:=hl;show nx≤l;omega),r1.step,r1.drawn,r1.size,r1.df,r1.rep⟩
         ·intro r hr;have :=k1 r hr;rw[hB.2 r.i (LV r hr)];simp;omega
def Ub(l:List Nat):Nat→Nat→Nat|0,k=>k|f+1,k=>match A2 k l with|true=>Ub l f (k+1)|false=>k
def JH(T:List (Nat×List Nat)):Nat→Nat→Nat→List Nat→List Nat|0,_,_,acc=>acc|i+1,n,m,acc=>match Ub (BG i T) n 0 with|k=>match Nat.ble k m with
 |true=>match Nat.ble i k with
  |true=>match i with|0=>acc|j+1=>JH T i n k (i::acc)
  |false=>JH T i n k acc
 |false=>match Nat.ble i m with
  |true=>match i with|0=>acc|j+1=>JH T i n m (i::acc)
  |false=>JH T i n m acc
def LF(τ:AK)(κ:AZ)(X:XT)(l:List Oper)(s:St)(k:St→Prop):Prop:=match l.length with|n=>match Ua 0 l []with|T=>match KO T 0 l with|false=>False|true=>match JH T n n n [n]with|qs=>H9 τ κ X T l n qs 0 l s k
theorem Ab.drawn{cx:Cx}{s:St}{a:Act}{w:World}(h:Ab P cx s a w):Ab P cx s a {w with drawn:=w.drawn+1}:=by obtain⟨E,rfl,r⟩:=h;obtain⟨g,st⟩:=r.good.at (w:={E.w with drawn:=E.w.drawn+1}) rfl (iQ _) rfl rfl rfl;exact⟨E.at _,rfl,g,r.fresh,by simpa using r.step.trans st,eO r.drawn (iQ _),r.size,r.df.ext st.ext,λt=>(r.rep t).mono st.ext⟩
theorem Wd(hτ:Ah P τ)(hκ:Aj P κ)(hm:P.follows .mixedOrders=true){r:Option Nat}{cx:Cx}{X:XT}(hX:I4 P r cx X){id:Nat}{ops:Array Oper}{s:St}{k:St→Prop}{R:CC}(h:LF τ κ X ops.toList s k){a:Act}{w:World}(hr:Ab P cx s a w)(hk:∀s' a' w',AC s s'→k s'→Ab P cx s' a' w'→R .normal a' w'):(Code.region id ops true).wpIn (fz r) 0 P R a w:=by
 refine wpIn_region_any hm ?_;unfold LF at h;simp only at h;split at h;·exact h.elim
 ·rename_i hp;refine LG hτ hκ hX (PT.of hp) _ 0 _ s k rfl (fW _) (λi _ _ j hj=>absurd hj (by omega)) (by simpa using h) _ _ a _ ⟨by simp,λj hj=>?_⟩ ?_ hr.drawn hk;·simp[dQ,hj]
  ·refine eO (kZ _ _) (by simp)
theorem We(hτ:Ah P τ)(hκ:Aj P κ)(hm:P.follows .mixedOrders=true):Mi P (LF τ κ):=λX id ops s k cx r R hX h a w hr hk=>Wd hτ hκ hm hX h hr hk
abbrev walk(τ:AK)(κ:AZ)(φ:Nat→Option FX):Ci:=Pz τ κ φ (LF τ κ) 8
theorem Cn(hτ:Ah P τ)(hκ:Aj P κ)(hφ:∀g fi,φ g=some fi→fi.Ok P g)(hm:P.follows .mixedOrders=true):Bf P (walk τ κ φ):=Uq hτ hκ hφ (We hτ hκ hm) 8
end
section
variable {P : Program} {τ : AK} {κ : AZ} {φ : Nat → Option FX}
def B1.{u}{α:Type u}(n:Nat):List (Nat×α)→Option α|[]=>none|(m,x)::r=>match Nat.beq m n with|true=>some x|false=>B1 n r
def BP(n:Nat):List (Nat×CX)→Option CX|[]=>none|(m,x)::r=>match Nat.beq m n with|true=>some x|false=>BP n r
theorem Np{α:Type}{n:Nat}{x:α}:∀{l:List (Nat×α)},B1 n l=some x→(n,x)∈l
 |[],h=>by cases h|(m,y)::r,h=>by
  simp only[B1]at h;split at h;·rename_i e;cases h;rw[dJ e];exact iW
  ·exact dS _ (Np h)
theorem WU:Aj P λn=>BP n []:=λ_ _ h=>by cases h
theorem WT{f:Nat}{c:CX}{l:List (Nat×CX)}(h:c.Ok P f)(k:Aj P λn=>BP n l):Aj P λn=>BP n ((f,c)::l):=λg d hd=>by
 simp only[BP]at hd;split at hd;·rename_i e;cases hd;rw[←dJ e];exact h
 ·exact k g d hd
theorem AV{f:Nat}{c:AQ}{l:List (Nat×CX)}(h:AR P f c)(k:Aj P λn=>BP n l):Aj P λn=>BP n ((f,.con c)::l):=WT (c:=.con c) h k
theorem Lp.wf{σ:Type}{body:σ→(σ→Prop)→Prop}(I:σ→Prop)(μ:σ→Nat)(h:∀y,I y→∀R:σ→Prop,(∀y',I y'→μ y'<μ y→R y')→body y R){x:σ}(hx:I x):Lp body x:=by
 intro R hR;have key:∀n y,μ y<n→I y→R y:=by intro n;induction n with|zero=>exact λy hn=>absurd hn (Nat.not_lt_zero _)|succ n ih=>exact λy hn hy=>hR _ (h y hy R λy' hy' AM=>ih y' (by omega) hy')
 exact key (μ x+1) x (mJ _) hx
end
def Me:Ty→List Value|.int k=>[.int k 0]|.bool=>[.bool false]|.str=>[.string ByteArray.empty]|.sl _=>[.slice none 0 0]|.pair a b=>Me a++Me b|.unit=>[]
theorem M9(w:World)(S:Nat→Prop):∀T:Ty,Al w S T T.dflt (Me T)|.int _=>rfl|.bool=>rfl|.str=>rfl|.sl _=>⟨none,0,rfl,⟨dT _,fW _⟩,λh=>absurd rfl h⟩|.pair a b=>⟨_,_,rfl,M9 w S a,M9 w S b⟩|.unit=>rfl
theorem bH{P:Program}{l:List (Nat×TI)}(h:∀p∈l,p.2.Ok P p.1):Ah P λt=>B1 t l:=λt i ht=>h (t,i) (Np ht)
theorem bI{P:Program}{l:List (Nat×TI)}(h:∀p∈l,p.2.Ok P p.1)(q:Nat×TI→Bool):Ah P λt=>B1 t (l.filter q):=λt i ht=>h (t,i) (List.mem_filter.1 (Np ht)).1
theorem TI.ok_mk{P:Program}{t:TypeId}{ti:TI}(h:(P.info? t).map (λi=>(i.size,i.bytes,i.zero.map λz=>(z.cells.toList,z.cells.size)))=some (ti.size,ti.bytes,some (ti.zero,ti.size)))(hk:match ti.k with|.int k=>P.underlying t=some (.int k)|.bool=>P.underlying t=some .bool|.str=>P.underlying t=some .string|.sl e=>P.underlying t=some (.slice e)|.arr n e=>P.underlying t=some (.array n e)∧∃zs sz,(P.info? e).map (λie=>(ie.zero.map λz=>z.cells.toList,ie.size))=some (some zs,sz)∧ti.zero=(List.replicate n zs).flatten∧ti.size=n*sz∧0<n∧n≤9223372036854775807∧0<sz|.st offs=>∃fs,P.underlying t=some (.struct fs)∧fs.toList.map (λf=>(f.offset,P.cellsOf f.type))=offs∧∀p∈offs,p.2≠0|.ptr=>∃e,P.underlying t=some (.pointer e)|.map k e=>P.underlying t=some (.map k e)∧(P.info? e).map (λie=>ie.zero.map λz=>z.oneCell')=some (some true)|.fn=>∃ps rs v,P.underlying t=some (.func ps rs v)|.other=>True)(hc:match ti.code with|some T=>T.size=ti.size∧0<ti.size∧Me T=ti.zero|none=>True):ti.Ok P t:=by
 obtain⟨k,size,bytes,zero,code⟩:=ti;refine⟨?_,?_,λT hT=>?_⟩;·simp only[eL,gL]at h;obtain⟨i,hi,h1,h2,h3⟩:=h;obtain⟨z,hz,h4,h5⟩:=h3;exact⟨i,z,hi,h1,h2,hz,h4,h5⟩
 ·cases k;case arr n e=>obtain⟨h1,zs,sz,h2,h3⟩:=hk;simp only[eL,gL]at h2;obtain⟨ie,Jm,⟨ze,J5,rfl⟩,rfl⟩:=h2;exact⟨h1,ie,ze,Jm,J5,h3⟩
  case map k e=>obtain⟨h1,h2⟩:=hk;simp only[eL]at h2;obtain⟨ie,Jm,ze,J5,h3⟩:=h2;exact⟨h1,ie,ze,Jm,J5,h3⟩
  all_goals exact hk
 ·simp only at hT;subst hT;obtain⟨h1,h2,h3⟩:=hc;exact⟨h1,h2,λw S=>by simp only at h3;rw[←h3];exact M9 w S T⟩
def D9(f:Func):FI:=⟨f.ntmps,f.results.toList,match f.body with|some c=>c|none=>.skip⟩
theorem AN{P:Program}{g:FuncId}{f:Func}(h:P.funcs[g]?=some f)(hb:f.body.isSome=true)(hn:(f.name== "runtime.NumGoroutine")=false):(D9 f).Ok P g:=by refine⟨f,h,?_,rfl,rfl,hn⟩;unfold D9;cases hf:f.body with|some c=>rfl|none=>rw[hf]at hb;cases hb
theorem XP{P:Program}:∀g fx,(λn=>B1 n ([]:List (Nat×FX))) g=some fx→fx.Ok P g:=λ_ _ h=>by cases h
theorem Fp{P:Program}{l:List (Nat×FX)}{f:Nat}{x:FX}(h:x.Ok P f)(k:∀g fx,(λn=>B1 n l) g=some fx→fx.Ok P g):∀g fx,(λn=>B1 n ((f,x)::l)) g=some fx→fx.Ok P g:=λg fx hg=>by
 simp only[B1]at hg;split at hg;·rename_i e;cases hg;rw[←dJ e];exact h
 ·exact k g fx hg
theorem AX{P:Program}{τ:AK}(hτ:Ah P τ){run:Ci}(hrun:Bf P run){A:An}{f:FuncId}{fi:FI}(hok:fi.Ok P f){ps:List PS}{rs:List Ty}{pre:Option (BO ps→Prop)}{fn:BO ps→A8 rs}{Wp:BO ps→(A8 rs→Prop)→Prop}(hw:∀xs Q,Wp xs Q=HJ τ run A fi ps rs xs Q)(hs:∀xs,He ps xs→Ae (AQ.ob ⟨ps,pre,λxs=>AO rs (fn xs)⟩ xs)→Wp xs λr=>r=fn xs):AR P f ⟨ps,pre,λxs=>AO rs (fn xs)⟩:=WK hτ hrun hok λxs hl hp=>hw xs _▸hs xs hl hp
section
variable {P : Program} {τ : AK} {κ : AZ}
end
section
variable {P : Program} {τ : AK} {κ : AZ}
end
end Go.Proofs.YtldikbpclaeajaaDoor
