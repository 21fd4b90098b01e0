/- Part of a proof that a law of the program holds for every input: how abstract states follow the program. No conditions. -/
import Derived.Test.YtldikbpclaeajaaGreatDoorF01
namespace Go.Proofs.YtldikbpclaeajaaGreatDoor
open Go
set_option linter.defProp false
def yO:=@decide_eq_true
def yV:=@decide_eq_false
def ZAU:=@decide_eq_false_iff_not
def ZAf:=@Classical.byContradiction
def ZBC:=@Bool.false_or
def ZBJ:=@Option.some.inj
def ZBi:=@List.cons.inj
def ZBl:=@List.getElem?_of_mem
def ZCV:=@Array.getElem?_eq_none
def ZCb:=@List.length_filter_le
def ZCn:=@List.pairwise_append
def ZCs:=@Go.callsIn_of_wp_marks
def ZDH:=@List.getElem?_replicate
def ZDO:=@Prod.mk.inj
def ZDT:=@List.drop_drop
def ZDm:=@List.append_of_mem
set_option linter.unusedSimpArgs false
set_option linter.unusedVariables false
section
variable {P : Program} {τ : Ad} {κ : Ar} {E : AH} {objs : AF}
def BS(i:Int):List Int:=(Lib.itoa i).map λb=>(b.toNat:Int)
def Mg{α:Type}(f:α→α→Int)(l:List α):Prop:=l.Pairwise λa b=>¬f b a<0
inductive Sp where|appInt|sort(T:Ty)(c:Nat)(pre:T.den→T.den→Prop)(f:T.den→T.den→Int)|self(R:JA)
def RT(P:Program)(g:FuncId)(T:Ty)(xs:List T.den)(args:List Value)(mv:Bool)(R:List T.den→Prop)(v:Nat→V):Prop:=∀(E:AH)(objs:AF)(l:Nat)(L:AU),AC P E objs→AA l objs=some (.row T xs)→E.loc l=some L→Calls P g (L.v::args).toArray E.w λe w2=>∃u E' ys,e=.returned u∧E'.w=w2∧R ys∧AC P E' (edit objs (some (l,.row T ys,mv)))∧BF E objs E' (edit objs (some (l,.row T ys,mv))) (moved (some (l,.row T ys,mv)))∧E.w.drawn≤w2.drawn∧Z P E' (v l) u
def LO(i:Int)(bs:List Int):Prop:=AB .i64 i∧bs.length+21≤140737488355328
def VZ{α:Type}(pre:α→α→Prop)(xs:List α):Prop:=xs.length<4611686018427387904∧∀a∈xs,∀b∈xs,pre a b
def Sp.Ok(P:Program)(g:FuncId):Sp→Prop|.appInt=>Bz P g∧∀(bs:List (Ty.int .u8).den)(i:Int),LO i bs→RT P g (.int .u8) bs [.int .i64 i,.int .i64 10] true (λys=>ys=bs++BS i) .osl|.sort T c pre f=>Bz P g∧∀xs:List T.den,VZ pre xs→RT P g T xs [.func (.func c) #[] #[]] false (λys=>xs.Perm ys∧Mg f ys) λ_=>.tup []|.self R=>R.Law∧Bz P g∧∀(E:AH)(objs:AF)(vs:List V)(ks:List Nat)(a:R.α)(b:R.β),AC P E objs→R.get vs objs=some (ks,a,b)→R.pre a b→∀cs:List Value,AS P E vs cs→Calls P g cs.toArray E.w λe w2=>∃u E' r b',e=.returned u∧E'.w=w2∧R.post a b r b'∧AC P E' (I3 R ks b' objs)∧BF E objs E' (I3 R ks b' objs) (HY ks R.mv)∧E.w.drawn≤w2.drawn∧Z P E' (AL R.rs r) u
def bP(R:JA)(ks:List Nat)(b:R.β)(s:St)(k:St→Prop):Prop:=match Ik s ⟨0,[],I3 R ks b s.objs,s.nx,[],[],VH R ks s.objs,HY ks R.mv⟩with|some s3=>k s3|none=>False
def Q1(s:St)(l:Nat)(o:Obj)(mv:Bool)(k:St→Prop):Prop:=match JH s.nx s.df (some (l,o,mv))with|true=>k (s.edit (some (l,o,mv)))|false=>False
def Of:Sp→List V→St→(V→St→Prop)→Prop
 |.appInt,args,s,k=>match args with
  |[.osl l,.d (.int .i64) i,.d (.int .i64) (.ofNat b)]=>match Nat.beq b 10 with
   |true=>match AA l s.objs with|some (.row (.int .u8) bs)=>LO i bs∧Q1 s l (.row (.int .u8) (bs++BS i)) true (k (.osl l))|_=>False
   |false=>False
  |_=>False
 |.sort T c pre f,args,s,k=>match args with
  |[.osl l,.fn (.func g) [] []]=>match Nat.beq g c with
   |true=>match AA l s.objs with|some (.row T' xs)=>if h:T'=T then VZ pre (h▸xs)∧∀ys:List T.den,(h▸xs:List T.den).Perm ys∧Mg f ys→Q1 s l (.row T ys) false (k (.tup []))else False|_=>False
   |false=>False
  |_=>False
 |.self R,args,s,k=>match R.get args s.objs with|some (ks,a,b)=>R.pre a b∧∀(r:BR R.rs)(b':R.β),R.post a b r b'→bP R ks b' s (k (AL R.rs r))|none=>False
inductive FX where|fi(f:FI)|sp(s:Sp)
def FX.Ok(P:Program)(g:FuncId):FX→Prop|.fi f=>f.Ok P g|.sp s=>s.Ok P g
theorem cR{cx:Cx}{s:St}{a:Act}{T:Ty}{xs:List T.den}{l:Nat}{mv:Bool}{k:V→St→Prop}{vf:Nat→V}{g:FuncId}{args:List Value}{Rr:List T.den→Prop}(hc:RT P g T xs args mv Rr vf)(ho:AA l s.objs=some (.row T xs))(r:A5 P cx s a E)(hk:∀ys,Rr ys→Q1 s l (.row T ys) mv (k (vf l))){c:Value}(rc:Z P E (.osl l) c):∀R:Ending→World→Prop,(∀u v s3 E',AR s s3→k v s3→A5 P cx s3 a E'→Z P E' v u→(∀l L,l∉s3.mv→E.loc l=some L→E'.loc l=some L)→R (.returned u) E'.w)→CallsIn (fz none) 0 P g (c::args).toArray E.w R:=by intro R hR;cases rc with|osl hL=>
 rename_i L;refine Pn (ZAh (hc E s.objs l L r.good ho hL) ?_);rintro e w2⟨u,E',ys,rfl,rfl,hy,g',st,hd,hu⟩;have h:=hk ys hy;unfold Q1 at h;split at h;·rename_i Aw;refine hR u (vf l) _ E' (AR.edit s _) h (A5.edit r Aw hd g' st) hu λl' L' hl' hL'=>st.ext.loc l' L' (λhm=>hl' ?_) hL';obtain⟨nt,tmps,objs,nx,df,wr,di,m⟩:=s;cases mv with|false=>simp[moved]at hm|true=>simp only[moved,zC]at hm;subst hm;simp[St.edit,St.subst]
 ·exact h.elim
theorem N9{k:IntKind}{n:Int}{c:Value}(r:Z P E (.d (.int k) n) c):c=.int k n:=by cases r with|d h=>exact(ZBi (show[c]=[Value.int k n]from h)).1
theorem uV{sp:Sp}{g:FuncId}(hok:sp.Ok P g){args:List V}{s:St}{k:V→St→Prop}(h:Of sp args s k){cx:Cx}{a:Act}(r:A5 P cx s a E){cs:List Value}(ra:AS P E args cs):Bz P g∧∀R:Ending→World→Prop,(∀u v s3 E',AR s s3→k v s3→A5 P cx s3 a E'→Z P E' v u→(∀l L,l∉s3.mv→E.loc l=some L→E'.loc l=some L)→R (.returned u) E'.w)→CallsIn (fz none) 0 P g cs.toArray E.w R:=by cases sp with
 |appInt=>
  obtain⟨hc,hok⟩:=hok;refine⟨hc,?_⟩;simp only[Of]at h;split at h
  ·rename_i l i b;split at h
   ·rename_i hb;have hb:=yW hb;subst hb;split at h;·rename_i bs ho;obtain⟨h1,h2⟩:=h;match cs,ra with|[c,d,e],ra=>have r1:=ra.head;have e2:=N9 ra.tail.head;have e3:=N9 ra.tail.tail.head;subst e2 e3;exact cR (hok bs i h1) ho r (λys hy=>by subst hy;exact h2) r1|[],ra=>exact absurd ra.1 (by simp)|[_],ra=>exact absurd ra.1 (by simp)|[_,_],ra=>exact absurd ra.1 (by simp)|_::_::_::_::_,ra=>exact absurd ra.1 (by simp)
    ·exact h.elim
   ·exact h.elim
  ·exact h.elim|sort T c pre f=>
  obtain⟨hc,hok⟩:=hok;refine⟨hc,?_⟩;simp only[Of]at h;split at h
  ·rename_i l g2;split at h
   ·rename_i hb;have hb:=yW hb;subst hb;split at h
    ·rename_i T' xs ho;split at h;·rename_i hT;subst hT;obtain⟨h1,h2⟩:=h;match cs,ra with
      |[c,d],ra=>
       have r1:=ra.head;have e2:d=.func (.func g2) #[] #[]:=by
        obtain⟨p,q,rfl,k1,k2⟩:=Le ra.tail.head;have :p=#[]:=by have :=k1.1;simpa using this
        subst this;have :q=#[]:=by have :=k2.1;simpa using this
        subst this;rfl
       subst e2;exact cR (hok xs h1) ho r (λys hy=>h2 ys hy) r1|[],ra=>exact absurd ra.1 (by simp)|[_],ra=>exact absurd ra.1 (by simp)|_::_::_::_,ra=>exact absurd ra.1 (by simp)
     ·exact h.elim
    ·exact h.elim
   ·exact h.elim
  ·exact h.elim|self R=>
  obtain⟨nW,hc,hok⟩:=hok;refine⟨hc,?_⟩;simp only[Of]at h;split at h
  ·rename_i ks a' b hg;obtain⟨h1,h2⟩:=h;intro R0 hR;refine Pn (ZAh (hok E s.objs args ks a' b r.good hg h1 cs ra) ?_);rintro e w2⟨u,E',r',b',rfl,rfl,hp,g',st,hd,hu⟩;have h3:=h2 r' b' hp;unfold bP at h3;split at h3
   ·rename_i s3 hb;refine hR u _ s3 E' (Rk hb ⟨zB _,λl hl=>tO hl⟩) h3 (Rl r hb ⟨g',λl hl=>?_,st,hd⟩) hu λl L hl hL=>st.ext.loc l L (λhm=>hl (WS hb l hm)) hL;have hn:AA l (I3 R ks b' s.objs)=none:=by cases e:AA l (I3 R ks b' s.objs)with|none=>rfl|some o=>obtain⟨q,hq⟩:=tP nW hg e;obtain⟨L,hL,_⟩:=r.good.at_ l q hq;rw[r.fresh l hl]at hL;cases hL
    rw[st.dom l hn];exact r.fresh l hl
   ·exact h3.elim
  ·exact h.elim
end
section
variable {P : Program} {τ : Ad} {κ : Ar} {φ : Nat → Option FX}
inductive Gh where|own(t:Nat)(T:Ty)|ownc(l j:Nat)(T:Ty)|frz(t:Nat)|frzc(l j:Nat)|frzl(l:Nat)|zero(t:Nat)|part(t:Nat)|cases(t j n:Nat)|data(t:Nat)(T:Ty)|opn(l:Nat)|cls(l:Nat)|dne(l:Nat)|ren(n k:Nat)|nxt(n:Nat)
inductive An where|mk(gs:List (Nat×List Gh))(lps:List (Nat×LA))(jns:List (Nat×LA))(un:List (Nat×Nat))(cs:List (Nat×An))
def An.none:An:=.mk [] [] [] [] []
def Hg{α:Type}(n:Nat):List (Nat×α)→Option α|[]=>.none|(m,x)::r=>match Nat.beq m n with|true=>some x|false=>Hg n r
def An.gs:An→Nat→List Gh|.mk g _ _ _ _,n=>match Hg n g with|some l=>l|.none=>[]
def An.lp:An→Nat→Option LA|.mk _ l _ _ _,n=>Hg n l
def An.jn:An→Nat→Option LA|.mk _ _ l _ _,n=>Hg n l
def An.un:An→Nat→Option Nat|.mk _ _ _ l _,n=>Hg n l
def An.call:An→Nat→An|.mk _ _ _ _ l,n=>match Hg n l with|some a=>a|.none=>An.none
def rJ(l:Nat)(Y:List (Nat×An)):An:=match Hg l Y with|some a=>a|.none=>An.none
abbrev EG:=An→List (Nat×An)→Bool→Code→St→(Exit→St→Prop)→Prop
def CM(P:Program)(run:EG):Prop:=∀(A:An)(Y:List (Nat×An))(r:Option Nat)(c:Code)(s:St)(k:Exit→St→Prop)(cx:Cx)(R:DV),run A Y r.isSome c s k→∀a w,Av P cx s a w→(∀e s' a' w',AR s s'→k e s'→Av P cx s' a' w'→R e a' w')→c.wpIn (fz r) 0 P R a w
def MQ:Exit→Bool|.normal=>true|.ret=>true|_=>false
def PG(τ:Ad)(φ:Nat→Option FX)(run:EG)(A:An)(Y:List (Nat×An))(f:V)(args:List V)(s:St)(k:V→St→Prop):Prop:=match f with
 |.fn (.func g) fst caps=>match φ g with|.none=>False|some (.sp sp)=>Of sp (fst++(args++caps)) s k|some (.fi ⟨nt,res,code⟩)=>match fst++(args++caps)with|vs=>match Nat.ble vs.length nt with|false=>False|true=>match s with|⟨nt0,tmps,objs,nx,df,wr,di,mv⟩=>run A Y false code ⟨nt,H4 0 vs,objs,nx,[],[],[],[]⟩ λe s1=>match MQ e with
  |true=>match KL τ res s1 with|.none=>False|some (v,s2)=>match Ik ⟨nt0,tmps,objs,nx,df,wr,di,mv⟩ s2 with|.none=>False|some s3=>k v s3
  |false=>False
 |_=>False
theorem WY(hτ:A6 P τ)(hφ:∀g fi,φ g=some fi→fi.Ok P g){run:EG}(hrun:CM P run){A:An}{Y:List (Nat×An)}{f:V}{args:List V}{s:St}{k:V→St→Prop}(h:PG τ φ run A Y f args s k){cx:Cx}{a:Act}{E:AH}(r:A5 P cx s a E){c:Value}{cs:List Value}(rf:Z P E f c)(ra:AS P E args cs):∃g p q,c=.func (.func g) p q∧Bz P g∧∀R:Ending→World→Prop,(∀u v s3 E',AR s s3→k v s3→A5 P cx s3 a E'→Z P E' v u→(∀l L,l∉s3.mv→E.loc l=some L→E'.loc l=some L)→R (.returned u) E'.w)→CallsIn (fz none) 0 P g (p++cs.toArray++q) E.w R:=by
 unfold PG at h;split at h
 ·rename_i g fst caps;split at h;·exact h.elim
  ·rename_i sp hg;obtain⟨p,q,rfl,rp,rq⟩:=Le rf;have rs:AS P E (fst++(args++caps)) (p++cs.toArray++q).toList:=by have :=rp.append (ra.append rq);simpa using this
   obtain⟨h1,h2⟩:=uV (hφ g _ hg) h r rs;exact⟨g,p,q,rfl,h1,λR hR=>by have :=h2 R hR;rwa[ZDY]at this⟩
  ·rename_i nt res code hg;have hok:FI.Ok P g ⟨nt,res,code⟩:=hφ g _ hg;obtain⟨fn,h1,h2,h3,h4,h5⟩:=id hok;obtain⟨p,q,rfl,rp,rq⟩:=Le rf;refine⟨g,p,q,rfl,hok.call,λR hR=>?_⟩;simp only at h;split at h;·exact h.elim
   ·rename_i hlen;obtain⟨nt0,tmps,objs,nx,df,wr,di,mv⟩:=s;simp only at h h3 h4;have rs:AS P E (fst++(args++caps)) (p++cs.toArray++q).toList:=by have :=rp.append (ra.append rq);simpa using this
    have Hs:=Sk (nt:=nt) r.good r.fresh rs (zW hlen);refine ZCs h1 h2 trivial ?_;rw[h3];refine hrun A Y none code _ _ ⟨E,objs⟩ _ h _ E.w Hs λe s1 a1 w1 hi hk hr1=>?_;have fin:MQ e=true→LeavesInM (fz none) 0 P fn a1.tmps R a1.defers .returning w1:=λhe=>by
     rw[he]at hk;simp only at hk;split at hk;·exact hk.elim
     ·rename_i v s2 hf;split at hk;·exact hk.elim
      ·rename_i s3 hb;refine UX hτ (fi:=⟨nt,res,code⟩) h4 hf hr1 λu E' haft hu=>?_;exact hR u v s3 E' (Rk hb (kW (s0:=⟨nt,H4 0 (fst++(args++caps)),objs,nx,[],[],[],[]⟩) hf hi)) hk (Rl r hb haft) hu λl L hl hL=>haft.step.ext.loc l L (λhm=>hl (WS hb l hm)) hL
    cases e with|normal=>exact fin rfl|ret=>exact fin rfl|_=>exact hk.elim
 ·exact h.elim
def Ox(nt:Nat):List Nat→List V→Option (List (Nat×V))
 |[],vs=>match vs with|[]=>some []|_=>.none
 |p::ps,vs=>match vs with
  |v::r=>match Nat.blt p nt with
   |true=>match Ox nt ps r with|some l=>some (l++[(p,v)])|.none=>.none
   |false=>.none
  |[]=>.none
def bT:Exit→Option RJ|.normal=>some .no|.ret=>some .ret|.exit i=>some (.exit i)|_=>.none
def RJ.isNo:RJ→Bool|.no=>true|_=>false
def RJ.st:RJ→LoopState|.no=>.ready|_=>.done
def VI(l:Nat)(di1 di3:List Nat)(j:RJ)(nt:Nat)(tmps:List (Nat×V))(ps:List Nat)(a b:Code)(nt4:Nat)(HZ:List (Nat×V))(ps4:List Nat)(a4 b4:Code):Obj×List Nat:=match Be l di1 with|true=>(.lrec nt4 HZ ps4 a4 b4 j.st j,l::(di3++di1))|false=>match Be l di3 with|true=>(.lrec nt4 HZ ps4 a4 b4 j.st j,l::(di3++di1))|false=>match j with|.no=>(.lrec nt tmps ps a b .ready .no,di3++di1)|j=>(.lrec nt4 HZ ps4 a4 b4 j.st j,l::(di3++di1))
def Vs(run:EG)(Y:List (Nat×An))(l:Nat)(args:List V)(s:St)(k:V→St→Prop):Prop:=match s with|⟨nt0,Vn,objs,nx,df,wr,di,mv⟩=>match AA l objs with
 |some (.lrec nt tmps ps assign body .ready .no)=>match Ox nt ps args with|.none=>False|some pa=>match rJ l Y with|A=>run A Y true assign ⟨nt,pa++tmps,objs,nx,[],[],[],[]⟩ λe s1=>match e with
  |.normal=>match s1 with|⟨nt1,RC,Qd,nx1,df1,wr1,di1,mv1⟩=>match Be l mv1 with|true=>False|false=>match AA l Qd with
   |some (.lrec nt2 Jv ps2 a2 b2 .ready j2)=>run A Y true body ⟨nt1,RC,(l,.lrec nt2 Jv ps2 a2 b2 .busy j2)::Qd,nx1,df1,[],[],mv1⟩ λe s2=>match bT e with|.none=>False|some j=>match s2 with|⟨_,_,OP,nx3,_,_,di3,mv3⟩=>match Be l mv3 with|true=>False|false=>match AA l OP with
    |some (.lrec nt4 HZ ps4 a4 b4 _ _)=>match VI l di1 di3 j nt tmps ps assign body nt4 HZ ps4 a4 b4 with|(o4,di4)=>match Ik ⟨nt0,Vn,objs,nx,df,wr,di,mv⟩ ⟨0,[],(l,o4)::OP,nx3,[],[],di4,mv3⟩with|.none=>False|some s3=>k (.d .bool j.isNo) s3
    |_=>False
   |_=>False
  |_=>False
 |_=>False
theorem AC.lrec{E:AH}{objs:AF}(g:AC P E objs){l:Nat}{L:AU}{nt:Nat}{tmps:List (Nat×V)}{ps:List Nat}{a b:Code}{st st':LoopState}{j j':RJ}(ho:AA l objs=some (.lrec nt tmps ps a b st j))(hL:E.loc l=some L):∃r:Loop,E.w.heap[L.b]?=some (.loop r)∧r.tmps.size=nt∧(∀t,Z P E (AW t tmps) (r.tmps.getD t undef))∧r.params.toList=ps∧r.assign=a∧r.body=b∧r.state=st∧r.pending=j.code∧∃E',E'.w=E.w.putObj L.b (.loop {r with state:=st',pending:=j'.code})∧E'.S=E.S∧E'.loc=E.loc∧AC P E' ((l,.lrec nt tmps ps a b st' j')::objs)∧BF E objs E' ((l,.lrec nt tmps ps a b st' j')::objs) []:=by
 obtain⟨K,hK,hat⟩:=g.at_ l _ ho;rw[hL]at hK;cases hK;obtain⟨r,h1,h2,h3,h4,h5,h6,h7,h8⟩:=hat;refine⟨r,h1,h2,h3,h4,h5,h6,h7,h8,?_⟩;have AY:L.b<E.w.heap.size:=(Array.getElem?_eq_some_iff.1 h1).1;have hgr:E.w.grownBy (E.w.putObj L.b (.loop {r with state:=st',pending:=j'.code})) (some L.b):=ZDL _ _ _;have e:E.setL (E.w.putObj L.b (.loop {r with state:=st',pending:=j'.code})) l L=⟨E.w.putObj L.b (.loop {r with state:=st',pending:=j'.code}),E.S,E.loc⟩:=by
  simp only[AH.setL];congr 1;funext j;split;·rename_i e;subst e;exact hL.symm
  ·rfl
 have hx:Bv E (E.setL (E.w.putObj L.b (.loop {r with state:=st',pending:=j'.code})) l L) []:=K4 g ho hL hgr (λb e=>by cases e;exact⟨trivial,rfl⟩) λ_=>rfl;have hp:=AC.put g (mv:=false) (o':=.lrec nt tmps ps a b st' j') (L':=L) ho hL hgr (λb e=>by cases e;exact⟨trivial,rfl⟩) (λ_=>rfl) ⟨{r with state:=st',pending:=j'.code},World.putObj_heap_same AY,h2,λt=>(h3 t).mono hx,h4,h5,h6,rfl,rfl⟩ λ_=>.inl ⟨trivial,rfl⟩;rw[e]at hp;exact⟨⟨E.w.putObj L.b (.loop {r with state:=st',pending:=j'.code}),E.S,E.loc⟩,rfl,rfl,rfl,hp.1,by simpa[moved,edit]using hp.2⟩
theorem eZ{nt:Nat}{E:AH}{tmps:List (Nat×V)}:∀{ps:List Nat}{vs:List V}{pa:List (Nat×V)}{cs:List Value}{ta:Array Value},Ox nt ps vs=some pa→AS P E vs cs→ta.size=nt→(∀t,Z P E (AW t tmps) (ta.getD t undef))→ps.length=cs.length∧((ps.zip cs).foldl (λt(p,v)=>t.setIfInBounds p v) ta).size=nt∧∀t,Z P E (AW t (pa++tmps)) (((ps.zip cs).foldl (λt(p,v)=>t.setIfInBounds p v) ta).getD t undef)
 |[],vs,pa,cs,ta,h,r,hs,ht=>by
  simp only[Ox]at h;split at h;·cases h;have :cs=[]:=zR (by simpa using r.1);subst this;exact⟨rfl,hs,ht⟩
  ·cases h|p::ps,vs,pa,cs,ta,h,r,hs,ht=>by
  simp only[Ox]at h;split at h
  ·rename_i v rest;split at h
   ·rename_i hp;split at h;·rename_i l hl;cases h;have hp:p<nt:=zW hp;match cs,r with
     |[],r=>exact absurd r.1 (by simp)|c::cs,r=>
      have ih:=eZ (tmps:=(p,v)::tmps) (ta:=ta.setIfInBounds p c) hl r.tail (by simpa using hs) λt=>by
       rw[CC];simp only[zH,ZBZ];split;·rename_i e;subst e;simp[show p<ta.size from by omega];exact r.head
       ·have :=ht t;rwa[zH]at this
      refine⟨by simp[ih.1],ih.2.1,λt=>?_⟩;have :=ih.2.2 t;simpa using this
    ·cases h
   ·cases h
  ·cases h
theorem uB{j:RJ}:j.code.isNone=j.isNo:=by cases j<;>rfl
theorem wI{run:EG}(hrun:CM P run){Y:List (Nat×An)}{l:Nat}{args:List V}{s:St}{k:V→St→Prop}(h:Vs run Y l args s k){cx:Cx}{a:Act}{E:AH}(r:A5 P cx s a E){c:Value}{cs:Array Value}(rl:Z P E (.yl l) c)(ra:AS P E args cs.toList)(ro:Option Nat):∃(b fn:Nat)(tmps:Array Value)(assign body:Code),c=.func (.yield b) #[] #[]∧(Instr.yield b cs).run P E.w=.ok (.round b fn tmps assign body) E.w∧∀R:Ending→World→Prop,(∀u v s3 E',AR s s3→k v s3→A5 P cx s3 a E'→Z P E' v u→R (.returned u) E'.w)→RoundIn (fz ro) 0 P b fn tmps assign body E.w R:=by
 obtain⟨nt0,Vn,objs,nx,df,wr,di,mv⟩:=s;unfold Vs at h;simp only at h;split at h
 ·rename_i nt tmps ps assign body ho;split at h;·exact h.elim
  ·rename_i pa oN;cases rl with|yl hL=>
   rename_i L;obtain⟨K,hK,hat⟩:=r.good.at_ l _ ho;rw[hL]at hK;cases hK;obtain⟨rc,h1,h2,h3,h4,h5,h6,h7,h8⟩:=hat;obtain⟨z1,z2,z3⟩:=eZ oN ra h2 h3;have Ae:cs.size=rc.params.size:=by
    have :rc.params.toList.length=cs.toList.length:=by rw[h4];exact z1
    simpa using this.symm
   refine⟨L.b,rc.fn,_,rc.assign,rc.body,rfl,run_yield h1 Ae,λR hR=>?_⟩;refine roundIn_of_wpIn trivial ?_;rw[h5];have pF:Av P ⟨E,objs⟩ ⟨nt,pa++tmps,objs,nx,[],[],[],[]⟩ {tmps:=(rc.params.zip cs).foldl (λtmps(t,a)=>tmps.setIfInBounds t a) rc.tmps,defers:=[]} E.w:=by
    have e:(rc.params.zip cs).foldl (λ(tmps:Array Value)(x:Nat×Value)=>tmps.setIfInBounds x.1 x.2) rc.tmps=(ps.zip cs.toList).foldl (λ(t:Array Value)(x:Nat×Value)=>t.setIfInBounds x.1 x.2) rc.tmps:=by rw[←ZDh,Array.toList_zip,h4]
    refine⟨E,rfl,r.good,r.fresh,.refl _ _ _,zB _,?_,rfl,λt=>?_⟩;·show((rc.params.zip cs).foldl (λ(tmps:Array Value)(x:Nat×Value)=>tmps.setIfInBounds x.1 x.2) rc.tmps).size=nt;rw[e];exact z2
    ·show Z P E (AW t (pa++tmps)) (((rc.params.zip cs).foldl (λ(tmps:Array Value)(x:Nat×Value)=>tmps.setIfInBounds x.1 x.2) rc.tmps).getD t undef);rw[e];exact z3 t
   refine hrun _ Y (some L.b) assign _ _ ⟨E,objs⟩ _ h _ E.w pF λe s1 a1 w1 hi1 hk1 hr1=>?_;cases e<;>try(exact hk1.elim)
   obtain⟨nt1,RC,Qd,nx1,df1,wr1,di1,mv1⟩:=s1;simp only at hk1;split at hk1;·exact hk1.elim
   ·rename_i Dd;split at hk1
    ·rename_i nt2 Jv ps2 a2 b2 j2 ho1;obtain⟨E1,rfl,r1⟩:=hr1;have nm:∀{M:List Nat},Be l M=false→l∉M:=λh hm=>by rw[Eg.2 hm]at h;cases h
     have lY:E1.loc l=some L:=r1.step.ext.loc l L (nm Dd) hL;obtain⟨q,q1,q2,q3,q4,q5,q6,q7,q8,E2,e1,e2,e3,g2,s2⟩:=AC.lrec (st':=.busy) (j':=j2) r1.good ho1 lY;have HT:E1.w.putObj L.b (.loop {q with state:=.busy})=E2.w:=by rw[e1];congr 2;rw[←q8]
     refine⟨E2.w,by rw[←HT];exact run_beginRound q1 q7,?_⟩;rw[h6];have oD:Av P ⟨E,objs⟩ ⟨nt1,RC,(l,.lrec nt2 Jv ps2 a2 b2 .busy j2)::Qd,nx1,df1,[],[],mv1⟩ a1 E2.w:=⟨E2,rfl,g2,λj hj=>by rw[e3];exact r1.fresh j hj,r1.step.trans s2,by rw[e1];exact r1.drawn,r1.size,r1.df.ext s2.ext,λt=>(r1.rep t).mono s2.ext⟩;refine hrun _ Y (some L.b) body _ _ ⟨E,objs⟩ _ hk1 _ _ oD λe s4 a3 w3 hi2 hk2 N2=>?_;obtain⟨ntz,yM,OP,nx3,dfz,wrz,di3,mv3⟩:=s4;have fin:∀j:RJ,bT e=some j→∃v w',(Instr.endRound L.b j.code).run P w3=.ok v w'∧R (.returned v) w':=by
      intro j hj;rw[hj]at hk2;simp only at hk2;split at hk2;·exact hk2.elim
      ·rename_i QA;split at hk2
       ·rename_i nt4 HZ ps4 a4 b4 _ _ Yz;generalize Hr:VI l di1 di3 j nt tmps ps assign body nt4 HZ ps4 a4 b4=od at hk2;obtain⟨o4,di4⟩:=od;simp only at hk2;split at hk2;·exact hk2.elim
        ·rename_i s3 hb;obtain⟨E3,rfl,r3⟩:=N2;have lZ:E3.loc l=some L:=r3.step.ext.loc l L (nm QA) hL;obtain⟨p,p1,p2,p3,p4,p5,p6,p7,p8,E4,f1,f2,f3,g4,st4⟩:=AC.lrec (st':=j.st) (j':=j) r3.good Yz lZ;have pT:E3.w.putObj L.b (.loop {p with state:=if j.code.isNone then .ready else .done,pending:=j.code})=E4.w:=by rw[f1];congr 2;cases j<;>rfl
         refine⟨.bool j.isNo,E4.w,by rw[←pT,←uB];exact run_endRound j.code p1,?_⟩;have CS:nx≤nx3:=by have h1:nx≤nx1:=hi1.nx;have h2:nx1≤nx3:=hi2.nx;exact zV h1 h2
         have Y3:∀l',l'≠l→l'∉di3→l'∉di1→AA l' OP=AA l' objs:=λl' Ab h3 h1=>by have k1:=hi2.obj l' h3;have k2:=hi1.obj l' h1;simp only at k1 k2;rw[k1,Ay,yP (ZAM Ab),k2]
         have hcase:o4=.lrec nt4 HZ ps4 a4 b4 j.st j∧l∈di4∧(∀l',l'∉di4→l'≠l∧l'∉di3∧l'∉di1)∨o4=.lrec nt4 HZ ps4 a4 b4 j.st j∧o4=.lrec nt tmps ps assign body .ready .no∧∀l',l'∉di4→l'∉di3∧l'∉di1:=by
          have hd1:o4=.lrec nt4 HZ ps4 a4 b4 j.st j→di4=l::(di3++di1)→o4=.lrec nt4 HZ ps4 a4 b4 j.st j∧l∈di4∧∀l',l'∉di4→l'≠l∧l'∉di3∧l'∉di1:=λe1 e2=>by subst e2;refine⟨e1,by simp,λl' hl'=>?_⟩;simp only[zO,zM,ZAX]at hl';exact hl'
          unfold VI at Hr;split at Hr;·cases Hr;exact .inl (hd1 rfl rfl)
          ·rename_i hn1;split at Hr;·cases Hr;exact .inl (hd1 rfl rfl)
           ·rename_i oH;split at Hr;·cases Hr;have k1:=hi2.obj l (nm oH);have k2:=hi1.obj l (nm hn1);simp only at k1 k2;rw[Ay,yS rfl,Yz]at k1;rw[ho,ho1]at k2;cases k1;cases k2;exact .inr ⟨rfl,rfl,λl' hl'=>by simp only[zM,ZAX]at hl';exact hl'⟩
            ·cases Hr;exact .inl (hd1 rfl rfl)
         have Y0:o4=.lrec nt4 HZ ps4 a4 b4 j.st j:=hcase.elim (λh=>h.1) λh=>h.1;refine hR _ _ s3 E4 (Rk hb ⟨CS,λl' hl'=>?_⟩) hk2 (Rl r hb ⟨by rw[Y0];exact g4,λj hj=>by rw[f3];exact r3.fresh j hj,by rw[Y0];exact r3.step.trans st4,by rw[f1];exact r3.drawn⟩) (.mk_bool _);show AA l' ((l,o4)::OP)=AA l' objs;rw[Ay];rcases hcase with⟨_,_,h⟩|⟨_,h1,h⟩;·have :=h l' hl';rw[yP (ZAM this.1)];exact Y3 l' this.1 this.2.1 this.2.2
         ·have :=h l' hl';by_cases e:l=l';·subst e;rw[yS rfl,h1,ho]
          ·rw[yP e];exact Y3 l' (ZAM e) this.1 this.2
       ·exact hk2.elim
     cases e with|normal=>exact fin .no rfl|ret=>exact fin .ret rfl|exit i=>exact fin (.exit i) rfl|_=>exact hk2.elim
    ·exact hk1.elim
 ·exact h.elim
end
section
variable {P : Program} {τ : Ad} {κ : Ar} {φ : Nat → Option FX}
theorem BF.swap{E0 E:AH}{imp objs CJ:AF}{M:List Nat}(h:BF E0 imp E objs M)(tr:∀l o,AA l CJ=some o→∃o1 L,AA l objs=some o1∧E.loc l=some L∧E.loc l=some L∧(∀L,o.has L→o1.has L)∧(Aj P E L o1→Aj P E L o))(hn:∀l,AA l CJ=none→AA l objs=none):BF E0 imp E CJ M:=⟨h.ext,h.os,h.tape,h.output,h.size,h.frame,λb hb=>h.own b (Uu (P:=P) tr hb),h.st,λl hl=>h.keys l (hn l hl),λl hl=>h.dom l (hn l hl)⟩
def Ge(v:V):Nat→List V→List V|_,[]=>[]|0,_::r=>v::r|n+1,u::r=>u::Ge v n r
theorem VX{v:V}:∀{n:Nat}{l:List V},(Ge v n l).length=l.length|_,[]=>by cases‹Nat›<;>rfl|0,_::_=>rfl|n+1,_::r=>by simp only[Ge,yX,VX]
theorem cB{v:V}:∀{n:Nat}{l:List V}(j:Nat),j<l.length→(Ge v n l).getD j .any=if j=n then v else l.getD j .any
 |n,[],j,h=>by simp at h|0,u::r,0,_=>by simp[Ge]|0,u::r,j+1,_=>by simp[Ge]|n+1,u::r,0,_=>by simp[Ge]|n+1,u::r,j+1,h=>by
  simp only[Ge,ZCF];rw[cB j (by simpa using h)];by_cases e:j=n;·simp[e]
  ·rw[yP e,yP (by omega)]
def K7(n k:Nat)(v:V):V:=match v with
 |.osl j=>match Nat.beq j n with|true=>.osl k|false=>v
 |v=>Ca n v
def redo(l:Nat)(o:Obj)(s:St):St:=match s with|⟨nt,tmps,objs,nx,df,wr,di,mv⟩=>⟨nt,tmps,(l,o)::objs,nx,df,wr,l::di,mv⟩
def ghost1:Gh→St→Option St
 |.opn _,_=>none|.nxt n,s=>match s with|⟨nt,tmps,objs,nx,df,wr,di,mv⟩=>match Nat.ble nx n with|true=>some ⟨nt,tmps,objs,n,df,wr,di,mv⟩|false=>none
 |.cls l,s=>match AA l s.objs with
  |some (.vrow T xs [v] m)=>match Ej (.sl T) [v]with|some y=>some (redo l (.vrow T (xs++[y]) [] m) s)|none=>none
  |_=>none
 |.dne l,s=>match AA l s.objs with|some (.vrow T xs [] m)=>some (redo l (.row (.sl T) (xs++List.replicate m [])) s)|_=>none
 |.ren n k,s=>match AA n s.objs with
  |some (.row T ys)=>match AA k s.objs with
   |some .dead=>match Nat.beq n k with|true=>none|false=>match JH s.nx s.df (some (k,.row T ys,true))with|true=>some ((redo n .dead (s.edit (some (k,.row T ys,true)))).subst n (K7 n k))|false=>none
   |_=>none
  |_=>none
 |.own t T,s=>match s with|⟨nt,tmps,objs,nx,df,wr,di,mv⟩=>match AW t tmps with
  |.nils=>match Nat.blt 0 T.size with|true=>some ⟨nt,(t,.osl nx)::tmps,(nx,.row T [])::objs,nx+1,df,t::wr,nx::di,mv⟩|false=>none
  |.osl _=>some ⟨nt,tmps,objs,nx,df,wr,di,mv⟩|.osp ..=>some ⟨nt,tmps,objs,nx,df,wr,di,mv⟩|_=>none
 |.ownc l j T,s=>match s with|⟨nt,tmps,objs,nx,df,wr,di,mv⟩=>match AA l objs with
  |some (.box cs)=>match cs.getD j .any with
   |.nils=>match Nat.blt 0 T.size with|true=>some ⟨nt,tmps,(l,.box (Ge (.osl nx) j cs))::(nx,.row T [])::objs,nx+1,df,wr,l::nx::di,mv⟩|false=>none
   |.osl _=>some ⟨nt,tmps,objs,nx,df,wr,di,mv⟩|_=>none
  |_=>none
 |.frz t,s=>some (frzT t 5 s)|.frzl l,s=>some (s.freeze l)|.zero t,s=>match AW t s.tmps with
  |.osp l lo n=>match Nat.beq lo 0&&Nat.beq n 0 with
   |true=>match AA l s.objs with
    |some (.row T xs)=>match JH s.nx s.df (some (l,.row T [],true))with
     |true=>match s.edit (some (l,.row T [],true))with|⟨nt,tmps,objs,nx,df,wr,di,mv⟩=>some ⟨nt,(t,.osl l)::tmps,objs,nx,df,t::wr,di,mv⟩
     |false=>none
    |_=>none
   |false=>none
  |.osl _=>some s|.nils=>some s|_=>none
 |.part _,_=>none|.cases ..,_=>none|.frzc l j,s=>match AA l s.objs with
  |some (.box cs)=>match(cs.getD j .any).fk with|some k=>some (s.freeze k)|none=>some s
  |_=>none
 |.data t T,s=>match s with|⟨nt,tmps,objs,nx,df,wr,di,mv⟩=>match getD T (AW t tmps)with|some x=>some ⟨nt,(t,Gj T x)::tmps,objs,nx,df,t::wr,di,mv⟩|none=>none
theorem Up{E:AH}{objs:AF}(g:AC P E objs){nx:Nat}(hf:E.loc nx=none){T:Ty}(hT:0<T.size){c:Value}(r:Z P E .nils c):∃E',E'.w=E.w∧(∀l,l≠nx→E'.loc l=E.loc l)∧AC P E' ((nx,.row T [])::objs)∧BF E objs E' ((nx,.row T [])::objs) []∧Z P E' (.osl nx) c:=by cases r with|nils a=>refine⟨E.setL E.w nx ⟨0,a,0,0,T.size⟩,rfl,λl h=>BZ _ _ _ h,?_⟩;have hp:=g.push (w:=E.w) (l:=nx) (L:=⟨0,a,0,0,T.size⟩) (o:=.row T []) hf ⟨rfl,rfl,rfl,zB _,λ_ _ _=>rfl⟩ ⟨rfl,hT,rfl,(0:Nat),[],rfl,.inl ⟨rfl,rfl⟩⟩ λh=>absurd rfl h;exact⟨hp.1,hp.2,.osl (Bi _ _ _ _)⟩
theorem QX{E:AH}{tmps:List (Nat×V)}{a:Act}{t0:Nat}{v:V}(h:∀t,Z P E (AW t tmps) (a.tmps.getD t undef))(hv:Z P E v (a.tmps.getD t0 undef))(t:Nat):Z P E (AW t ((t0,v)::tmps)) (a.tmps.getD t undef):=by
 rw[CC];split;·rename_i e;subst e;exact hv
 ·exact h t
theorem wJ{E:AH}{objs:AF}(g:AC P E objs){l:Nat}{T:Ty}{xs:List T.den}(ho:AA l objs=some (.row T xs)){c:Value}(r:Z P E (.osp l 0 0) c):∃E',E'.w=E.w∧AC P E' (edit objs (some (l,.row T [],true)))∧BF E objs E' (edit objs (some (l,.row T [],true))) [l]∧Z P E' (.osl l) c:=by
 obtain⟨L,hL,a,rfl,ha⟩:=Hw r;obtain⟨K,hK,hat⟩:=g.at_ l _ ho;rw[hL]at hK;cases hK;have hp:=AC.put g (mv:=true) (o':=.row T []) (L':=⟨L.b,a,0,L.cap,L.esz⟩) (w:=E.w) (row:=none) ho hL ⟨rfl,rfl,rfl,zB _,λ_ _ _=>rfl⟩ (λb hb=>by cases hb) (λh=>by cases h) (by
  obtain⟨h1,h2,h3,e,cs,h4,h5⟩:=hat;refine⟨h1,h2,rfl,e,[],rfl,?_⟩;rcases h5 with⟨h6,h7⟩|⟨cur,h6,h7,h8,h9,BX,Db,DK⟩;·exact .inl ⟨h6,rfl⟩
  ·refine .inr ⟨cur,?_,h7,ZAl _,h9,BX,Db,by simp⟩;have :=ha (by omega);simp only[this,h6,ZCP];rfl) λhh=>.inl ⟨hh,rfl⟩;refine⟨E.setL E.w l ⟨L.b,a,0,L.cap,L.esz⟩,rfl,hp.1,hp.2,?_⟩;have :Value.slice a 0 (L.cap-0)=(⟨L.b,a,0,L.cap,L.esz⟩:AU).v:=rfl;rw[this];exact .osl (Bi _ _ _ _)
theorem VJ{cx:Cx}{s:St}{a:Act}{E:AH}{l:Nat}{o o':Obj}(ho:AA l s.objs=some o)(hh:∀L,o'.has L→o.has L)(ha:∀L,Aj P E L o→Aj P E L o')(r:A5 P cx s a E):A5 P cx (redo l o' s) a E:=by
 obtain⟨nt,tmps,objs,nx,df,wr,di,mv⟩:=s;have ho:AA l objs=some o:=ho;have tr:∀l' o1,AA l' ((l,o')::objs)=some o1→∃o2 L,AA l' objs=some o2∧E.loc l'=some L∧E.loc l'=some L∧(∀L,o1.has L→o2.has L)∧(Aj P E L o2→Aj P E L o1):=λl' o1 h1=>by
  rw[Ay]at h1;split at h1;·rename_i e;subst e;cases h1;obtain⟨L,hL,_⟩:=r.good.at_ l o ho;exact⟨o,L,ho,hL,hL,hh,ha L⟩
  ·obtain⟨L,hL,_⟩:=r.good.at_ l' o1 h1;exact⟨o1,L,h1,hL,hL,λ_ h=>h,λh=>h⟩
 exact⟨r.good.sub rfl rfl tr,r.fresh,r.step.swap tr λl' hl'=>(Gq hl').2,r.drawn,r.size,r.df,r.rep⟩
theorem AR.redo{l:Nat}{o:Obj}{s:St}:AR s (redo l o s):=by obtain⟨nt,tmps,objs,nx,df,wr,di,mv⟩:=s;exact⟨rfl,zB _,λ_ h=>h,λ_ h=>zD _ h,λ_ h=>h,λ_ _=>rfl,λk hk=>by have hk:k∉l::di:=hk;simp only[zO,ZAX]at hk;show AA k ((l,o)::objs)=_;rw[Ay,yP (ZAM hk.1)],λ_=>rfl⟩
theorem iA{E:AH}{L:AU}{T:Ty}{xs:List (List T.den)}{v:V}{m:Nat}{y:List T.den}(hy:Ej (.sl T) [v]=some y)(h:Aj P E L (.vrow T xs [v] m)):Aj P E L (.vrow T (xs++[y]) [] m):=by
 obtain⟨h1,h2,h3,e,cs,h4,h5⟩:=h;have hlen:L.len=(xs++[y]).length+([]:List V).length+m:=by simp only[yU,yX,zF]at h3⊢;omega
 rcases h5 with h5|⟨cur,h5,h6,h7,h8,h9,BX,Db,DK,FN⟩;·have :=h5.2;simp at h3;omega
 ·have AY:xs.length<cur.size:=by simp at h3;omega
  have hc:BE E.w E.S (.sl T) y [cur[xs.length]]:=GY hy ⟨rfl,λj hj=>by
   obtain rfl:j=0:=by simp at hj;exact hj
   have :=DK 0 (by simp);rw[zH,ZA6,ZAN AY]at this;exact this⟩;refine⟨h1,ZAl _,hlen,e,cs++[cur[xs.length]],h4.append ⟨[cur[xs.length]],[],rfl,hc,rfl⟩,.inr ⟨cur,h5,h6,h7,h8,h9,BX,?_,λj hj=>by simp at hj,λi hi=>FN i (by simpa using hi)⟩⟩;rw[←Db,yU,yX,zF,ZAJ,List.take_add_one,ZAR,ZAN AY];rfl
theorem aR{w:World}{S:Nat→Prop}{T:Ty}:∀m:Nat,Aq w S (.sl T) (List.replicate m []) (List.replicate m (.slice none 0 0))|0=>rfl|m+1=>⟨[.slice none 0 0],List.replicate m (.slice none 0 0),by rw[ZBY];rfl,⟨none,0,rfl,⟨zB _,ZAl _⟩,λh=>absurd rfl h⟩,aR m⟩
theorem jE{E:AH}{L:AU}{T:Ty}{xs:List (List T.den)}{m:Nat}(h:Aj P E L (.vrow T xs [] m)):Aj P E L (.row (.sl T) (xs++List.replicate m [])):=by
 obtain⟨h1,h2,h3,e,cs,h4,h5⟩:=h;have hlen:L.len=(xs++List.replicate m ([]:List T.den)).length:=by simp only[yU,ZAD,zF]at h3⊢;omega
 refine⟨h1,Nat.zero_lt_one,hlen,e,_,h4.append (aR m),?_⟩;rcases h5 with⟨h5,h6⟩|⟨cur,h5,h6,h7,h8,h9,BX,Db,DK,FN⟩;·exact .inl ⟨h5,zR (by rw[←hlen];exact h6)⟩
 ·refine .inr ⟨cur,h5,h6,by rw[←hlen];exact h7,h8,h9,by rw[BX];exact(ZA8 _).symm,?_⟩;rw[←hlen,show(Ty.sl T).size=1 from rfl,ZA8,←Db];have h3:L.len=xs.length+m:=by simpa using h3
  have hcl:(cur.toList.take xs.length).length=xs.length:=by simp only[zG,zT];omega
  apply ZAZ;intro j;rw[zP];split
  ·rename_i hj;rcases ZAn j xs.length with h|h;·rw[ZAV (by omega),zP,yS h]
   ·rw[ZAS (by omega),hcl,ZDH,yS (by omega),ZAR];exact FN j (by simpa using h) hj
  ·rw[ZAW];rw[yU,hcl,ZAD];omega
theorem tX{cx:Cx}{s:St}{a:Act}{E:AH}{n k:Nat}{T:Ty}{ys:List T.den}(hn:AA n s.objs=some (.row T ys))(hk:AA k s.objs=some .dead)(Ab:n≠k)(Aw:JH s.nx s.df (some (k,.row T ys,true))=true)(r:A5 P cx s a E):∃E',E'.w=E.w∧A5 P cx ((redo n .dead (s.edit (some (k,.row T ys,true)))).subst n (K7 n k)) a E':=by
 obtain⟨nt,tmps,objs,nx,df,wr,di,mv⟩:=s;have hn:AA n objs=some (.row T ys):=hn;have hk:AA k objs=some .dead:=hk;obtain⟨L,hL,hat⟩:=r.good.at_ n _ hn;obtain⟨K,hK,_⟩:=r.good.at_ k _ hk;have YN:(E.setL E.w k L).loc n=some L:=by rw[BZ _ _ _ Ab];exact hL
 have hx:Bv E (E.setL E.w k L) [k]:=⟨λb hb=>⟨hb,rfl⟩,λj M hj hM=>by rw[BZ _ _ _ (by simpa using hj)];exact hM⟩;have A4:∀l o,AA l ((n,.dead)::(k,.row T ys)::substO (Ca k) objs)=some o→l=n∧o=.dead∨l=k∧o=.row T ys∨l≠n∧l≠k∧∃q,AA l objs=some q∧o=q.subst (Ca k):=λl o h=>by
  rw[Ay]at h;split at h;·rename_i e;cases h;exact .inl ⟨e.symm,rfl⟩
  ·rename_i e1;rw[Ay]at h;split at h;·rename_i e;cases h;exact .inr (.inl ⟨e.symm,rfl⟩)
   ·rename_i e2;rw[G6,ZAA]at h;obtain⟨q,hq,rfl⟩:=h;exact .inr (.inr ⟨ZAM e1,ZAM e2,q,hq,rfl⟩)
 have old:∀l o M,AA l ((n,.dead)::(k,.row T ys)::substO (Ca k) objs)=some o→(E.setL E.w k L).loc l=some M→o.has M→l≠n∧∃l' o',AA l' objs=some o'∧E.loc l'=some M∧o'.has M∧l'=if l=k then n else l:=λl o M h1 h2 h3=>by
  rcases A4 l o h1 with⟨rfl,rfl⟩|⟨rfl,rfl⟩|⟨e1,e2,q,hq,rfl⟩;·exact h3.elim
  ·rw[Bi]at h2;cases h2;exact⟨ZAM Ab,n,_,hn,hL,h3,(yS rfl).symm⟩
  ·rw[BZ _ _ _ e2]at h2;exact⟨e1,l,q,hq,h2,Obj.has_subst.1 h3,(yP e2).symm⟩
 have ownb:∀b,Cd (E.setL E.w k L) ((n,.dead)::(k,.row T ys)::substO (Ca k) objs) b→Cd E objs b:=λb⟨l,o,M,h1,h2,h3,h4⟩=>by obtain⟨_,l',o',k1,k2,k3,_⟩:=old l o M h1 h2 h3;exact⟨l',o',M,k1,k2,k3,h4⟩
 have none2:∀l,AA l ((n,.dead)::(k,.row T ys)::substO (Ca k) objs)=none→l≠k∧AA l objs=none:=λl h=>by obtain⟨_,h⟩:=Gq h;obtain⟨h1,h⟩:=Gq h;rw[G6]at h;exact⟨h1,by simpa using h⟩
 have g1:AC P (E.setL E.w k L) ((n,.dead)::(k,.row T ys)::substO (Ca k) objs):=by
  refine⟨λl o h=>?_,λb h=>r.good.ns b (ownb b h),r.good.sl,r.good.tab,λi j p q M M' h1 h2 h3 h4 h5 h6 h7=>?_⟩
  ·rcases A4 l o h with⟨rfl,rfl⟩|⟨rfl,rfl⟩|⟨e1,e2,q,hq,rfl⟩;·exact⟨L,YN,trivial⟩
   ·exact⟨L,Bi _ _ _ _,hat⟩
   ·obtain⟨M,hM,ha⟩:=r.good.at_ l q hq;exact⟨M,by rw[BZ _ _ _ e2];exact hM,ha.keepS (λv c h=>OA hx h) (λb hb=>⟨hb,rfl⟩) λ_=>rfl⟩
  ·obtain⟨n1,i',p',k1,k2,k3,k4⟩:=old i p M h1 h3 h5;obtain⟨n2,j',q',m1,m2,m3,m4⟩:=old j q M' h2 h4 h6;have :=r.good.inj i' j' p' q' M M' k1 m1 k2 m2 k3 m3 h7;rw[k4,m4]at this;by_cases e1:i=k
   ·by_cases e2:j=k;·rw[e1,e2]
    ·rw[yS e1,yP e2]at this;exact absurd this.symm n2
   ·by_cases e2:j=k;·rw[yP e1,yS e2]at this;exact absurd this n1
    ·rw[yP e1,yP e2]at this;exact this
 have st1:BF E objs (E.setL E.w k L) ((n,.dead)::(k,.row T ys)::substO (Ca k) objs) [k]:=⟨hx,rfl,rfl,rfl,zB _,λ_ _ _=>rfl,λb hb=>.inr (ownb b hb),λb hb=>.inl hb,λl hl=>(none2 l hl).2,λl hl=>BZ _ _ _ (none2 l hl).1⟩;have yA:k<nx:=ZBb λhle=>by rw[r.fresh k hle]at hK;cases hK
 have mP:H5 k nx=nx:=by
  unfold H5;split;·rename_i e;have :=yW e;omega
  ·rfl
 have hm:MU k df=false:=by
  simp only[JH]at Aw;split at Aw;·simpa using Aw
  ·cases Aw
 have r1:A5 P cx (redo n .dead (St.edit ⟨nt,tmps,objs,nx,df,wr,di,mv⟩ (some (k,.row T ys,true)))) a (E.setL E.w k L):=by
  refine⟨g1,λj hj=>?_,r.step.trans st1,r.drawn,r.size,r.df.moved hx hm,λt=>?_⟩;·have hj:H5 k nx≤j:=hj;rw[mP]at hj;rw[BZ _ _ _ (by omega)];exact r.fresh j hj
  ·show Z P _ (AW t (EV (Ca k) tmps)) _;rw[Jt,Ks];exact OA hx (r.rep t)
 have hf:∀v c,v.isRef=true→Z P (E.setL E.w k L) v c→Z P (E.setL E.w k L) (K7 n k v) c:=λv c _ h=>by
  have hi:Z P (E.setL E.w k L) (Ca n v) c:=by
   unfold Ca;split
   ·split;·exact .any _
    ·exact h
   ·exact h
  unfold K7;split
  ·rename_i j;split;·rename_i e;have e:=yW e;subst e;obtain⟨M,hM,rfl⟩:=E8 h;rw[YN]at hM;cases hM;exact .osl (Bi _ _ _ _)
   ·exact h
  ·exact hi
 exact⟨E.setL E.w k L,rfl,r1.subst hf rfl rfl (λ_ h=>h) (r1.good.substO hf) (r1.step.substO (f:=K7 n k))⟩
theorem tW{n k:Nat}(v:V)(hr:v.isRef=true)(h:v.has n=false):K7 n k v=v:=by cases v<;>simp only[V.isRef,zY]at hr<;>simp only[V.has]at h<;>simp only[K7,Ca,V.key,h]
theorem X6{cx:Cx}:∀{gh:Gh}{s s':St},ghost1 gh s=some s'→Wk P cx s s'
 |.opn _,s,s',h=>by cases h|.nxt n,s,s',h=>by
  obtain⟨nt,tmps,objs,nx,df,wr,di,mv⟩:=s;simp only[ghost1]at h;split at h;·rename_i hn;cases h;have hn:=zW hn;rintro a w⟨E,e,r⟩;exact⟨E,e,r.good,λl hl=>r.fresh l (zV hn hl),r.step,r.drawn,r.size,r.df,r.rep⟩
  ·cases h|.cls l,s,s',h=>by
  simp only[ghost1]at h;split at h
  ·rename_i T xs v m ho;split at h;·rename_i y hy;cases h;rintro a w⟨E,rfl,r⟩;exact⟨E,rfl,VJ ho (λ_ h=>h) (λ_ h=>iA hy h) r⟩
   ·cases h
  ·cases h|.dne l,s,s',h=>by
  simp only[ghost1]at h;split at h;·rename_i T xs m ho;cases h;rintro a w⟨E,rfl,r⟩;exact⟨E,rfl,VJ ho (λ_ h=>h) (λ_ h=>jE h) r⟩
  ·cases h|.ren n k,s,s',h=>by
  simp only[ghost1]at h;split at h
  ·rename_i T ys hn;split at h
   ·rename_i hk;split at h;·cases h
    ·rename_i Ab;split at h;·rename_i Aw;cases h;rintro a w⟨E,rfl,r⟩;obtain⟨E',e1,r1⟩:=tX hn hk (ZAt Ab) Aw r;exact⟨E',e1,r1⟩
     ·cases h
   ·cases h
  ·cases h|.own t T,s,s',h=>by
  obtain⟨nt,tmps,objs,nx,df,wr,di,mv⟩:=s;simp only[ghost1]at h;split at h
  ·rename_i hv;split at h;·rename_i hT;cases h;rintro a w⟨E,rfl,r⟩;have rv:=r.rep t;rw[show AW t (St.mk nt tmps objs nx df wr di mv).tmps=.nils from hv]at rv;obtain⟨E',e1,e2,g,st,rr⟩:=Up r.good (r.fresh nx (zB _)) (zW hT) rv;exact⟨E',e1,g,λl hl=>by have :nx+1≤l:=hl;rw[e2 l (by omega)];exact r.fresh l (by show nx≤l;omega),r.step.trans st,by rw[e1];exact r.drawn,r.size,r.df.ext st.ext,QX (λt=>(r.rep t).mono st.ext) rr⟩
   ·cases h
  ·cases h;exact .refl _
  ·cases h;exact .refl _
  ·cases h|.ownc l j T,s,s',h=>by
  obtain⟨nt,tmps,objs,nx,df,wr,di,mv⟩:=s;simp only[ghost1]at h;split at h
  ·rename_i cs hcs;split at h
   ·rename_i hv;split at h
    ·rename_i hT;cases h;rintro a w⟨E,rfl,r⟩;obtain⟨L,hL,vals,t,k1,k2,k3⟩:=r.good.at_ l _ hcs;by_cases hj:j<cs.length
     ·have rv:=k3 j hj;rw[hv]at rv;obtain⟨E',e1,e2,g,st,rr⟩:=Up r.good (r.fresh nx (zB _)) (zW hT) rv;have Ab:l≠nx:=λe=>by subst e;rw[r.fresh l (zB _)]at hL;cases hL
      have hL':E'.loc l=some L:=by rw[e2 l Ab];exact hL
      have ho1:AA l ((nx,Obj.row T [])::objs)=some (.box cs):=by rw[Ay,yP (ZAM Ab)];exact hcs
      have tr:∀l' o,AA l' ((l,Obj.box (Ge (.osl nx) j cs))::(nx,.row T [])::objs)=some o→∃o1 L,AA l' ((nx,Obj.row T [])::objs)=some o1∧E'.loc l'=some L∧E'.loc l'=some L∧(∀L,o.has L→o1.has L)∧(Aj P E' L o1→Aj P E' L o):=by
       intro l' o ho;rw[Ay]at ho;split at ho
       ·rename_i e;subst e;cases ho;refine⟨_,L,ho1,hL',hL',λ_ _=>trivial,λhat=>?_⟩;obtain⟨dZ,t2,m1,m2,m3⟩:=hat;have pQ:dZ=vals:=by rw[e1,k1]at m1;cases m1;rfl
        subst pQ;refine⟨dZ,t2,m1,by rw[VX];exact m2,λi hi=>?_⟩;rw[VX]at hi;rw[cB i hi];split;·rename_i e;subst e;exact rr
        ·exact m3 i hi
       ·obtain⟨L1,h1,h2⟩:=g.at_ l' o ho;exact⟨o,L1,ho,h1,h1,λ_ h=>h,λh=>h⟩
      refine⟨E',e1,g.sub rfl rfl tr,λl hl=>by have :nx+1≤l:=hl;rw[e2 l (by omega)];exact r.fresh l (by show nx≤l;omega),(r.step.trans st).swap tr λl' hl'=>(Gq hl').2,by rw[e1];exact r.drawn,r.size,r.df.ext st.ext,λt=>(r.rep t).mono st.ext⟩
     ·rw[yT,ZAW (by omega)]at hv;cases hv
    ·cases h
   ·cases h;exact .refl _
   ·cases h
  ·cases h|.frz t,s,s',h=>by cases h;exact Vr t 5 s|.frzl l,s,s',h=>by cases h;exact Ot l|.zero t,s,s',h=>by
  simp only[ghost1]at h;split at h
  ·rename_i l lo n hv;split at h
   ·rename_i hz;simp only[zN]at hz;have h1:=yW hz.1;have h2:=yW hz.2;subst h1 h2;split at h
    ·rename_i T xs ho;split at h;·rename_i Aw;rintro a w⟨E,rfl,r⟩;have rv:=r.rep t;rw[hv]at rv;obtain⟨E',e1,g,st,rr⟩:=wJ r.good ho rv;have r2:=A5.edit r Aw (by rw[e1];exact zB _) g st;revert h r2;generalize s.edit (some (l,.row T [],true))=s2;intro h r2;obtain⟨nt,tmps,objs,nx,df,wr,di,mv⟩:=s2;cases h;exact⟨E',e1,r2.good,r2.fresh,r2.step,r2.drawn,r2.size,r2.df,QX r2.rep rr⟩
     ·cases h
    ·cases h
   ·cases h
  ·cases h;exact .refl _
  ·cases h;exact .refl _
  ·cases h|.frzc l j,s,s',h=>by
  simp only[ghost1]at h;split at h
  ·split at h;·cases h;exact Ot _
   ·cases h;exact .refl _
  ·cases h|.data t T,s,s',h=>by
  obtain⟨nt,tmps,objs,nx,df,wr,di,mv⟩:=s;simp only[ghost1]at h;split at h;·rename_i x hx;cases h;rintro a w⟨E,rfl,r⟩;exact⟨E,rfl,r.good,r.fresh,r.step,r.drawn,r.size,r.df,QX r.rep (O7 (lo:=E.loc) (JM hx (r.rep t)))⟩
  ·cases h
theorem AR.ghost1:∀{gh:Gh}{s s':St},ghost1 gh s=some s'→AR s s'
 |.opn _,s,s',h=>by cases h|.nxt n,s,s',h=>by
  obtain⟨nt,tmps,objs,nx,df,wr,di,mv⟩:=s;simp only[YtldikbpclaeajaaGreatDoor.ghost1]at h;split at h;·rename_i hn;cases h;exact⟨rfl,zW hn,λ_ h=>h,λ_ h=>h,λ_ h=>h,λ_ _=>rfl,λ_ _=>rfl,λ_=>rfl⟩
  ·cases h|.cls l,s,s',h=>by
  simp only[YtldikbpclaeajaaGreatDoor.ghost1]at h;split at h
  ·split at h;·cases h;exact AR.redo
   ·cases h
  ·cases h|.dne l,s,s',h=>by
  simp only[YtldikbpclaeajaaGreatDoor.ghost1]at h;split at h;·cases h;exact AR.redo
  ·cases h|.ren n k,s,s',h=>by
  simp only[YtldikbpclaeajaaGreatDoor.ghost1]at h;split at h
  ·split at h
   ·split at h;·cases h
    ·split at h;·cases h;exact((AR.edit s _).trans AR.redo).trans (AR.subst tW)
     ·cases h
   ·cases h
  ·cases h|.own t T,s,s',h=>by
  obtain⟨nt,tmps,objs,nx,df,wr,di,mv⟩:=s;simp only[YtldikbpclaeajaaGreatDoor.ghost1]at h;split at h
  ·split at h;·cases h;exact⟨rfl,ZBR _,λ_ h=>zD _ h,λ_ h=>zD _ h,λ_ h=>h,λu hu=>by simp only[zO,ZAX]at hu;simp only;rw[CC,yP (ZAM hu.1)],λk hk=>by simp only[zO,ZAX]at hk;simp only;rw[Ay,yP (ZAM hk.1)],λ_=>rfl⟩
   ·cases h
  ·cases h;exact .refl _
  ·cases h;exact .refl _
  ·cases h|.ownc l j T,s,s',h=>by
  obtain⟨nt,tmps,objs,nx,df,wr,di,mv⟩:=s;simp only[YtldikbpclaeajaaGreatDoor.ghost1]at h;split at h
  ·split at h
   ·split at h;·cases h;exact⟨rfl,ZBR _,λ_ h=>h,λ_ h=>zD _ (zD _ h),λ_ h=>h,λ_ _=>rfl,λk hk=>by simp only[zO,ZAX]at hk;simp only;rw[Ay,yP (ZAM hk.1),Ay,yP (ZAM hk.2.1)],λ_=>rfl⟩
    ·cases h
   ·cases h;exact .refl _
   ·cases h
  ·cases h|.frz t,s,s',h=>by cases h;exact AR.frzT t 5 s|.frzl l,s,s',h=>by cases h;exact AR.freeze l s|.zero t,s,s',h=>by
  simp only[YtldikbpclaeajaaGreatDoor.ghost1]at h;split at h
  ·rename_i l lo n hv;split at h
   ·split at h
    ·rename_i T xs ho;split at h;·have hi:=AR.edit s (some (l,.row T [],true));revert h hi;generalize s.edit (some (l,.row T [],true))=s2;intro h hi;refine hi.trans ?_;obtain⟨nt,tmps,objs,nx,df,wr,di,mv⟩:=s2;cases h;exact⟨rfl,zB _,λ_ h=>zD _ h,λ_ h=>h,λ_ h=>h,λu hu=>by simp only[zO,ZAX]at hu;simp only;rw[CC,yP (ZAM hu.1)],λ_ _=>rfl,λ_=>rfl⟩
     ·cases h
    ·cases h
   ·cases h
  ·cases h;exact .refl _
  ·cases h;exact .refl _
  ·cases h|.frzc l j,s,s',h=>by
  simp only[YtldikbpclaeajaaGreatDoor.ghost1]at h;split at h
  ·split at h;·cases h;exact AR.freeze _ _
   ·cases h;exact .refl _
  ·cases h|.data t T,s,s',h=>by
  obtain⟨nt,tmps,objs,nx,df,wr,di,mv⟩:=s;simp only[YtldikbpclaeajaaGreatDoor.ghost1]at h;split at h;·cases h;exact⟨rfl,zB _,λ_ h=>zD _ h,λ_ h=>h,λ_ h=>h,λu hu=>by simp only[zO,ZAX]at hu;simp only;rw[CC,yP (ZAM hu.1)],λ_ _=>rfl,λ_=>rfl⟩
  ·cases h
theorem sP{E:AH}{objs:AF}(g:AC P E objs){l lo n:Nat}{T:Ty}{xs:List T.den}(ho:AA l objs=some (.row T xs))(hlen:lo+n≤xs.length){c:Value}(r:Z P E (.osp l lo n) c){L:AU}(hL:E.loc l=some L):Z P (E.still L.b ((Obj.row T xs).has L)) (.d (.sl T) ((xs.drop lo).take n)) c:=by
 obtain⟨K,hK,a,rfl,ha⟩:=Hw r;rw[hL]at hK;cases hK;have h0:=NK g ho hL rfl (v:=.osl l) rfl (.osl hL);simp only[frz,ZDn]at h0;have h1:BE (E.still L.b ((Obj.row T xs).has L)).w (E.still L.b ((Obj.row T xs).has L)).S (.sl T) xs [L.v]:=Jq h0;obtain⟨C7,Ag,hl,_⟩:L.esz=T.size∧0<T.size∧L.len=xs.length∧xs.length≤L.cap:=by obtain⟨M,hM,hat⟩:=g.at_ l _ ho;rw[hL]at hM;cases hM;have :=VR hat;exact⟨hat.1,hat.2.1,hat.2.2.1,this⟩
 rw[AU.v,hl]at h1;have h2:=We h1 Ag lo (lo+n) (by omega) hlen;have e:(xs.take (lo+n)).drop lo=(xs.drop lo).take n:=by rw[List.drop_take];congr 1;omega
 rw[e]at h2;by_cases hn:n=0;·subst hn;rw[ZCv];exact .d ⟨a,L.cap-lo,rfl,⟨by simp,by obtain⟨_,cap',hc,C6,_⟩:=h1;simp only[ZBg,Value.slice.injEq,ZDD]at hc;show L.cap-lo≤maxLen;omega⟩,λh=>absurd rfl h⟩
 ·have Ab:L.cap≠lo:=by omega
  rw[yP Ab,←C7,←ha Ab,show lo+n-lo=n from by omega]at h2;exact .d h2
def ghosts:List Gh→St→Option St|[],s=>some s|g::r,s=>match ghost1 g s with|some s'=>ghosts r s'|none=>none
theorem X7{cx:Cx}:∀{l:List Gh}{s s':St},ghosts l s=some s'→Wk P cx s s'
 |[],s,s',h=>by cases h;exact .refl _|g::r,s,s',h=>by
  simp only[ghosts]at h;split at h;·rename_i h1;exact(X6 h1).trans (X7 h)
  ·cases h
theorem AR.ghosts:∀{l:List Gh}{s s':St},ghosts l s=some s'→AR s s'
 |[],s,s',h=>by cases h;exact .refl _|g::r,s,s',h=>by
  simp only[YtldikbpclaeajaaGreatDoor.ghosts]at h;split at h;·rename_i h1;exact(AR.ghost1 h1).trans (AR.ghosts h)
  ·cases h
def PH(f:Nat→Prop)(i:Int)(m:Nat):Nat→Prop|0=>False|c+1=>cond (decide (i=Int.ofNat m)) (f m) (PH f i (m+1) c)
theorem WZ{f:Nat→Prop}{i:Int}:∀{c m:Nat},PH f i m c→∃k:Nat,i=Int.ofNat k∧f k
 |0,m,h=>h.elim|c+1,m,h=>by
  simp only[PH]at h;by_cases e:i=Int.ofNat m;·rw[yO e]at h;exact⟨m,e,h⟩
  ·rw[yV e]at h;exact WZ h
theorem cC{v:V}:∀{j:Nat}{cs:List V},j<cs.length→cs.getD j .any=v→Ge v j cs=cs|_,[],h,_=>by simp at h|0,x::r,_,e=>by simp at e;simp[Ge,e]|j+1,x::r,h,e=>by simp[Ge,cC (by simpa using h) (by simpa using e)]
def Hi:List Gh→St→(St→Prop)→Prop
 |[],s,k=>k s|.part t::r,s,k=>match AW t s.tmps with
  |.osp l lo n=>match AA l s.objs with
   |some (.row T xs)=>lo+n≤xs.length∧match s.freeze l with|⟨nt,tmps,objs,nx,df,wr,di,mv⟩=>Hi r ⟨nt,(t,.d (.sl T) ((xs.drop lo).take n))::tmps,objs,nx,df,t::wr,di,mv⟩ k
   |_=>False
  |_=>Hi r s k
 |.cases t j n::r,s,k=>match AW t s.tmps with
  |.ref l _=>match AA l s.objs with
   |some (.box cs)=>match cs.getD j .any with|.d (.int ik) i=>PH (λm=>match s with|⟨nt,tmps,objs,nx,df,wr,di,mv⟩=>Hi r ⟨nt,tmps,(l,.box (Ge (.d (.int ik) (Int.ofNat m)) j cs))::objs,nx,df,wr,l::di,mv⟩ k) i 0 n|_=>False
   |_=>False
  |_=>False
 |.opn l::r,s,k=>match s with|⟨nt,tmps,objs,nx,df,wr,di,mv⟩=>match AA l objs with
  |some (.vrow T xs [] m)=>match Nat.blt 0 T.size with|true=>0<m∧Hi r ⟨nt,tmps,(l,.vrow T xs [.osl nx] (m-1))::(nx,.row T [])::objs,nx+1,df,wr,l::nx::di,mv⟩ k|false=>False
  |_=>False
 |g::r,s,k=>match ghost1 g s with|some s'=>Hi r s' k|none=>False
theorem sE{cx:Cx}{nt:Nat}{tmps:List (Nat×V)}{objs:AF}{nx:Nat}{df:List Df}{wr di mv:List Nat}{a:Act}{E:AH}{l:Nat}{T:Ty}{xs:List (List T.den)}{m:Nat}(ho:AA l objs=some (.vrow T xs [] m))(hT:0<T.size)(hm:0<m)(r:A5 P cx ⟨nt,tmps,objs,nx,df,wr,di,mv⟩ a E):∃E',E'.w=E.w∧A5 P cx ⟨nt,tmps,(l,.vrow T xs [.osl nx] (m-1))::(nx,.row T [])::objs,nx+1,df,wr,l::nx::di,mv⟩ a E':=by
 obtain⟨E',e1,e2,g,st,rr⟩:=Up (T:=T) r.good (r.fresh nx (zB _)) hT (.nils none);obtain⟨L,hL,_⟩:=r.good.at_ l _ ho;have Ab:nx≠l:=λe=>by rw[←e,r.fresh nx (zB _)]at hL;cases hL
 have r1:A5 P cx ⟨nt,tmps,(nx,.row T [])::objs,nx+1,df,wr,nx::di,mv⟩ a E':=⟨g,λj hj=>by have :nx+1≤j:=hj;rw[e2 j (by omega)];exact r.fresh j (by show nx≤j;omega),r.step.trans st,by rw[e1];exact r.drawn,r.size,r.df.ext st.ext,λt=>(r.rep t).mono st.ext⟩;refine⟨E',e1,VJ (l:=l) (o:=.vrow T xs [] m) (o':=.vrow T xs [.osl nx] (m-1)) (by show AA l ((nx,.row T [])::objs)=_;rw[Ay,yP Ab];exact ho) (λ_ h=>h) (λK h=>?_) r1⟩;obtain⟨h1,h2,h3,e,cs,h4,h5⟩:=h;have hlen:K.len=xs.length+[V.osl nx].length+(m-1):=by simp only[yX,zF]at h3⊢;omega
 refine⟨h1,zB _,hlen,e,cs,h4,?_⟩;rcases h5 with⟨h5,h6⟩|⟨cur,h5,h6,h7,h8,h9,BX,Db,DK,FN⟩;·simp at h3;omega
 ·refine .inr ⟨cur,h5,h6,h7,h8,h9,BX,Db,λj hj=>?_,λi hi=>FN i (by simp only[yX,zF]at hi⊢;omega)⟩;obtain rfl:j=0:=by simp at hj;exact hj
  have :=FN xs.length (by simp) (by simp at h3;omega);rw[zH,ZA6,this];exact rr
theorem Li{cx:Cx}:∀{l:List Gh}{s:St}{k:St→Prop}{a:Act}{w:World},Hi l s k→Av P cx s a w→∃s',AR s s'∧Av P cx s' a w∧k s'
  |[],s,k,a,w,h,r=>⟨s,.refl s,r,h⟩|g::l,s,k,a,w,h,r=>by
    have plain:(match ghost1 g s with|some s'=>Hi l s' k|none=>False)→∃s',AR s s'∧Av P cx s' a w∧k s':=λh=>by
      split at h;·rename_i s1 h1;obtain⟨s',i1,r1,k1⟩:=Li h (X6 h1 a w r);exact⟨s',(AR.ghost1 h1).trans i1,r1,k1⟩
      ·exact h.elim
    cases g with
    |part t=>
      simp only[Hi]at h;split at h
      · rename_i o lo n hv;split at h
        · rename_i T xs ho;obtain⟨hlen,h⟩:=h;obtain⟨E,rfl,r1⟩:=r;have rv:=r1.rep t;rw[hv]at rv;obtain⟨L,hL,_⟩:=r1.good.at_ o _ ho;have hd:=sP r1.good ho hlen rv hL;have BJ:∃E',E'.w=E.w∧(∀v c,v.fk=none→Z P (E.still L.b ((Obj.row T xs).has L)) v c→Z P E' v c)∧A5 P cx (s.freeze o) a E':=by have hw:=eE (P:=P) (cx:=cx) o ho hL r1;exact⟨E.still L.b ((Obj.row T xs).has L),rfl,λv c hk hr=>hr,hw⟩
          obtain⟨E',e1,e2,r2⟩:=BJ;have hi:=AR.freeze o s;revert h r2 hi;generalize s.freeze o=s2;intro h r2 hi;obtain⟨nt,tmps,objs,nx,df,wr,di,mv⟩:=s2;simp only at h;have r3:Av P cx ⟨nt,(t,.d (.sl T) ((xs.drop lo).take n))::tmps,objs,nx,df,t::wr,di,mv⟩ a E.w:=⟨E',e1,r2.good,r2.fresh,r2.step,r2.drawn,r2.size,r2.df,QX r2.rep (e2 _ _ rfl hd)⟩;obtain⟨s',i1,r4,k1⟩:=Li h r3;refine⟨s',(hi.trans ?_).trans i1,r4,k1⟩;exact⟨rfl,zB _,λ_ h=>zD _ h,λ_ h=>h,λ_ h=>h,λu hu=>by simp only[zO,ZAX]at hu;simp only;rw[CC,yP (ZAM hu.1)],λ_ _=>rfl,λ_=>rfl⟩
        ·exact h.elim
      ·exact Li h r|cases t j n=>
      simp only[Hi]at h;split at h
      · rename_i o off MD;split at h
        · rename_i cs ho;split at h
          · rename_i ik i hv;obtain⟨m,e,h⟩:=WZ h;obtain⟨E,rfl,r1⟩:=r;obtain⟨nt,tmps,objs,nx,df,wr,di,mv⟩:=s;simp only at h ho;have hj:j<cs.length:=by refine ZBb λhle=>?_;rw[yT,ZAW hle]at hv;cases hv
            have e':i=Int.ofNat m:=e;rw[cC hj (by rw[hv,e'])]at h;have Cu:∀l',AA l' ((o,Obj.box cs)::objs)=AA l' objs:=λl'=>by
              rw[Ay];split;·rename_i e;rw[←e];exact ho.symm
              ·rfl
            have tr:∀l' o1,AA l' ((o,Obj.box cs)::objs)=some o1→∃o2 L,AA l' objs=some o2∧E.loc l'=some L∧E.loc l'=some L∧(∀L,o1.has L→o2.has L)∧(Aj P E L o2→Aj P E L o1):=λl' o1 h1=>by rw[Cu]at h1;obtain⟨L,hL,_⟩:=r1.good.at_ l' o1 h1;exact⟨o1,L,h1,hL,hL,λ_ h=>h,λh=>h⟩
            have r2:Av P cx ⟨nt,tmps,(o,.box cs)::objs,nx,df,wr,o::di,mv⟩ a E.w:=⟨E,rfl,r1.good.sub rfl rfl tr,r1.fresh,r1.step.swap tr λl' hl'=>by rw[Cu]at hl';exact hl',r1.drawn,r1.size,r1.df,r1.rep⟩;obtain⟨s',i1,r4,k1⟩:=Li h r2;refine⟨s',AR.trans ?_ i1,r4,k1⟩;exact⟨rfl,zB _,λ_ h=>h,λ_ h=>zD _ h,λ_ h=>h,λ_ _=>rfl,λk _=>Cu k,λ_=>rfl⟩
          ·exact h.elim
        ·exact h.elim
      ·exact h.elim|opn l=>
      obtain⟨nt,tmps,objs,nx,df,wr,di,mv⟩:=s;simp only[Hi]at h;split at h
      · rename_i T xs m ho;split at h;·rename_i hT;obtain⟨E,rfl,r1⟩:=r;obtain⟨E',e1,r2⟩:=sE ho (zW hT) h.1 r1;obtain⟨s',i1,r4,k1⟩:=Li h.2 (e1▸⟨E',rfl,r2⟩:Av P cx _ a E.w);refine⟨s',AR.trans ?_ i1,r4,k1⟩;exact⟨rfl,ZBR _,λ_ h=>h,λ_ h=>zD _ (zD _ h),λ_ h=>h,λ_ _=>rfl,λk hk=>by have hk:k∉l::nx::di:=hk;simp only[zO,ZAX]at hk;show AA k (_::_::objs)=_;rw[Ay,yP (ZAM hk.1),Ay,yP (ZAM hk.2.1)],λ_=>rfl⟩
        ·exact h.elim
      ·exact h.elim|_=>exact plain h
def gU:Option Nat→Nat|some d=>d|none=>9999
def MV(dst:Option Nat)(k:St→Prop)(v:V)(s:St):Prop:=match s.setT dst v with|some s'=>k s'|none=>False
def QL(i:Int)(k:V→Prop):Nat→List V→Prop|_,[]=>False|_,[v]=>k v|j,v::u::r=>cond (decide (i=(j:Int))) (k v) (QL i k (j+1) (u::r))
def ZS(τ:Ad)(t:TypeId)(x ix:V)(k:V→Prop):Prop:=match τ t with
 |some ⟨.arr n e,_,_,_,_⟩=>match x with
  |.agg cs=>match ix with
   |.d (.int _) i=>match τ e with
    |some ei=>match Nat.beq cs.length n&&Nat.beq ei.size 1&&!ei.isAgg&&ei.k.known with|true=>(0≤i∧i<(n:Int))∧QL i k 0 cs|false=>False
    |none=>False
   |_=>False
  |_=>False
 |_=>False
def Uo(os:AF):V→Option Prop
 |.d (.sl T) l=>some (l=([]:List T.den))|.nils=>some True|.osl l=>match AA l os with|some (.row T xs)=>some (xs=[])|_=>none
 |_=>none
def aQ(τ:Ad)(op:BinOp)(t:TypeId)(os:AF)(x:V)(c:Value)(k:V→Prop):Prop:=match τ t with
 |some ⟨.sl _,_,_,_,_⟩=>match c with
  |.slice none 0 0=>match Uo os x with
   |some p=>match op with|.eql=>∀b:Bool,(b=true→p)→k (.d .bool b)|.neq=>∀b:Bool,(b=true→p)→k (.d .bool !b)|_=>False
   |none=>False
  |_=>False
 |_=>False
def xW(τ:Ad)(φ:Nat→Option FX)(run:EG)(A:An)(Y:List (Nat×An)):XT:=λo s k=>match o with|⟨dst,op,_,_,_,_⟩=>match op with
 |.call {callee:=.value x,args,..}=>match Af s.tmps x with|.yl l=>Vs run Y l (BY s.tmps args.toList) s (MV dst k)|f=>PG τ φ run (A.call (gU dst)) Y f (BY s.tmps args.toList) s (MV dst k)
 |.index t x i=>ZS τ t (Af s.tmps x) (Af s.tmps i) λv=>MV dst k v s|.binOp op t x (.const c) _=>aQ τ op t s.objs (Af s.tmps x) c λv=>MV dst k v s|_=>False
theorem ZR{i:Int}{k:V→Prop}:∀{j:Nat}{cs:List V},QL i k j cs→(j:Int)≤i→i<(j:Int)+cs.length→∃(n:Nat)(v:V),cs[n]?=some v∧i=(j:Int)+n∧k v
 |_,[],h,_,_=>h.elim|j,[v],h,h1,h2=>⟨0,v,rfl,by simp at h2;omega,h⟩|j,v::u::r,h,h1,h2=>by
  simp only[QL]at h;by_cases e:i=(j:Int);·rw[yO e]at h;exact⟨0,v,rfl,by omega,h⟩
  ·rw[yV e]at h;simp only[yX]at h2;obtain⟨n,w,a1,a2,a3⟩:=ZR (j:=j+1) h (by omega) (by simp only[yX];omega);exact⟨n+1,w,by simpa using a1,by omega,a3⟩
theorem OY{cx:Cx}{s s1:St}{dst:Option Nat}{k:St→Prop}{v:V}{u:Value}{a:Act}{E':AH}{next:Act→World→Prop}(hn:∀s' a' w',AR s s'→k s'→Av P cx s' a' w'→next a' w')(hi:AR s s1)(hk:MV dst k v s1)(r:A5 P cx s1 a E')(rv:Z P E' v u):next (a.put dst u) E'.w:=by
 unfold MV at hk;split at hk;·rename_i s' hs;exact hn s' _ _ (hi.trans (AR.setT hs)) hk ⟨E',rfl,A5.setT r hs rv⟩
 ·exact hk.elim
theorem sA{E:AH}{objs:AF}(g:AC P E objs){x:V}{p:Prop}(h:Uo objs x=some p){c:Value}(r:Z P E x c):∃a n cap,c=.slice a n cap∧(a.isNone=true→p):=by
 unfold Uo at h;split at h;·rename_i T l;cases h;obtain⟨a,cap,hc,_,hl⟩:=Jq r;refine⟨a,_,cap,(ZBi hc).1,λhn=>?_⟩;apply ZAf;intro Ab;obtain⟨b,off,ha,_⟩:=hl Ab;rw[ha]at hn;cases hn
 ·cases h;cases r with|nils a=>exact⟨a,0,0,rfl,λ_=>trivial⟩
 ·rename_i l;split at h
  ·rename_i T xs ho;cases h;obtain⟨L,hL,rfl⟩:=E8 r;obtain⟨K,hK,hat⟩:=g.at_ l _ ho;rw[hL]at hK;cases hK;obtain⟨_,_,_,_,_,_,⟨_,h⟩|⟨cur,h,_⟩⟩:=hat;·exact⟨_,_,_,rfl,λ_=>h⟩
   ·exact⟨_,_,_,rfl,λhn=>by rw[h]at hn;cases hn⟩
  ·cases h
 ·cases h
theorem kP{t e:TypeId}(h:P.underlying t=some (.slice e))(a:Option Addr)(n c:Nat)(w:World):(Op.equal t (.slice a n c) (.slice none 0 0)).run P w=.ok a.isNone w:=Sr λd=>by cases a<;>simp only[Op.equalIn,ZAL,zI h,zS,ZAo,Option.isNone]
theorem eO(hτ:A6 P τ)(hφ:∀g fi,φ g=some fi→fi.Ok P g){run:EG}(hrun:CM P run){A:An}{Y:List (Nat×An)}{r:Option Nat}{cx:Cx}:Mq P r cx (xW τ φ run A Y):=by
 intro o s k a w next Q hg h hr hn;obtain⟨dst,op,ty,po,af,guard⟩:=o;obtain⟨E,rfl,r1⟩:=hr;unfold xW at h;simp only at h;split at h
 ·rename_i x args tys;have ra:AS P E (BY s.tmps args.toList) (args.toList.map a.eval):=Jg λy _=>In r1.rep y;have rx:=In r1.rep x;split at h
  ·rename_i l hx;rw[hx]at rx;obtain⟨b,fn,tm,ag,bo,e1,e2,e3⟩:=wI (cs:=args.map a.eval) hrun h r1 rx (by simpa using ra) r;refine⟨λ_ _=>trivial,?_⟩;rw[ZCD _ _ _ λc=>by simp];have oW:(execOp a.eval ⟨dst,.call {callee:=.value x,args,argTypes:=tys},ty,po,af,guard⟩).run P E.w=.ok (.round b fn tm ag bo) E.w:=by simp[execOp,resolve,e1,Deferred.ofValue,invoke,e2]
   rw[oW,Oper.uponIn_round];exact⟨λh=>by simp[fz,Fence.wide]at h,e3 _ λu v s3 E' hi hk hr' hv=>OY hn hi hk hr' hv⟩
  ·rename_i hx;obtain⟨g,p,q,e1,e2,e3⟩:=WY hτ hφ hrun h r1 rx ra;refine⟨λ_ _=>trivial,?_⟩;rw[ZCD _ _ _ λc=>by simp,Rs (o:=⟨dst,.call {callee:=.value x,args,argTypes:=tys},ty,po,af,guard⟩) rfl e2 e1,ZC4];refine⟨λh=>by simp[fz,Fence.wide]at h,?_⟩;have :(args.toList.map a.eval).toArray=args.map a.eval:=ZC5 (by rw[ZB9]);rw[this]at e3;exact e3 _ λu v s3 E' hi hk hr' hv _=>OY hn hi hk hr' hv
 ·rename_i t x i;unfold ZS at h;split at h
  ·rename_i n e sz by_ ze co BC;split at h
   ·rename_i cs hx;split at h
    ·rename_i k' ii DL;split at h
     ·rename_i ei hei;split at h
      ·rename_i hc;obtain⟨⟨h0,h1⟩,h2⟩:=h;simp only[zN]at hc;have hlen:cs.length=n:=yW hc.1.1.1;obtain⟨m,v,m1,m2,m3⟩:=ZR (j:=0) h2 (by simpa using h0) (by rw[hlen];simpa using h1);have rx:=In r1.rep x;have ri:=In r1.rep i;rw[hx]at rx;rw[DL]at ri;have hm:m<n:=by rw[←hlen];exact(List.getElem?_eq_some_iff.1 m1).1
       have he:NB τ t (.agg cs) (.d (.int k') (Int.ofNat m))=some ⟨none,v,none⟩:=by have hb:Nat.blt m n=true:=Nat.ble_eq_true_of_le hm;simp only[NB,BC,hei,hb,hc.1.1.2,hc.1.2,hc.2,Bool.and_self,m1]
       have ri':Z P E (.d (.int k') (Int.ofNat m)) (a.eval i):=by
        have :ii=Int.ofNat m:=by simpa using m2
        rw[this]at ri;exact ri
       have :=XQ hτ he r1.good rx ri';have hran:J3 P ⟨dst,.index t x i,ty,po,af,guard⟩ a.eval E s.objs ⟨none,v,none⟩:=this.ran rfl;refine hran.did (by simp) next Q λE' u g' st hd hv=>?_;exact OY hn (.refl s) m3 (A5.edit (ed:=none) r1 rfl hd g' st) hv
      ·exact h.elim
     ·exact h.elim
    ·exact h.elim
   ·exact h.elim
  ·exact h.elim
 ·rename_i bop t x c yt;unfold aQ at h;split at h
  ·rename_i e sz by_ ze co BC;split at h
   ·split at h
    ·rename_i p hp;have ht:P.underlying t=some (.slice e):=(hτ t _ BC).kind;obtain⟨a',n,cap,hx,MG⟩:=sA r1.good hp (In r1.rep x);have heq:=kP (P:=P) ht a' n cap E.w;have Gs:∀op,(eqGuard op t x (.const (.slice none 0 0)) (.slice a' n cap) (.slice none 0 0)).run P E.w=.ok () E.w:=λop=>LY _ _ _ _ rfl (by simp) _;split at h;·have hran:J3 P ⟨dst,.binOp .eql t x (.const (.slice none 0 0)) yt,ty,po,af,guard⟩ a.eval E s.objs ⟨none,.d .bool a'.isNone,none⟩:=(BO.same (s:=do eqGuard .eql t x (.const (.slice none 0 0)) (a.eval x) (.slice none 0 0);Go.binOp .eql t (a.eval x) (.slice none 0 0)) r1.good (v:=.bool a'.isNone) (by rw[hx];simp only[ZAL];rw[Gs];simp only[zS,Go.binOp,ZAL,heq,ZAo]) (.mk_bool _)).ran rfl;refine hran.did (by simp) next Q λE' u g' st hd hv=>?_;exact OY hn (.refl s) (h a'.isNone MG) (A5.edit (ed:=none) r1 rfl hd g' st) hv
     ·have hran:J3 P ⟨dst,.binOp .neq t x (.const (.slice none 0 0)) yt,ty,po,af,guard⟩ a.eval E s.objs ⟨none,.d .bool !a'.isNone,none⟩:=(BO.same (s:=do eqGuard .neq t x (.const (.slice none 0 0)) (a.eval x) (.slice none 0 0);Go.binOp .neq t (a.eval x) (.slice none 0 0)) r1.good (v:=.bool !a'.isNone) (by rw[hx];simp only[ZAL];rw[Gs];simp only[zS,Go.binOp,ZAL,heq,ZAo]) (.mk_bool _)).ran rfl;refine hran.did (by simp) next Q λE' u g' st hd hv=>?_;exact OY hn (.refl s) (h a'.isNone MG) (A5.edit (ed:=none) r1 rfl hd g' st) hv
     ·exact h.elim
    ·exact h.elim
   ·exact h.elim
  ·exact h.elim
 ·exact h.elim
end
section
variable {P : Program} {τ : Ad} {κ : Ar} {φ : Nat → Option FX}
def Lp{σ:Type}(body:σ→(σ→Prop)→Prop)(x:σ):Prop:=∀R:σ→Prop,(∀y,body y R→R y)→R x
def Fr{σ:Type}(K:σ→Prop)(body:(σ→Prop)→Prop):Prop:=body K
def Io:Code→Option Nat
 |.region id _ _=>some id|.seq a b=>match Io a with|some n=>some n|none=>Io b
 |.cond _ a b=>match Io a with|some n=>some n|none=>Io b
 |.block _ c=>Io c|.loop c=>Io c|.scope c=>Io c|.rangeFunc _ _ a _=>Io a|_=>none
def An.join(A:An)(d:Code):Option LA:=match Io d with|some n=>A.jn n|.none=>.none
def St.add(s:St)(la:LA)(s0:St):St:=match la,s0,s with|⟨vs,es,an,dd⟩,⟨_,_,_,_,_,wr0,di0,_⟩,⟨nt,tmps,objs,nx,df,wr,di,mv⟩=>⟨nt,tmps,objs,nx,df,wr++(an++(LA.tmps vs++wr0)),di++(FW vs++dd++di0),mv⟩
theorem RX{cx:Cx}{la:LA}{s0 s:St}{a:Act}{w:World}(h:Av P cx s a w):Av P cx (s.add la s0) a w:=by obtain⟨E,e,r⟩:=h;cases la;cases s0;cases s;exact⟨E,e,r.good,r.fresh,r.step,r.drawn,r.size,r.df,r.rep⟩
theorem Wi{cx:Cx}{s:St}{a:Act}{w:World}(h:Av P cx s a w):Av P cx s.clr a w:=by obtain⟨E,e,r⟩:=h;cases s;exact⟨E,e,r.good,r.fresh,r.step,r.drawn,r.size,r.df,r.rep⟩
theorem hZ{s:St}:s.clr.mv=s.mv:=by cases s;rfl
theorem Yf{la:LA}{s:St}{y:DZ la.vs}:∀l∈s.mv,l∈(head la s y).mv:=by cases la;cases s;exact λl hl=>ZAj _ hl
theorem RW{la:LA}{s0 s:St}(h:Hd la s0 s)(hm:∀l∈s0.mv,l∈s.mv):AR s0 (s.add la s0):=by
 obtain⟨vs,es,an,dd⟩:=la;obtain⟨nt0,Vn,yL,nx0,df0,wr0,di0,mv0⟩:=s0;obtain⟨nt,tmps,objs,nx,df,wr,di,mv⟩:=s;refine⟨h.nt,h.nx,λt ht=>?_,λl hl=>?_,hm,λt ht=>?_,λl hl=>?_,λhn=>?_⟩;·show t∈wr++(an++(LA.tmps vs++wr0));simp only[zM];exact .inr (.inr (.inr ht))
 ·show l∈di++(FW vs++dd++di0);simp only[zM];exact .inr (.inr hl)
 ·have ht:t∉wr++(an++(LA.tmps vs++wr0)):=ht;simp only[zM,ZAX]at ht;exact h.tmp t ht.1 ht.2.1 ht.2.2.1
 ·have hl:l∉di++(FW vs++dd++di0):=hl;simp only[zM,ZAX]at hl;exact h.obj l hl.1 (by show l∉FW vs++dd;simp only[zM,ZAX];exact hl.2.1)
 ·have hn:nt0∉wr++(an++(LA.tmps vs++wr0)):=hn;simp only[zM,ZAX]at hn;exact h.df hn.1
def Vp(body:St→(Exit→St→Prop)→Prop):Nat→St→(Exit→St→Prop)→Prop|0,_,_=>False|n+1,s,k=>body s λe s'=>match e with|.normal=>Vp body n s' k|e=>k e s'
abbrev DT:=XT→List Oper→St→(St→Prop)→Prop
def RO(P:Program)(D:DT):Prop:=∀(X:XT)(id:Nat)(ops:Array Oper)(s:St)(k:St→Prop)(cx:Cx)(r:Option Nat)(R:DV),Mq P r cx X→D X ops.toList s k→∀a w,Av P cx s a w→(∀s' a' w',AR s s'→k s'→Av P cx s' a' w'→R .normal a' w')→(Code.region id ops true).wpIn (fz r) 0 P R a w
def VB(l:Nat)(k:Exit→St→Prop)(s:St):Prop:=match s with|⟨nt,tmps,objs,nx,df,wr,di,mv⟩=>match Be l mv with|true=>False|false=>match AA l objs with
 |some (.lrec _ _ _ _ _ st j)=>match st with|.busy=>False|_=>match j with|.no=>k .normal ⟨nt,tmps,(l,.dead)::objs,nx,df,wr,l::di,mv⟩|.ret=>k .ret ⟨nt,tmps,(l,.dead)::objs,nx,df,wr,l::di,mv⟩|.exit i=>k (.exit i) ⟨nt,tmps,(l,.dead)::objs,nx,df,wr,l::di,mv⟩
 |_=>False
def EH(τ:Ad)(κ:Ar)(φ:Nat→Option FX)(D:DT)(run:EG)(A:An)(Y:List (Nat×An))(ro:Bool):Nat→Code→St→(Exit→St→Prop)→Prop
 |_,.skip,s,k=>k .normal s|_,.label _,s,k=>k .normal s|_,.ret,s,k=>k .ret s|_,.exit i,s,k=>k (.exit i) s|_,.region id ops dr,s,k=>Hi (A.gs id) s λs1=>match ops.toList with|l=>match dr with|false=>Ei τ κ (xW τ φ run A Y) l l [] s1 λs'=>k .normal s'|true=>D (xW τ φ run A Y) l s1 λs'=>k .normal s'
 |b,.seq c d,s,k=>match A.join d with
  |none=>EH τ κ φ D run A Y ro b c s λe s'=>match e with|.normal=>EH τ κ φ D run A Y ro b d s' k|e=>k e s'
  |some la=>Fr (λy=>EH τ κ φ D run A Y ro b d ((head la s y).add la s) k) λJ=>EH τ κ φ D run A Y ro b c s.clr λe s'=>match e with
   |.normal=>match back la s s' with|some y=>J y|none=>False
   |e=>k e (s'.add la s)
 |b,.cond x c d,s,k=>match Af s.tmps x with|.d .bool v=>cond v (EH τ κ φ D run A Y ro b c s k) (EH τ κ φ D run A Y ro b d s k)|_=>False
 |b,.block id c,s,k=>EH τ κ φ D run A Y ro id c s λe s'=>match e with
  |.exit i=>match Nat.beq i id with|true=>k .normal s'|false=>k (.exit i) s'
  |e=>k e s'
 |b,.scope c,s,k=>EH τ κ φ D run A Y ro b c s λe s'=>match e with|.goto _=>False|e=>k e s'
 |b,.loop c,s,k=>match ghosts (A.gs (1000+b)) s with|none=>False|some s=>match A.lp b with
  |none=>match A.un b with|some n=>Vp (λs k=>EH τ κ φ D run A Y ro b c s k) n s k|none=>False
  |some la=>match frzVs la.vs s with|s0=>match back la s0 s0.clr with
   |none=>False|some y0=>Lp (λy R=>EH τ κ φ D run A Y ro b c (head la s0 y) λe s'=>match e with
    |.normal=>match back la s0 s' with|some y'=>R y'|none=>False
    |e=>k e (s'.add la s0)) y0
 |b,.rangeFunc g ps assign body,s,k=>match ro with|true=>False|false=>match s with|⟨nt,tmps,objs,nx,df,wr,di,mv⟩=>PG τ φ run (A.call (5000+b)) ((nx+1,A)::Y) (Af tmps g) [.yl (nx+1)] ⟨nt,tmps,(nx+1,.lrec nt tmps ps.toList assign body .ready .no)::(nx,.dfb)::objs,nx+2,.mark nx::df,nt::wr,(nx+1)::nx::di,mv⟩ λ_ s'=>VB (nx+1) k s'
 |_,_,_,_=>False
theorem uE(fn:FuncId)(tmps:Array Value)(ps:Array Tmp)(assign body:Code)(w:World):(Instr.enterLoop fn tmps ps assign body (fz none).round).run P w=.ok (w.heap.size+1,[{target:=.collected w.heap.size,args:=#[]}]) ((w.alloc (.deferred (some []))).alloc (.loop {state:=.ready,pending:=none,fn,tmps,params:=ps,assign,body,defers:=w.heap.size})):=run_enterLoop_outer fn tmps ps assign body
theorem Yg(w:World)(o:Go.Obj):(w.alloc o).heap[w.heap.size]?=some o:=World.alloc_heap_new w o
theorem tF{cx:Cx}{s:St}{a:Act}{E:AH}(r:A5 P cx s a E)(fn:FuncId)(ps:Array Tmp)(assign body:Code):∃E2,E2.w=(E.w.alloc (.deferred (some []))).alloc (.loop {state:=.ready,pending:=none,fn,tmps:=a.tmps,params:=ps,assign,body,defers:=E.w.heap.size})∧Bv E E2 []∧E2.loc (s.nx+1)=some {b:=E.w.heap.size+1}∧A5 P cx ⟨s.nt,s.tmps,(s.nx+1,.lrec s.nt s.tmps ps.toList assign body .ready .no)::(s.nx,.dfb)::s.objs,s.nx+2,.mark s.nx::s.df,s.nt::s.wr,(s.nx+1)::s.nx::s.di,s.mv⟩ {a with defers:={target:=.collected E.w.heap.size,args:=#[]}::a.defers} E2:=by
 have nG:=r.fresh s.nx (zB _);have p1:=AC.push r.good (w:=E.w.alloc (.deferred (some []))) (l:=s.nx) (L:={b:=E.w.heap.size}) (o:=.dfb) nG (ZAe E.w _ none) (Yg E.w _) λ_=>zB _;have Hk:(E.setL (E.w.alloc (.deferred (some []))) s.nx {b:=E.w.heap.size}).loc (s.nx+1)=none:=by rw[BZ _ _ _ (by omega)];exact r.fresh _ (by omega)
 generalize Ll:E.setL (E.w.alloc (.deferred (some []))) s.nx {b:=E.w.heap.size}=E1 at p1 Hk;have hw1:E1.w=E.w.alloc (.deferred (some [])):=by rw[←Ll];rfl
 have Ae:E1.w.heap.size=E.w.heap.size+1:=by rw[hw1];simp
 have hx1:Bv E E1 []:=p1.2.ext;have hgr:=ZAe E1.w (.loop {state:=.ready,pending:=none,fn,tmps:=a.tmps,params:=ps,assign,body,defers:=E.w.heap.size}) none;have Cw:=OW p1.1 {b:=E1.w.heap.size} Hk hgr;have p2:=AC.push p1.1 (w:=E1.w.alloc (.loop {state:=.ready,pending:=none,fn,tmps:=a.tmps,params:=ps,assign,body,defers:=E.w.heap.size})) (l:=s.nx+1) (L:={b:=E1.w.heap.size}) (o:=.lrec s.nt s.tmps ps.toList assign body .ready .no) Hk hgr ⟨_,Yg E1.w _,r.size,λt=>((r.rep t).mono hx1).mono Cw,rfl,rfl,rfl,rfl,rfl⟩ λ_=>zB _;refine⟨_,by rw[←hw1];rfl,?_,by rw[Bi,Ae],p2.1,λl hl=>?_,(r.step.trans p1.2).trans p2.2,by show cx.E.w.drawn≤(E1.w.alloc _).drawn;rw[hw1];exact r.drawn,r.size,?_,λt=>((r.rep t).mono hx1).mono Cw⟩;·simpa using hx1.trans Cw
 ·have hl:s.nx+2≤l:=hl;rw[BZ _ _ _ (by omega),←Ll,BZ _ _ _ (by omega)];exact r.fresh l (by omega)
 ·exact⟨_,_,rfl,⟨_,by rw[BZ _ _ _ (by omega),←Ll];exact Bi _ _ _ _,rfl⟩,(r.df.ext hx1).ext Cw⟩
theorem tE{l:Nat}{k:Exit→St→Prop}{cx:Cx}{s:St}{a:Act}{E:AH}{b:Nat}{R:DV}(h:VB l k s)(r:A5 P cx s a E)(hl:l∉s.mv→E.loc l=some {b:=b})(hk:∀e s' a' w',AR s s'→k e s'→Av P cx s' a' w'→R e a' w'):rangePost (fz none) 0 P b R a (.returned undef) E.w:=by
 obtain⟨nt,tmps,objs,nx,df,wr,di,mv⟩:=s;unfold VB at h;simp only at h;split at h;·exact h.elim
 ·rename_i hm;have hL:=hl λA9=>by rw[Eg.2 A9]at hm;cases hm
  split at h
  ·rename_i nt1 RC ps1 as1 bo1 st j ho;obtain⟨K,hK,hat⟩:=r.good.at_ l _ ho;rw[hL]at hK;cases hK;obtain⟨q,q1,q2,q3,q4,q5,q6,q7,q8⟩:=hat;have AY:b<E.w.heap.size:=(Array.getElem?_eq_some_iff.1 q1).1;have hgr:E.w.grownBy (E.w.putObj b (.loop {q with state:=.exhausted})) (some b):=ZDL _ _ _;have hp:=AC.put r.good (mv:=false) (o':=.dead) (L':={b:=b}) ho hL hgr (λb' e=>by cases e;exact⟨trivial,rfl⟩) (λ_=>rfl) trivial λh=>h.elim;have mQ:st≠.busy→q.state≠.busy:=λh e=>h (q7▸e);have Hs:Av P cx ⟨nt,tmps,(l,.dead)::objs,nx,df,wr,l::di,mv⟩ a (E.w.putObj b (.loop {q with state:=.exhausted})):=by
    refine⟨_,rfl,hp.1,λk hk=>?_,r.step.trans hp.2,r.drawn,r.size,r.df.ext hp.2.ext,λt=>(r.rep t).mono hp.2.ext⟩;by_cases e:k=l;·subst e;have :=r.fresh k hk;rw[hL]at this;cases this
    ·rw[BZ _ _ _ e];exact r.fresh k hk
   have hinv:AR ⟨nt,tmps,objs,nx,df,wr,di,mv⟩ ⟨nt,tmps,(l,.dead)::objs,nx,df,wr,l::di,mv⟩:=⟨rfl,zB _,λ_ h=>h,λ_ h=>zD _ h,λ_ h=>h,λ_ _=>rfl,λk hk=>by simp only[zO,ZAX]at hk;simp only;rw[Ay,yP (ZAM hk.1)],λ_=>rfl⟩;split at h;·exact h.elim
   ·rename_i BJ;refine⟨j.code,_,by rw[←q8];exact run_endLoop q1 (mQ λe=>BJ e),?_⟩;cases j with|no=>exact hk _ _ _ _ hinv h Hs|ret=>exact wpIn_ret (hk _ _ _ _ hinv h Hs)|exit i=>exact wpIn_exit (hk _ _ _ _ hinv h Hs)
  ·exact h.elim
end
section
variable {P : Program} {τ : Ad} {κ : Ar} {φ : Nat → Option FX}
theorem dR{r:Option Nat}{cx:Cx}{R:DV}{c:Code}{body:St→(Exit→St→Prop)→Prop}{k:Exit→St→Prop}(hb:∀(s:St)(k:Exit→St→Prop)(R:DV),body s k→∀a w,Av P cx s a w→(∀e s' a' w',AR s s'→k e s'→Av P cx s' a' w'→R e a' w')→c.wpIn (fz r) 0 P R a w):∀(n:Nat)(s:St),Vp body n s k→∀a w,Av P cx s a w→(∀e s' a' w',AR s s'→k e s'→Av P cx s' a' w'→R e a' w')→H3 (fz r) P c R a w|0,_,h,_,_,_,_=>h.elim|n+1,s,h,a,w,hr,hk=>H3.round (hb s _ _ h a w hr λe s' a' w' hi hq hr'=>by cases e with|normal=>exact dR hb n s' hq a' w' hr' λe s'' a'' w'' hi' hq' hr''=>hk e s'' a'' w'' (hi.trans hi') hq' hr''|_=>exact hk _ s' a' w' hi hq hr')
theorem sF(ops:Array Oper):ops.toList.map some=(List.range ops.size).map λi=>ops[i]?:=by
 apply ZAZ;intro j;simp only[ZAI,ZAR];by_cases h:j<ops.size;·rw[ZCG h];simp[h]
 ·rw[ZAW (by simp;omega),ZCV (by omega)];rfl
theorem iB(hτ:A6 P τ)(hκ:A3 P κ)(hφ:∀g fi,φ g=some fi→fi.Ok P g){D:DT}(hD:RO P D){run:EG}(hrun:CM P run){A:An}{Y:List (Nat×An)}{r:Option Nat}{cx:Cx}:∀(c:Code)(b:Nat)(s:St)(k:Exit→St→Prop)(R:DV),EH τ κ φ D run A Y r.isSome b c s k→∀a w,Av P cx s a w→(∀e s' a' w',AR s s'→k e s'→Av P cx s' a' w'→R e a' w')→c.wpIn (fz r) 0 P R a w:=by intro c;induction c with
 |skip=>intro b s k R h a w hr hk;exact wpIn_skip (hk _ s a w (.refl s) h hr)|label l=>intro b s k R h a w hr hk;exact wpIn_label (hk _ s a w (.refl s) h hr)|ret=>intro b s k R h a w hr hk;exact wpIn_ret (hk _ s a w (.refl s) h hr)|exit i=>intro b s k R h a w hr hk;exact wpIn_exit (hk _ s a w (.refl s) h hr)|goto l=>intro b s k R h a w hr hk;exact h.elim|refuse l=>intro b s k R h a w hr hk;exact h.elim|region id ops dr=>intro b s k R h a w hr hk;simp only[EH]at h;obtain⟨s1,hi1,hr1,h⟩:=Li h hr;cases dr with|false=>simp only at h;refine wpIn_region ?_;have :=Us (Q:=R) hτ hκ (eO (r:=r) (cx:=cx) hτ hφ hrun) (is:=List.range ops.size) (sF ops) h hr1 λs' a' w' hi hq hr'=>hk _ s' a' w' (hi1.trans hi) hq hr';exact this|true=>exact hD _ id ops s1 _ cx r R (eO hτ hφ hrun) h a w hr1 λs' a' w' hi hq hr'=>hk _ s' a' w' (hi1.trans hi) hq hr'
 |seq c d ihc ihd=>
  intro b s k R h a w hr hk;simp only[EH]at h;split at h;·refine wpIn_seq (ihc b s _ _ h a w hr λe s' a' w' hi hq hr'=>?_);cases e with|normal=>exact ihd b s' k R hq a' w' hr' λe s'' a'' w'' hi' hq' hr''=>hk e s'' a'' w'' (hi.trans hi') hq' hr''|_=>exact hk _ s' a' w' hi hq hr'
  ·rename_i la Ys;refine wpIn_seq (ihc b s.clr _ _ h a w (Wi hr) λe s' a' w' hi hq hr'=>?_);have hd:Hd la s s':=(Hd.clr la s).inv hi;have HM:∀l∈s.mv,l∈s'.mv:=λl hl=>hi.mv l (by rw[hZ];exact hl);cases e with
   |normal=>
    simp only at hq;split at hq;·rename_i y hy;have N2:=Rm hr hd hy hr';exact ihd b _ k R hq a' w' (RX N2) λe s'' a'' w'' hi' hq' hr''=>hk e s'' a'' w'' ((RW (Hd.head la s y) Yf).trans hi') hq' hr''
    ·exact hq.elim|_=>exact hk _ _ a' w' (RW hd HM) hq (RX hr')
 |cond x c d ihc ihd=>
  intro b s k R h a w hr hk;simp only[EH]at h;split at h;·rename_i v hv;obtain⟨E,rfl,r1⟩:=id hr;have rx:=In r1.rep x;rw[hv]at rx;cases v with|true=>exact wpIn_cond rx.bool_inv (ihc b s k R h a _ hr hk)|false=>exact wpIn_cond rx.bool_inv (ihd b s k R h a _ hr hk)
  ·exact h.elim|block id c ih=>intro b s k R h a w hr hk;simp only[EH]at h;refine wpIn_block (ih id s _ _ h a w hr λe s' a' w' hi hq hr'=>?_);cases e with
  |exit i=>
   simp only at hq;simp only[Exit.inBlock];split at hq;·rename_i e;rw[yS (yW e)];exact hk _ s' a' w' hi hq hr'
   ·rename_i e;rw[yP (ZAt e)];exact hk _ s' a' w' hi hq hr'|_=>exact hk _ s' a' w' hi hq hr'
 |scope c ih=>intro b s k R h a w hr hk;simp only[EH]at h;refine gP (ih b s _ _ h a w hr λe s' a' w' hi hq hr'=>?_);cases e with|goto l=>exact hq.elim|_=>exact hk _ s' a' w' hi hq hr'
 |loop c ih=>
  intro b s k R h a w hr hk;simp only[EH]at h;split at h;·exact h.elim
  ·rename_i sg ZF;replace hk:∀e s' a' w',AR sg s'→k e s'→Av P cx s' a' w'→R e a' w':=λe s' a' w' hi=>hk e s' a' w' ((AR.ghosts ZF).trans hi);replace hr:=X7 ZF a w hr;split at h
   ·split at h;·rename_i n hn;exact(dR (λs k R h a w hr hk=>ih b s k R h a w hr hk) n sg h a w hr hk).loop
    ·exact h.elim
   ·rename_i la Ys;have N1:=Ou (P:=P) (cx:=cx) la.vs sg a w hr;have hi0:=AR.frzVs la.vs sg;revert h N1 hi0;generalize frzVs la.vs sg=s0;intro h N1 hi0;split at h;·exact h.elim
    ·rename_i y0 pZ;have JR:Av P cx (head la s0 y0) a w:=Rm N1 (Hd.clr la s0) pZ (Wi N1);refine H3.loop (h (λy=>∀a w,Av P cx (head la s0 y) a w→H3 (fz r) P c R a w) (λy hy a w hr=>H3.round (ih b _ _ _ hy a w hr λe s' a' w' hi hq hr'=>?_)) a w JR);have hd:Hd la s0 s':=(Hd.head la s0 y).inv hi;have HM:∀l∈s0.mv,l∈s'.mv:=λl hl=>hi.mv l (Yf l hl);cases e with
     |normal=>
      simp only at hq;split at hq;·rename_i y' hy';exact hq a' w' (Rm N1 hd hy' hr')
      ·exact hq.elim|_=>exact hk _ _ a' w' (hi0.trans (RW hd HM)) hq (RX hr')
 |rangeFunc g ps assign body=>
  intro b s k R h a w hr hk;simp only[EH]at h;split at h;·exact h.elim
  ·rename_i JV;have oV:r=none:=by cases r with|none=>rfl|some _=>cases JV
   subst oV;obtain⟨nt,tmps,objs,nx,df,wr,di,mv⟩:=s;simp only at h;obtain⟨E,rfl,r1⟩:=hr;refine wpIn_rangeFunc λfn _=>?_;obtain⟨E2,e1,e2,e3,r2⟩:=tF r1 fn ps assign body;have rg:Z P E2 (Af tmps g) (a.eval g):=(In r1.rep g).mono e2;have ry:AS P E2 [.yl (nx+1)] [.func (.yield (E.w.heap.size+1)) #[] #[]]:=.cons (.yl e3) .nil;obtain⟨gf,p,q,f1,f2,f3⟩:=WY hτ hφ hrun h r2 rg ry;rw[e1]at f3;refine⟨E.w.heap.size+1,_,_,⟨.fn (.func gf) q,p++#[.func (.yield (E.w.heap.size+1)) #[] #[]]⟩,(E.w.alloc (.deferred (some []))).alloc (.loop {state:=.ready,pending:=none,fn,tmps:=a.tmps,params:=ps,assign,body,defers:=E.w.heap.size}),gf,p++#[.func (.yield (E.w.heap.size+1)) #[] #[]]++q,(E.w.alloc (.deferred (some []))).alloc (.loop {state:=.ready,pending:=none,fn,tmps:=a.tmps,params:=ps,assign,body,defers:=E.w.heap.size}),uE fn a.tmps ps assign body E.w,?_,λ_ _=>trivial,?_,λh=>by simp[fz,Fence.wide]at h,?_⟩;·show(Deferred.ofValue (a.eval g) _).run P _=_;rw[f1];simp[rangeCall,Deferred.ofValue,show∀c,a.eval (.const c)=c from λ_=>rfl]
   ·simp only[invoke];exact Rq f2 _ _
   ·have f3':=λR hR=>f3 R hR;simp only[List.toArray]at f3';refine f3' _ λu v s3 E' hi hq hr' _ hx=>?_;refine tE hq hr' (λhm=>?_) λe s' a' w' hi' hq' hr''=>hk e s' a' w' ?_ hq' hr'';·exact hx _ _ hm e3
    ·refine AR.trans ?_ (hi.trans hi');exact⟨rfl,by simp only;omega,λ_ h=>zD _ h,λ_ h=>zD _ (zD _ h),λ_ h=>h,λ_ _=>rfl,λk hk=>by simp only[zO,ZAX]at hk;simp only;rw[Ay,yP (ZAM hk.1),Ay,yP (ZAM hk.2.1)],λhn=>by simp at hn⟩
def VV(τ:Ad)(κ:Ar)(φ:Nat→Option FX)(D:DT):Nat→EG|0,_,_,_,_,_,_=>False|n+1,A,Y,ro,c,s,k=>EH τ κ φ D (VV τ κ φ D n) A Y ro 0 c s k
theorem bY(hτ:A6 P τ)(hκ:A3 P κ)(hφ:∀g fi,φ g=some fi→fi.Ok P g){D:DT}(hD:RO P D):∀n,CM P (VV τ κ φ D n)|0=>λ_ _ _ _ _ _ _ _ h=>h.elim|n+1=>λA Y r c s k cx R h a w hr hk=>iB hτ hκ hφ hD (bY hτ hκ hφ hD n) c 0 s k R h a w hr hk
end
section
variable {P : Program} {τ : Ad} {κ : Ar} {φ : Nat → Option FX}
def Fu(τ:Ad)(run:EG)(A:An)(fi:FI)(ps:List PS)(rs:List Ty)(xs:B9 ps)(Q:BR rs→Prop):Prop:=match fi with|⟨nt,res,code⟩=>match CL ps xs with|vs=>match Nat.ble vs.length nt with|false=>False|true=>run A [] false code ⟨nt,H4 0 vs,[],0,[],[],[],[]⟩ λe s=>match MQ e with|false=>False|true=>match KL τ res s with|none=>False|some (v,s2)=>match Je 9 s2.objs [v]with
 |some ([v'],_)=>match Mm rs v' with|some r=>Q r|none=>False
 |_=>False
def NI(τ:Ad)(run:EG)(A:An)(fi:FI)(ps:List PS)(xs:B9 ps)(Q:V→Prop):Prop:=match fi with|⟨nt,res,code⟩=>match CL ps xs with|vs=>match Nat.ble vs.length nt with|false=>False|true=>run A [] false code ⟨nt,H4 0 vs,[],0,[],[],[],[]⟩ λe s=>match MQ e with|false=>False|true=>match KL τ res s with|none=>False|some (v,s2)=>match Je 9 s2.objs [v]with|some ([v'],_)=>Q v'|_=>False
theorem TC{w:World}{S:Nat→Prop}(hS:DW P w S):AC P ⟨w,S,λ_=>none⟩ []:=⟨λl o h=>(by cases h),λb h=>(by obtain⟨l,o,L,h,_⟩:=h;cases h),hS.lt,hS.tab,λi j o o' L L' h=>by cases h⟩
theorem Xs(hτ:A6 P τ){run:EG}(hrun:CM P run){A:An}{f:FuncId}{fi:FI}(hok:fi.Ok P f){ps:List PS}{rs:List Ty}{xs:B9 ps}{Q:BR rs→Prop}(h:Fu τ run A fi ps rs xs Q){w:World}{S:Nat→Prop}(hS:DW P w S){args:Array Value}(ra:AS P ⟨w,S,λ_=>none⟩ (CL ps xs) args.toList):Calls P f args w λe w2=>∃v S2 r,e=.returned v∧G0 w S w2 S2∧Z P ⟨w2,S2,λ_=>none⟩ (AL rs r) v∧Q r:=by
 obtain⟨nt,res,code⟩:=fi;obtain⟨fn,h1,h2,h3,h4,h5⟩:=id hok;unfold Fu at h;simp only at h h3 h4;split at h;·exact h.elim
 ·rename_i hlen;have g0:AC P ⟨w,S,λ_=>none⟩ []:=TC hS;have Hs:=Sk (nx:=0) (nt:=nt) g0 (λ_ _=>rfl) ra (zW hlen);have hin:CallsIn (fz none) 0 P f args w λe w2=>∃v S2 r,e=.returned v∧G0 w S w2 S2∧Z P ⟨w2,S2,λ_=>none⟩ (AL rs r) v∧Q r:=by
   refine ZCs h1 h2 trivial ?_;rw[h3];refine hrun A [] none code _ _ ⟨⟨w,S,λ_=>none⟩,[]⟩ _ h _ w Hs λe s1 a1 w1 hi hk hr1=>?_;have fin:MQ e=true→LeavesInM (fz none) 0 P fn a1.tmps (λe w2=>∃v S2 r,e=.returned v∧G0 w S w2 S2∧Z P ⟨w2,S2,λ_=>none⟩ (AL rs r) v∧Q r) a1.defers .returning w1:=λhe=>by
    rw[he]at hk;simp only at hk;split at hk;·exact hk.elim
    ·rename_i v s2 hf;split at hk
     ·rename_i v' ks hl;split at hk
      ·rename_i r hr;refine UX hτ (fi:=⟨nt,res,code⟩) h4 hf hr1 λu E' haft hu=>?_;have CQ:∀b,¬Cd ⟨w,S,λ_=>none⟩ [] b:=λb h=>by obtain⟨l,o,L,h,_⟩:=h;cases h
       obtain⟨S',k1,k2,_,k4,k5,k6⟩:=QV hl haft.good (.cons hu .nil);have st:=haft.step;refine⟨u,S',r,rfl,⟨haft.drawn,st.os,st.tape,st.output,st.size,λb hb=>st.frame b hb (CQ b),λb hb=>k1 b (st.ext.S b hb).1,λb hb=>?_,k2⟩,bS (dV hr k5.head),hk⟩;rcases k6 b hb with h|h
       ·rcases st.st b h with h|h|h;·exact .inl h
        ·exact .inr h
        ·exact absurd h (CQ b)
       ·rcases st.own b h with h|h;·exact .inr h
        ·exact absurd h (CQ b)
      ·exact hk.elim
     ·exact hk.elim
   cases e with|normal=>exact fin rfl|ret=>exact fin rfl|_=>exact hk.elim
  exact callsIn_wide.1 hin
theorem kY(hτ:A6 P τ){run:EG}(hrun:CM P run){A:An}{f:FuncId}{fi:FI}(hok:fi.Ok P f){ps:List PS}{xs:B9 ps}{Q:V→Prop}(h:NI τ run A fi ps xs Q){w:World}{S:Nat→Prop}(hS:DW P w S){args:Array Value}(ra:AS P ⟨w,S,λ_=>none⟩ (CL ps xs) args.toList):Calls P f args w λe w2=>∃v S2 r,e=.returned v∧G0 w S w2 S2∧Z P ⟨w2,S2,λ_=>none⟩ r v∧Q r:=by
 obtain⟨nt,res,code⟩:=fi;obtain⟨fn,h1,h2,h3,h4,h5⟩:=id hok;unfold NI at h;simp only at h h3 h4;split at h;·exact h.elim
 ·rename_i hlen;have g0:AC P ⟨w,S,λ_=>none⟩ []:=TC hS;have Hs:=Sk (nx:=0) (nt:=nt) g0 (λ_ _=>rfl) ra (zW hlen);have hin:CallsIn (fz none) 0 P f args w λe w2=>∃v S2 r,e=.returned v∧G0 w S w2 S2∧Z P ⟨w2,S2,λ_=>none⟩ r v∧Q r:=by
   refine ZCs h1 h2 trivial ?_;rw[h3];refine hrun A [] none code _ _ ⟨⟨w,S,λ_=>none⟩,[]⟩ _ h _ w Hs λe s1 a1 w1 hi hk hr1=>?_;have fin:MQ e=true→LeavesInM (fz none) 0 P fn a1.tmps (λe w2=>∃v S2 r,e=.returned v∧G0 w S w2 S2∧Z P ⟨w2,S2,λ_=>none⟩ r v∧Q r) a1.defers .returning w1:=λhe=>by
    rw[he]at hk;simp only at hk;split at hk;·exact hk.elim
    ·rename_i v s2 hf;split at hk
     ·rename_i v' ks hl
      ·refine UX hτ (fi:=⟨nt,res,code⟩) h4 hf hr1 λu E' haft hu=>?_;have CQ:∀b,¬Cd ⟨w,S,λ_=>none⟩ [] b:=λb h=>by obtain⟨l,o,L,h,_⟩:=h;cases h
       obtain⟨S',k1,k2,_,k4,k5,k6⟩:=QV hl haft.good (.cons hu .nil);have st:=haft.step;refine⟨u,S',v',rfl,⟨haft.drawn,st.os,st.tape,st.output,st.size,λb hb=>st.frame b hb (CQ b),λb hb=>k1 b (st.ext.S b hb).1,λb hb=>?_,k2⟩,Wh (E:=⟨E'.w,S',E'.loc⟩) (E':=⟨E'.w,S',λ_=>none⟩) (λb hb=>⟨hb,rfl⟩) k5.head (by simp only[CZ]at k4;split at k4<;>first|(cases k4;done)|assumption),hk⟩;rcases k6 b hb with h|h
       ·rcases st.st b h with h|h|h;·exact .inl h
        ·exact .inr h
        ·exact absurd h (CQ b)
       ·rcases st.own b h with h|h;·exact .inr h
        ·exact absurd h (CQ b)
     ·exact hk.elim
   cases e with|normal=>exact fin rfl|ret=>exact fin rfl|_=>exact hk.elim
  exact callsIn_wide.1 hin
def Jd:(T:Ty)→T.den→Prop|.sl t,l=>List.length (α:=t.den) l≤9223372036854775807∧∀x∈(l:List t.den),Jd t x|.pair a b,x=>Jd a x.1∧Jd b x.2|_,_=>True
def Kr:(ps:List PS)→B9 ps→Prop|[],_=>True|.d T::l,x=>Jd T x.1∧Kr l x.2|.e T::l,x=>Jd T x.1∧Kr l x.2|.f _ _::l,x=>Kr l x.2
theorem My{w:World}{S:Nat→Prop}:∀{T:Ty}{x:T.den}{cs:List Value},BE w S T x cs→Jd T x|.int _,_,_,_=>trivial|.bool,_,_,_=>trivial|.str,_,_,_=>trivial|.unit,_,_,_=>trivial|.pair a b,x,cs,⟨c1,c2,_,h1,h2⟩=>⟨My h1,My h2⟩|.sl t,l,cs,⟨a,c,_,hc,hl⟩=>⟨zV hc.1 hc.2,λx hx=>by
 obtain⟨i,hi⟩:=ZBl hx;obtain⟨b,off,_,_,h⟩:=hl λe=>by subst e;simp at hi
 obtain⟨cs',h1,_⟩:=h i x hi;exact My h1⟩
theorem Pj{E:AH}:∀{T:Ty}{x:T.den},(∀v∈FL T x,∃c,Z P E v c)→Jd T x|.int _,_,_=>trivial|.bool,_,_=>trivial|.str,_,_=>trivial|.unit,_,_=>trivial|.pair a b,x,h=>⟨Pj λv hv=>h v (ZAq _ hv),Pj λv hv=>h v (ZAj _ hv)⟩|.sl t,l,h=>by obtain⟨c,hc⟩:=h (.d (.sl t) l) (by simp[FL]);exact My (T:=.sl t) (Jq hc)
theorem tY{E:AH}{vs:List V}{cs:List Value}(r:AS P E vs cs){v:V}(hv:v∈vs):∃c,Z P E v c:=by obtain⟨i,hi⟩:=ZBl hv;have AY:=(List.getElem?_eq_some_iff.1 hi).1;have :=r.2 i AY;rw[yT,hi]at this;exact⟨_,this⟩
theorem gO{E:AH}:∀{T:Ty}{x:T.den}{c:Value},Z P E (Gj T x) c→Jd T x|.pair a b,x,c,r=>by obtain⟨ca,rfl,rs⟩:=WD (show Z P E (.agg (FL (.pair a b) x)) c from r);exact Pj λv hv=>tY rs hv|.int _,_,_,_=>trivial|.bool,_,_,_=>trivial|.str,_,_,_=>trivial|.unit,_,_,_=>trivial|.sl t,l,c,r=>My (T:=.sl t) (Jq r)
theorem On{E:AH}:∀{ps:List PS}{xs:B9 ps}{cs:List Value},AS P E (CL ps xs) cs→Kr ps xs
 |[],_,_,_=>trivial|.d T::l,x,c::cs,r=>⟨gO r.head,On r.tail⟩|.d T::l,x,[],r=>absurd r.1 (by simp[CL])|.e T::l,x,c::cs,r=>by refine⟨?_,On r.tail⟩;have h:Z P E (.er (FL T x.1)) c:=r.head;cases h with|er f _ _ hr=>refine Pj (P:=P) (E:=E) λv hv=>?_;obtain⟨i,hi⟩:=ZBl hv;have AY:=(List.getElem?_eq_some_iff.1 hi).1;have :=hr i AY;rw[yT,hi]at this;exact⟨_,this⟩
 |.e T::l,x,[],r=>absurd r.1 (by simp[CL])|.f _ _::l,x,c::cs,r=>On (ps:=l) r.tail|.f _ _::l,x,[],r=>absurd r.1 (by simp[CL])
theorem iF(hτ:A6 P τ){run:EG}(hrun:CM P run){A:An}{f:FuncId}{fi:FI}(hok:fi.Ok P f){ps:List PS}{rs:List Ty}{pre:Option (B9 ps→Prop)}{fn:B9 ps→BR rs}(h:∀xs,Kr ps xs→A0 (AM.ob ⟨ps,pre,λxs=>AL rs (fn xs)⟩ xs)→Fu τ run A fi ps rs xs λr=>r=fn xs):AN P f ⟨ps,pre,λxs=>AL rs (fn xs)⟩:=⟨hok.call,λw S xs hS hp args ra=>ZAh (Xs hτ hrun hok (h xs (On ra) hp) hS ra) λe w2⟨v,S2,r,h1,h2,h3,h4⟩=>⟨v,S2,h1,h2,by subst h4;exact h3⟩⟩
theorem Wr(hτ:A6 P τ){run:EG}(hrun:CM P run){A:An}{f:FuncId}{fi:FI}(hok:fi.Ok P f){c:AM}(h:∀xs,Kr c.ps xs→A0 (c.ob xs)→NI τ run A fi c.ps xs λr=>r=c.res xs):AN P f c:=⟨hok.call,λw S xs hS hp args ra=>ZAh (kY hτ hrun hok (h xs (On ra) hp) hS ra) λe w2⟨v,S2,r,h1,h2,h3,h4⟩=>⟨v,S2,h1,h2,by subst h4;exact h3⟩⟩
end
section
variable {P : Program} {τ : Ad} {κ : Ar} {φ : Nat → Option FX}
def ZU(n:Nat)(l:List Nat):List Nat:=match Be n l with|true=>l|false=>n::l
def LG:List Nat→List Nat→List Nat|[],l=>l|n::r,l=>LG r (ZU n l)
def Bx(i:Nat)(T:List (Nat×List Nat)):List Nat:=match Hg i T with|some l=>l|none=>[]
def SJ(T:List (Nat×List Nat)):List Edge→List Nat|[]=>[]|e::r=>match Region.binds .any e with|true=>ZU e.on (LG (Bx e.on T) (SJ T r))|false=>SJ T r
def bE:Nat→List Oper→List (Nat×List Nat)→List (Nat×List Nat)|_,[],T=>T|i,⟨_,_,_,_,af,_⟩::r,T=>match SJ T af.toList with|l=>bE (i+1) r ((i,l)::T)
def KB(T:List (Nat×List Nat))(j:Nat):List Edge→Bool|[]=>false|e::r=>match Region.binds .any e with
 |true=>match Nat.beq e.on j with|true=>true|false=>match Be j (Bx e.on T)with|true=>true|false=>KB T j r
 |false=>KB T j r
def LN(T:List (Nat×List Nat))(af:List Edge)(i:Nat):List Nat→Bool|[]=>true|j::r=>match KB T j af with
 |true=>match Nat.blt j i with|true=>LN T af i r|false=>false
 |false=>false
def Kn(ps:List Nat):List Edge→Bool|[]=>true|e::r=>match Region.binds .any e with
 |true=>match Be e.on ps with|true=>Kn ps r|false=>false
 |false=>Kn ps r
def OV(T:List (Nat×List Nat)):Nat→List Oper→Bool|_,[]=>true|i,⟨_,_,_,_,af,_⟩::r=>match Bx i T with|ps=>match Kn ps af.toList with
 |true=>match LN T af.toList i ps with|true=>OV T (i+1) r|false=>false
 |false=>false
theorem UL{ps:List Nat}:∀{l:List Edge},Kn ps l=true→∀e∈l,Region.binds .any e=true→e.on∈ps
 |[],_,e,h,_=>by simp at h|e::r,h,e',he,hb=>by
  simp only[Kn]at h;split at h
  ·split at h
   ·rename_i h1;rcases List.mem_cons.1 he with rfl|he;·exact Eg.1 h1
    ·exact UL h e' he hb
   ·cases h
  ·rename_i h0;rcases List.mem_cons.1 he with rfl|he;·rw[hb]at h0;cases h0
   ·exact UL h e' he hb
theorem WH{T:List (Nat×List Nat)}{j:Nat}:∀{l:List Edge},KB T j l=true→∃e∈l,Region.binds .any e=true∧(e.on=j∨j∈Bx e.on T)
 |[],h=>by cases h|e::r,h=>by
  simp only[KB]at h;have rec':KB T j r=true→∃e'∈e::r,Region.binds .any e'=true∧(e'.on=j∨j∈Bx e'.on T):=λh=>by obtain⟨e',h1,h2⟩:=WH h;exact⟨e',zD _ h1,h2⟩
  split at h
  ·rename_i hb;split at h;·rename_i h1;exact⟨e,by simp,hb,.inl (yW h1)⟩
   ·split at h;·rename_i h1;exact⟨e,by simp,hb,.inr (Eg.1 h1)⟩
    ·exact rec' h
  ·exact rec' h
theorem RY{T:List (Nat×List Nat)}{af:List Edge}{i:Nat}:∀{l:List Nat},LN T af i l=true→∀j∈l,KB T j af=true∧j<i
 |[],_,j,h=>by simp at h|k::r,h,j,hj=>by
  simp only[LN]at h;split at h
  ·rename_i h1;split at h
   ·rename_i h2;rcases List.mem_cons.1 hj with rfl|hj;·exact⟨h1,zW h2⟩
    ·exact RY h j hj
   ·cases h
  ·cases h
structure PT(ops:Array Oper)(T:List (Nat×List Nat)):Prop where
 lt:∀i j,i<ops.size→j∈Bx i T→j<i
 edge:∀i o e,ops[i]?=some o→e∈o.after→Region.binds .any e=true→e.on∈Bx i T
 back:∀i o j,ops[i]?=some o→j∈Bx i T→∃e∈o.after,Region.binds .any e=true∧(e.on=j∨j∈Bx e.on T)
theorem bD{T:List (Nat×List Nat)}:∀{l:List Oper}{i j:Nat}{o:Oper},OV T i l=true→l[j]?=some o→Kn (Bx (i+j) T) o.after.toList=true∧LN T o.after.toList (i+j) (Bx (i+j) T)=true
 |[],_,_,_,_,h=>by simp at h|⟨_,_,_,_,af,_⟩::r,i,j,o,h,hj=>by
  simp only[OV]at h;split at h
  ·rename_i h1;split at h;·rename_i h2;cases j with|zero=>simp at hj;subst hj;exact⟨h1,h2⟩|succ j=>have :=bD (j:=j) h (by simpa using hj);rw[show i+1+j=i+(j+1)from by omega]at this;exact this
   ·cases h
  ·cases h
theorem PT.of{ops:Array Oper}{T:List (Nat×List Nat)}(h:OV T 0 ops.toList=true):PT ops T:=by
 have get:∀i o,ops[i]?=some o→Kn (Bx i T) o.after.toList=true∧LN T o.after.toList i (Bx i T)=true:=λi o hi=>by have :=bD (i:=0) (j:=i) h (by simpa using hi);simpa using this
 refine⟨λi j hi hj=>?_,λi o e hi he hb=>UL (get i o hi).1 e (Array.mem_toList_iff.2 he) hb,λi o j hi hj=>?_⟩;·exact(RY (get i ops[i] (ZAN hi)).2 j hj).2
 ·obtain⟨e,h1,h2,h3⟩:=WH (RY (get i o hi).2 j hj).1;exact⟨e,Array.mem_toList_iff.1 h1,h2,h3⟩
structure Rc where
 i:Nat
 dst:Option Nat
 v:V
 ed:AF
 ks:List Nat
def Jc:AF→List Nat|[]=>[]|(l,_)::r=>l::Jc r
theorem Lf{l:Nat}:∀{a b:AF},AA l (a++b)=match AA l a with|some o=>some o|none=>AA l b
 |[],_=>rfl|(k,o)::r,b=>by
  rw[ZA1,Ay,Ay];split;·rfl
  ·exact Lf
theorem OD{l:Nat}{o:Obj}:∀{a:AF},AA l a=some o→l∈Jc a
 |[],h=>by cases h|(k,p)::r,h=>by
  rw[Ay]at h;split at h;·rename_i e;simp[Jc,e]
  ·exact zD _ (OD h)
def Rc.app(r:Rc)(s:St):St:=match r,s with|⟨_,dst,v,ed,_⟩,⟨nt,tmps,objs,nx,df,wr,di,mv⟩=>⟨nt,match dst with|some d=>(d,v)::tmps|none=>tmps,ed++objs,nx,df,match dst with|some d=>d::wr|none=>wr,Jc ed++di,mv⟩
def replay(p:Nat→Bool):List Rc→St→St|[],s=>s|r::rs,s=>replay p rs (if p r.i then r.app s else s)
def Ed(p:Nat→Bool)(t:Nat):List Rc→Option V|[]=>none|r::rs=>match Ed p t rs with|some v=>some v|none=>if p r.i=true∧r.dst=some t then some r.v else none
def Dw(p:Nat→Bool)(l:Nat):List Rc→Option Obj|[]=>none|r::rs=>match Dw p l rs with|some o=>some o|none=>if p r.i=true then AA l r.ed else none
theorem Rg{r:Rc}{s:St}{t:Nat}:AW t (r.app s).tmps=if r.dst=some t then r.v else AW t s.tmps:=by obtain⟨i,dst,v,ed,ks⟩:=r;cases s;cases dst with|none=>simp[Rc.app]|some d=>simp[Rc.app,CC]
theorem WK{r:Rc}{s:St}{l:Nat}:AA l (r.app s).objs=match AA l r.ed with|some o=>some o|none=>AA l s.objs:=by obtain⟨i,dst,v,ed,ks⟩:=r;cases s;simp only[Rc.app,Lf]
theorem Od{p:Nat→Bool}{t:Nat}:∀{R:List Rc}{s:St},AW t (replay p R s).tmps=match Ed p t R with|some v=>v|none=>AW t s.tmps
 |[],_=>rfl|r::rs,s=>by simp only[replay,Ed];rw[Od (R:=rs)];cases h:Ed p t rs with|some v=>rfl|none=>
  simp only;by_cases hp:p r.i=true
  ·rw[yS hp,Rg];by_cases hd:r.dst=some t;·rw[yS hd,yS ⟨hp,hd⟩]
   ·rw[yP hd,yP λh=>hd h.2]
  ·rw[yP hp,yP λh=>hp h.1]
theorem Oc{p:Nat→Bool}{l:Nat}:∀{R:List Rc}{s:St},AA l (replay p R s).objs=match Dw p l R with|some o=>some o|none=>AA l s.objs
 |[],_=>rfl|r::rs,s=>by simp only[replay,Dw];rw[Oc (R:=rs)];cases h:Dw p l rs with|some v=>rfl|none=>
  simp only;by_cases hp:p r.i=true;·rw[yS hp,yS hp,WK]
  ·rw[yP hp,yP hp]
theorem Qr{p:Nat→Bool}:∀{R:List Rc}{s:St},(replay p R s).nt=s.nt∧(replay p R s).nx=s.nx∧(replay p R s).df=s.df∧(replay p R s).mv=s.mv
 |[],_=>⟨rfl,rfl,rfl,rfl⟩|r::rs,s=>by
  have h:=Qr (p:=p) (R:=rs) (s:=if p r.i then r.app s else s);have e:(if p r.i then r.app s else s).nt=s.nt∧(if p r.i then r.app s else s).nx=s.nx∧(if p r.i then r.app s else s).df=s.df∧(if p r.i then r.app s else s).mv=s.mv:=by
   split;·cases s;exact⟨rfl,rfl,rfl,rfl⟩
   ·exact⟨rfl,rfl,rfl,rfl⟩
  exact⟨h.1.trans e.1,h.2.1.trans e.2.1,h.2.2.1.trans e.2.2.1,h.2.2.2.trans e.2.2.2⟩
theorem UU{p q:Nat→Bool}{l:Nat}:∀{R:List Rc},(∀r∈R,∀o,AA l r.ed=some o→p r.i=q r.i)→Dw p l R=Dw q l R|[],_=>rfl|r::rs,h=>by simp only[Dw];rw[UU (R:=rs) λr' hr'=>h r' (zD _ hr')];have h0:=h r (by simp);cases Aw:AA l r.ed with|none=>simp|some x=>rw[h0 x Aw]
theorem UV{p q:Nat→Bool}{t:Nat}:∀{R:List Rc},(∀r∈R,r.dst=some t→p r.i=q r.i)→Ed p t R=Ed q t R
 |[],_=>rfl|r::rs,h=>by
  simp only[Ed];rw[UV (R:=rs) λr' hr'=>h r' (zD _ hr')];by_cases hk:r.dst=some t;·rw[h r (by simp) hk]
  ·rw[yP λh=>hk h.2,yP λh=>hk h.2]
theorem Av.congr{cx:Cx}{s s':St}{a:Act}{E:AH}(r:A5 P cx s a E)(ht:∀t,AW t s'.tmps=AW t s.tmps)(ho:∀l,AA l s'.objs=AA l s.objs)(Tz:s'.nt=s.nt)(TX:s'.df=s.df)(HM:s'.mv=s.mv)(hf:∀l,s'.nx≤l→E.loc l=none):A5 P cx s' a E:=by
 have tr:∀l o,AA l s'.objs=some o→∃o1 L,AA l s.objs=some o1∧E.loc l=some L∧E.loc l=some L∧(∀L,o.has L→o1.has L)∧(Aj P E L o1→Aj P E L o):=λl o h=>by rw[ho]at h;obtain⟨L,hL,_⟩:=r.good.at_ l o h;exact⟨o,L,h,hL,hL,λ_ h=>h,λh=>h⟩
 exact⟨r.good.sub rfl rfl tr,hf,by rw[HM];exact r.step.swap tr λl hl=>by rw[ho]at hl;exact hl,r.drawn,by rw[Tz];exact r.size,by rw[TX];exact r.df,λt=>by rw[ht];exact r.rep t⟩
end
section
variable {P : Program} {τ : Ad} {κ : Ar} {φ : Nat → Option FX}
mutual
def V.ks:V→List Nat|.fn _ a b=>LG (Gu a) (Gu b)|.agg cs=>Gu cs|.tup cs=>Gu cs|.er cs=>Gu cs|.when _ v=>V.ks v|.opt _ v=>V.ks v|.ref k _=>[k]|.rref k _ _=>[k]|.osl k=>[k]|.osp k _ _=>[k]|.map k=>[k]|.yl k=>[k]|.bsl k _=>[k]|_=>[]
def Gu:List V→List Nat|[]=>[]|v::r=>LG (V.ks v) (Gu r)
end
def K9(objs:AF):List Nat→AF|[]=>[]|l::r=>match AA l objs with|some o=>(l,o)::K9 objs r|none=>K9 objs r
def PE(objs:AF):List Nat→List Nat|[]=>[]|l::r=>match AA l objs with|some (.box cs)|some (.vrow _ _ cs _)=>LG (Gu cs) (PE objs r)|_=>PE objs r
def LS(op:Op)(objs:AF)(ks:List Nat):List Nat:=match op with|.load ..|.fieldAddr ..|.indexAddr ..=>ks|_=>match LG (PE objs ks) ks with|k1=>LG (PE objs k1) k1
theorem VP{objs:AF}{l:Nat}{o:Obj}:∀{ks:List Nat},AA l (K9 objs ks)=some o→l∈ks∧AA l objs=some o
 |[],h=>by cases h|k::r,h=>by
  simp only[K9]at h;split at h
  ·rename_i p hp;rw[Ay]at h;split at h;·rename_i e;subst e;cases h;exact⟨by simp,hp⟩
   ·have :=VP h;exact⟨zD _ this.1,this.2⟩
  ·have :=VP h;exact⟨zD _ this.1,this.2⟩
def Oq(T:List (Nat×List Nat))(ds:List (Nat×Nat))(i:Nat)(base cur:List (Nat×V))(t:Nat):V:=match Hg t ds with|none=>AW t base|some j=>match Be j (Bx i T)with|true=>AW t cur|false=>match Nat.beq j i with|true=>AW t base|false=>match Be i (Bx j T)with|true=>AW t base|false=>.any
def GF(T:List (Nat×List Nat))(ds:List (Nat×Nat))(i:Nat)(base cur:List (Nat×V)):List Operand→List (Nat×V)|[]=>[]|.tmp t::r=>(t,Oq T ds i base cur t)::GF T ds i base cur r|_::r=>GF T ds i base cur r
theorem Vl{T:List (Nat×List Nat)}{ds:List (Nat×Nat)}{i:Nat}{base cur:List (Nat×V)}{t:Nat}:∀{l:List Operand},AW t (GF T ds i base cur l)=Oq T ds i base cur t∨AW t (GF T ds i base cur l)=.any|[]=>.inr rfl|x::r=>by cases x with
 |tmp u=>
  simp only[GF,CC];split;·rename_i e;subst e;exact .inl rfl
  ·exact Vl (l:=r)|_=>exact Vl (l:=r)
def Im(op:Op)(out:Ah):Ah:=match op with
 |.buildSlice _ (_+1) _=>match out with
  |⟨ob,.osl k,some (l,.row T xs,false)⟩=>match Nat.beq k l with|true=>⟨ob,.d (.sl T) xs,some (l,.dead,false)⟩|false=>out
  |o=>o
 |_=>out
theorem XF(op:Op)(out:Ah):(Im op out).ob=out.ob:=by
 unfold Im;split
 ·split;·split<;>rfl
  ·rfl
 ·rfl
theorem XE{r:Option Nat}{o:Oper}{a:Act}{E:AH}{objs:AF}{out:Ah}(op:Op)(h:Ih P r o a E objs out):Ih P r o a E objs (Im op out):=by
 unfold Im;split
 ·split
  ·rename_i ob k l T xs;split
   ·rename_i hk;have hk:=yW hk;subst hk;intro next Q hn;refine h next Q λE' v g st GO hv=>?_;have ho:AA k ((k,Obj.row T xs)::objs)=some (.row T xs):=by rw[Ay,yS rfl]
    obtain⟨L,hL,_⟩:=g.at_ k _ ho;obtain⟨g2,s2⟩:=g.still ho hL;have hr:=NK g ho hL rfl (v:=.osl k) rfl hv;simp only[frz,ZDn]at hr;have tr:∀l' o,AA l' ((k,Obj.dead)::objs)=some o→∃o1 L',AA l' ((k,Obj.dead)::(k,.row T xs)::objs)=some o1∧(E'.still L.b ((Obj.row T xs).has L)).loc l'=some L'∧(E'.still L.b ((Obj.row T xs).has L)).loc l'=some L'∧(∀L,o.has L→o1.has L)∧(Aj P (E'.still L.b ((Obj.row T xs).has L)) L' o1→Aj P (E'.still L.b ((Obj.row T xs).has L)) L' o):=by
     intro l' o h;have :AA l' ((k,Obj.dead)::(k,.row T xs)::objs)=some o:=by
      rw[Ay]at h⊢;split at h;·rename_i e;rw[yS e];exact h
      ·rename_i e;rw[yP e,Ay,yP e];exact h
     obtain⟨L',hL',_⟩:=g2.at_ l' o this;exact⟨o,L',this,hL',hL',λ_ h=>h,λh=>h⟩
    refine hn (E'.still L.b ((Obj.row T xs).has L)) v (g2.sub rfl rfl tr) (BF.swap (P:=P) (by simpa[moved,edit]using st.trans s2) tr λl' hl'=>?_) GO hr;obtain⟨h1,h2⟩:=Gq hl';rw[Ay,yP (ZAM h1),Ay,yP (ZAM h1)];exact h2
   ·exact h
  ·exact h
 ·exact h
def XP(op:Op)(os:AF)(n:Nat)(v:V):Option (Nat×Obj×Bool)→Option (V×AF)
 |none=>some (v,[])|some (l,o,false)=>match Nat.beq l n with|true=>some (v,[(l,o)])|false=>match AA l os with|some _=>some (v,[(l,o)])|none=>none
 |some (l,o,true)=>match op with
  |.call {callee:=.builtin .append,..}=>match o with|.row T zs=>some (.osl n,[(n,.row T zs),(l,.dead)])|_=>none
  |.call {callee:=.value _,..}=>match o with|.row T zs=>some (.osl n,[(n,.row T zs),(l,.dead)])|_=>none
  |_=>none
def Pm:List Nat→AF→List (Nat×V)→Option (List (Nat×V)×AF×AF)|[],os,tm=>some (tm,os,[])|k::r,os,tm=>match AA k os with
 |some o=>match Pm r ((k,.dead)::os) (EV (frz k o) tm)with|some (tm',os',ds)=>some (tm',os',ds++[(k,.dead)])|none=>none
 |none=>none
def Pb(τ:Ad)(κ:Ar)(op:Op)(tm:List (Nat×V))(os:AF)(n:Nat):Option (Option Prop×V×AF):=match Pm (Mj τ κ op tm os) os tm with|none=>none|some (tm',os',ds)=>match JI τ κ op tm' os' n with|none=>none|some out=>match Im op out with|⟨ob,v,ed⟩=>match XP op os' n v ed with|none=>none|some (v',es)=>some (ob,v',es++ds)
def V7(P:Program)(r:Option Nat)(o:Oper)(a:Act)(E:AH)(objs:AF)(v:V)(es:AF):Prop:=∀(next:Act→World→Prop)(Q:DV),(∀E' u,AC P E' (es++objs)→BF E objs E' (es++objs) []→E.w.drawn≤E'.w.drawn→Z P E' v u→next (a.put o.dst u) E'.w)→o.wpIn (fz r) 0 P a E.w next Q
theorem CG.cons{os objs:AF}(h:CG os objs)(k:Nat)(o:Obj):CG ((k,o)::os) ((k,o)::objs):=λl x hx=>by
 rw[Ay]at hx⊢;split at hx;·rename_i e;rw[yS e];exact hx
 ·rename_i e;rw[yP e];exact h l x hx
theorem Xx{ρ:Operand→Value}{ops:List Operand}(hρ:∀x,(∃t,x=.tmp t)∨∀E tm,Z P E (Af tm x) (ρ x)):∀{ks:List Nat}{os objs:AF}{tm tm':List (Nat×V)}{os' ds:AF}{E:AH},Pm ks os tm=some (tm',os',ds)→CG os objs→AC P E objs→(∀x∈ops,Z P E (Af tm x) (ρ x))→∃E',E'.w=E.w∧E'.loc=E.loc∧AC P E' (ds++objs)∧BF E objs E' (ds++objs) []∧CG os' (ds++objs)∧(∀x∈ops,Z P E' (Af tm' x) (ρ x))∧(∀l x,AA l ds=some x→∃y,AA l os=some y)∧∀l x,AA l os'=some x→∃y,AA l os=some y
 |[],os,objs,tm,tm',os',ds,E,h,hs,g,hr=>by cases h;exact⟨E,rfl,rfl,g,.refl _ _ _,hs,hr,λl x h=>(by cases h),λl x h=>⟨x,h⟩⟩|k::r,os,objs,tm,tm',os',ds,E,h,hs,g,hr=>by
  simp only[Pm]at h;split at h
  ·rename_i o ho;split at h
   ·rename_i tm2 os2 ds2 h2;cases h;obtain⟨L,hL,_⟩:=g.at_ k o (hs k o ho);obtain⟨g1,s1⟩:=g.still (hs k o ho) hL;have hx:Bv E (E.still L.b (o.has L)) []:=⟨λb hs=>⟨.inl hs,rfl⟩,λj K _ hK=>hK⟩;have hr1:∀x∈ops,Z P (E.still L.b (o.has L)) (Af (EV (frz k o) tm) x) (ρ x):=λx hx'=>by
     rcases hρ x with⟨t,rfl⟩|h;·show Z P _ (AW t (EV _ tm)) _;rw[Jt,Ks];exact LF hx.S (λv c hr h=>NK g (hs k o ho) hL rfl hr h) (hr _ hx')
     ·exact h _ _
    obtain⟨E',e1,e2,g2,s2,k1,k2,k3,k4⟩:=Xx hρ h2 (hs.cons k .dead) g1 hr1;have ee:ds2++(k,Obj.dead)::objs=ds2++[(k,.dead)]++objs:=by simp
    rw[ee]at g2 s2 k1;have back:∀l,(∃y,AA l ((k,Obj.dead)::os)=some y)→∃y,AA l os=some y:=λl⟨y,hy⟩=>by
     rw[Ay]at hy;split at hy;·rename_i e;subst e;exact⟨o,ho⟩
     ·exact⟨y,hy⟩
    refine⟨E',e1,e2,g2,by simpa using s1.trans s2,k1,k2,λl x hl=>?_,λl x hl=>back l (k4 l x hl)⟩;rw[Lf]at hl;split at hl;·rename_i y hy;exact back l (k3 l y hy)
    ·rw[Ay]at hl;split at hl;·rename_i e;subst e;exact⟨o,ho⟩
     ·cases hl
   ·cases h
  ·cases h
theorem XR(hτ:A6 P τ)(hκ:A3 P κ){r:Option Nat}{o:Oper}{tm:List (Nat×V)}{os objs:AF}{n:Nat}{ob:Option Prop}{v:V}{es:AF}{E:AH}{a:Act}(h:Pb τ κ o.op tm os n=some (ob,v,es))(hs:CG os objs)(ho:A0 ob)(g:AC P E objs)(hf:E.loc n=none)(hr:∀x∈o.op.operands,Z P E (Af tm x) (a.eval x)):V7 P r o a E objs v es∧∀l x,AA l es=some x→l=n∨∃y,AA l os=some y:=by
 unfold Pb at h;split at h;·cases h
 ·rename_i tm' os' ds hfz;have hρ:∀x,(∃t,x=Operand.tmp t)∨∀E tm,Z P E (Af tm x) (a.eval x):=λx=>by cases x with|tmp t=>exact .inl ⟨t,rfl⟩|const v=>exact .inr λE tm=>RG v|global g=>exact .inr λE tm=>.any _|func f=>exact .inr λE tm=>.fn rfl rfl (λj hj=>by simp at hj) λj hj=>by simp at hj
  obtain⟨E1,e1,e2,g1,s1,k1,k2,k3,k4⟩:=Xx (ops:=o.op.operands.toList) hρ hfz hs g λx hx=>hr x (Array.mem_toList_iff.1 hx);split at h;·cases h
  ·rename_i out he;generalize KT:Im o.op out=out' at h;obtain⟨ob',v0,ed⟩:=out';simp only at h;split at h;·cases h
   ·rename_i v' es' Aw;cases h;have Cu:A0 out.ob:=by rw[←XF o.op out,KT];exact ho
    have Hk:E1.loc n=none:=by rw[e2];exact hf
    have hd0:=Pd (r:=r) (a:=a) hτ hκ he k1 Cu g1 Hk λx hx=>k2 x (Array.mem_toList_iff.2 hx);have hd1:=XE o.op hd0;rw[KT]at hd1;have plain:∀es',(ed=none∧es'=[]∨∃l x,ed=some (l,x,false)∧es'=[(l,x)])→V7 P r o a E objs v0 (es'++ds):=by
     intro es' Te next Q hn;have :=hd1 next Q;rw[e1]at this;refine this λE' u g' st GO hu=>hn E' u ?_ ?_ GO hu
     ·rcases Te with⟨rfl,rfl⟩|⟨l,x,rfl,rfl⟩;·exact g'
      ·exact g'
     ·rcases Te with⟨rfl,rfl⟩|⟨l,x,rfl,rfl⟩;·simpa[edit,moved]using s1.trans st
      ·simpa[edit,moved]using s1.trans st
    have keys:∀es',(∀l x,AA l es'=some x→l=n∨∃y,AA l os'=some y)→∀l x,AA l (es'++ds)=some x→l=n∨∃y,AA l os=some y:=λes' hk l x hx=>by
     rw[Lf]at hx;split at hx
     ·rename_i y hy;rcases hk l y hy with h|⟨z,hz⟩;·exact .inl h
      ·exact .inr (k4 l z hz)
     ·exact .inr (k3 l x hx)
    unfold XP at Aw;split at Aw;·cases Aw;exact⟨plain [] (.inl ⟨rfl,rfl⟩),keys [] λl x h=>by cases h⟩
    ·rename_i l x;split at Aw;·rename_i hb;cases Aw;exact⟨plain _ (.inr ⟨l,x,rfl,rfl⟩),keys _ λl' x' h=>by
      rw[Ay]at h;split at h;·rename_i e;rw[←e];exact .inl (yW hb)
      ·cases h⟩
     ·split at Aw;·rename_i y hy;cases Aw;exact⟨plain _ (.inr ⟨l,x,rfl,rfl⟩),keys _ λl' x' h=>by
       rw[Ay]at h;split at h;·rename_i e;rw[←e];exact .inr ⟨y,hy⟩
       ·cases h⟩
      ·cases Aw
    ·rename_i l x;obtain⟨dst,op,ty,po,af,guard⟩:=o;split at Aw
     ·rename_i args tys B1;split at Aw
      ·rename_i T zs;cases Aw;simp only at B1;subst B1;have Ta:out=⟨ob,v0,some (l,.row T zs,true)⟩:=by rw[←KT];rfl
       subst Ta;simp only[JI,NA]at he;obtain⟨al⟩:=args;obtain⟨tl⟩:=tys;simp only[SP]at he;split at he
       ·split at he
        ·rename_i t u _ x y e3;obtain⟨b,c,rfl,rfl,rfl⟩:=OH e3;have rb:=k2 b (by simp[Op.operands,Call.operands]);have rc:=k2 c (by simp[Op.operands,Call.operands]);obtain⟨rfl,L,xs,c1,c2,w,K,row,c3,c4,c5,c6,c7⟩:=jP (ty:=ty) hτ he k1 Cu g1 rb rc;obtain⟨E',d1,d2,d3,d4⟩:=g1.remake c1 c2 Hk c3 c4 c5 c6;refine⟨λnext Q hn=>⟨λ_ _=>trivial,?_⟩,keys _ λl' x' h=>?_⟩
         ·rw[ZCD _ _ _ λc=>by simp];have hrun:(execOp a.eval ⟨dst,.call {callee:=.builtin .append,args:=⟨[b,c]⟩,argTypes:=⟨[t,u]⟩},ty,po,af,guard⟩).run P E.w=.ok (.value K.v) E'.w:=by
           have :execOp a.eval ⟨dst,.call {callee:=.builtin .append,args:=⟨[b,c]⟩,argTypes:=⟨[t,u]⟩},ty,po,af,guard⟩=(do let v←Builtin.append_ #[t,u] ty #[a.eval b,a.eval c];pure (Next.value v)):=by simp[execOp,resolve,invoke,builtin]
           rw[this,←e1,d1];simp[c7]
          rw[hrun];exact hn E' K.v (by simpa using d3) (by simpa using s1.trans d4) (by rw[←e1];exact Qu _ _ _ _ (by rw[d1];exact c7)) (.osl d2)
         ·rw[Ay]at h;split at h;·rename_i e;exact .inl e.symm
          ·rw[Ay]at h;split at h
           ·rename_i e;subst e;refine .inr ?_;unfold LX at he;split at he
            ·split at he
             ·split at he
              ·split at he
               ·split at he;·cases he
                ·split at he
                 ·split at he;·rename_i hcs _;cases he;exact⟨_,hcs⟩
                  ·cases he
                 ·cases he
                ·split at he
                 ·split at he
                  ·split at he;·cases he
                   ·rename_i hcs _ _ _;cases he;exact⟨_,hcs⟩
                  ·cases he
                 ·cases he
                ·cases he
               ·cases he
              ·split at he
               ·split at he
                ·split at he;·cases he
                 ·split at he
                  ·split at he;·rename_i hcs _;cases he;exact⟨_,hcs⟩
                   ·cases he
                  ·cases he
                 ·cases he
                ·cases he
               ·cases he
             ·cases he
            ·cases he
           ·cases h
        ·cases he
       ·cases he
      ·cases Aw
     ·rename_i x args tys B1;split at Aw
      ·rename_i T zs;cases Aw;simp only at B1;subst B1;have Ta:out=⟨ob,v0,some (l,.row T zs,true)⟩:=by rw[←KT];rfl
       subst Ta;simp only[JI]at he;split at he
       ·rename_i rc Bc;obtain⟨gf,q1,q2,T0,q3⟩:=bW hκ Bc he k1 Cu g1 (k2 x (by simp[Op.operands,Call.operands])) (Jg λy hy=>k2 y (by simp only[Op.operands,Call.operands];simp[Array.mem_toList_iff.1 hy]));rcases q3 with⟨_,_,q4,_⟩|⟨l',L,xs,zs',q0,hL,q4,q5,hc⟩;·cases q4
        ·obtain⟨rfl,hzz,_⟩:l=l'∧Obj.row T zs=Obj.row T0 zs'∧True:=by have :=ZBJ q5;simp only[ZBM]at this;exact⟨this.1,this.2.1,trivial⟩
         cases hzz;refine⟨λnext Q hn=>?_,keys _ λl' x' h=>?_⟩;·have ZK:=Mx (r:=r) (o:=⟨dst,.call {callee:=.value x,args:=args,argTypes:=tys},ty,po,af,guard⟩) (a:=a) (E:=E1) rfl q1 q2 hc (next:=next) (Q:=Q) (by rintro e w2⟨K,rfl,row,c3,c4,c5,c6,c7⟩;obtain⟨E',d1,d2,d3,d4⟩:=g1.remake (k1 _ _ q0) hL Hk c3 c4 c5 c6;refine⟨_,rfl,?_⟩;rw[←d1];exact hn E' K.v (by simpa using d3) (by simpa using s1.trans d4) (by rw[←e1,d1];exact c7) (.osl d2));rw[e1]at ZK;exact ZK
         ·rw[Ay]at h;split at h;·rename_i e;exact .inl e.symm
          ·rw[Ay]at h;split at h;·rename_i e;subst e;exact .inr ⟨_,q0⟩
           ·cases h
       ·split at he
        ·unfold PL at he;split at he
         ·split at he;·split at he<;>cases he
          ·cases he
         ·split at he;·split at he<;>cases he
          ·cases he
        ·split at he<;>cases he
      ·cases Aw
     ·cases Aw
def XO(n:Nat):Option (Nat×Obj×Bool)→Option AF
 |none=>some []|some (l,.dead,false)=>match Nat.beq l n with|true=>some [(l,.dead)]|false=>none
 |_=>none
def LV(τ:Ad)(κ:Ar)(dec g:Bool)(i:Nat)(dst:Option Nat)(op:Op)(tm:List (Nat×V))(os:AF)(ks:List Nat)(n:Nat):Option (Option Prop×Rc):=match dec with|false=>none|true=>match g with
 |true=>match Pb τ κ op (Mu op tm) os n with|some (ob,v,es)=>some (Lk true (JF op tm) ob,⟨i,dst,v,es,Jc es++(V.ks v++ks)⟩)|none=>none
 |false=>some (none,⟨i,dst,.when false (.d .bool false),[],ks⟩)
theorem XH{dec g:Bool}{i:Nat}{dst:Option Nat}{op:Op}{tm:List (Nat×V)}{os:AF}{ks:List Nat}{n:Nat}{ob:Option Prop}{rc:Rc}(h:LV τ κ dec g i dst op tm os ks n=some (ob,rc)):rc.i=i∧rc.dst=dst:=by
 unfold LV at h;split at h;·cases h
 ·split at h
  ·split at h;·cases h;exact⟨rfl,rfl⟩
   ·cases h
  ·cases h;exact⟨rfl,rfl⟩
def MX(τ:Ad)(κ:Ar)(dec:Bool)(T:List (Nat×List Nat))(ds:List (Nat×Nat))(ops:List Oper)(n0:Nat)(base:List (Nat×V))(i:Nat)(o:Oper)(cur:St):Option (Option Prop×Rc):=match o,cur with|⟨dst,op,_,_,_,guard⟩,⟨_,tmps,objs,_,_,_,_,_⟩=>match GF T ds i base tmps op.operands.toList with|tm=>match LS op objs (Gu (BY tm op.operands.toList))with|ks=>match K9 objs ks with|os=>match guard with
 |none=>match Pb τ κ op tm os (n0+i)with|some (ob,v,es)=>some (ob,⟨i,dst,v,es,Jc es++(V.ks v++ks)⟩)|none=>none
 |some (j,want)=>match NN ops j with|none=>none|some gd=>match NR want (Oq T ds i base tmps gd)with|none=>none|some g=>match JI τ κ op (Mu op tm) os (n0+i)with
  |some out=>match Im op out with|⟨ob,v,ed⟩=>match XO (n0+i) ed with|some es=>some (Lk g (JF op tm) ob,⟨i,dst,.when g v,es,Jc es++(V.ks v++ks)⟩)|none=>LV τ κ dec g i dst op tm os ks (n0+i)
  |none=>LV τ κ dec g i dst op tm os ks (n0+i)
def Lj(τ:Ad)(κ:Ar)(dec:Bool)(T:List (Nat×List Nat))(ds:List (Nat×Nat))(ops:List Oper)(n0:Nat)(base:List (Nat×V)):Nat→List Oper→St→Option (List (Option Prop)×List Rc×St)|_,[],s=>some ([],[],s)|i,o::r,s=>match MX τ κ dec T ds ops n0 base i o s with|none=>none|some (ob,rc)=>match rc.app s with|⟨nt,tmps,objs,nx,df,wr,di,mv⟩=>match Lj τ κ dec T ds ops n0 base (i+1) r ⟨nt,tmps,objs,nx,df,wr,di,mv⟩with|none=>none|some (obs,R,s')=>some (ob::obs,rc::R,s')
def RZ:List (Option Prop)→Prop→Prop|[],k=>k|ob::r,k=>KA ob (RZ r k)
theorem WF{k:Prop}:∀{l:List (Option Prop)},RZ l k→(∀ob∈l,A0 ob)∧k|[],h=>⟨λob hb=>by simp at hb,h⟩|ob::r,h=>by obtain⟨h1,h2⟩:=Rf h;obtain⟨h3,h4⟩:=WF h2;exact⟨λq hq=>(List.mem_cons.1 hq).elim (λe=>e▸h1) (h3 q),h4⟩
theorem VM{p:Nat→Bool}:∀{A B:List Rc}{s:St},replay p (A++B) s=replay p B (replay p A s)|[],_,_=>rfl|r::rs,B,s=>by simp only[ZA1,replay];exact VM
theorem VN{p:Nat→Bool}:∀{B:List Rc}{s:St},(∀r∈B,p r.i=false)→replay p B s=s|[],_,_=>rfl|r::rs,s,h=>by simp only[replay];rw[h r (by simp)];exact VN λr' hr'=>h r' (zD _ hr')
theorem Ob{p q:Nat→Bool}:∀{B:List Rc}{s:St},(∀r∈B,p r.i=q r.i)→replay p B s=replay q B s|[],_,_=>rfl|r::rs,s,h=>by simp only[replay];rw[h r (by simp)];exact Ob λr' hr'=>h r' (zD _ hr')
theorem VG{dec:Bool}{T:List (Nat×List Nat)}{ds:List (Nat×Nat)}{ops:List Oper}{n0:Nat}{base:List (Nat×V)}{i:Nat}{o:Oper}{cur:St}{ob:Option Prop}{rc:Rc}(h:MX τ κ dec T ds ops n0 base i o cur=some (ob,rc)):rc.i=i∧rc.dst=o.dst:=by
 obtain⟨dst,op,ty,po,af,guard⟩:=o;cases cur;simp only[MX]at h;split at h
 ·split at h;·cases h;exact⟨rfl,rfl⟩
  ·cases h
 ·split at h;·cases h
  ·split at h;·cases h
   ·split at h
    ·split at h;·cases h;exact⟨rfl,rfl⟩
     ·exact XH h
    ·exact XH h
theorem X8{dec:Bool}{T:List (Nat×List Nat)}{ds:List (Nat×Nat)}{ops:List Oper}{n0:Nat}{base:List (Nat×V)}{s0:St}:∀{l:List Oper}{i:Nat}{cur send:St}{R0 R':List Rc}{obs:List (Option Prop)},Lj τ κ dec T ds ops n0 base i l cur=some (obs,R',send)→(∀r∈R0,r.i<i)→cur=replay (λ_=>true) R0 s0→R'.Pairwise (λa b=>a.i<b.i)∧(∀r∈R',i≤r.i∧r.i<i+l.length)∧send=replay (λ_=>true) (R0++R') s0∧∀j o,l[j]?=some o→∃ob rc,MX τ κ dec T ds ops n0 base (i+j) o (replay (λk=>decide (k<i+j)) (R0++R') s0)=some (ob,rc)∧ob∈obs∧rc∈R'
 |[],i,cur,send,R0,R',obs,h,h1,h2=>by simp only[Lj,ZA5,ZBM]at h;obtain⟨rfl,rfl,rfl⟩:=h;exact⟨.nil,λr hr=>by simp at hr,by simpa using h2,λj o hj=>by simp at hj⟩|o::r,i,cur,send,R0,R',obs,h,h1,h2=>by
  simp only[Lj]at h;split at h;·cases h
  ·rename_i ob rc Bc;split at h;·cases h
   ·rename_i obs2 R2 s2 hg;cases h;have hi:=(VG Bc).1;have ih:=X8 (R0:=R0++[rc]) hg λr hr=>by
     rcases List.mem_append.1 hr with hr|hr;·exact Nat.lt_succ_of_lt (h1 r hr)
     ·simp at hr;subst hr;omega (by rw[VM,←h2];rfl);obtain⟨k0,k1,k2,k3⟩:=ih;have e:R0++[rc]++R2=R0++rc::R2:=by simp
    rw[e]at k2 k3;refine⟨List.pairwise_cons.2 ⟨λr' hr'=>by have :=k1 r' hr';omega,k0⟩,λr' hr'=>?_,k2,λj o' hj=>?_⟩
    ·rcases List.mem_cons.1 hr' with rfl|hr';·simp;omega
     ·have :=k1 r' hr';simp;omega
    ·cases j with|zero=>
     simp at hj;subst hj;refine⟨ob,rc,?_,by simp,by simp⟩;have :replay (λk=>decide (k<i+0)) (R0++rc::R2) s0=cur:=by
      rw[VM,VN,h2];·exact Ob λr' hr'=>by simpa using h1 r' hr'
      ·intro r' hr';rcases List.mem_cons.1 hr' with rfl|hr';·simp;omega
       ·have :=k1 r' hr';simp;omega
     rw[this];exact Bc|succ j=>obtain⟨ob',rc',m1,m2,m3⟩:=k3 j o' (by simpa using hj);rw[show i+1+j=i+(j+1)from by omega]at m1;exact⟨ob',rc',m1,zD _ m2,zD _ m3⟩
def Gn:AF→List Nat→Bool|[],_=>true|(l,_)::r,ks=>match Be l ks with|true=>false|false=>Gn r ks
theorem XJ{l:Nat}{o:Obj}{ks:List Nat}:∀{e:AF},Gn e ks=true→AA l e=some o→l∉ks
 |[],_,h=>by cases h|(k,p)::r,hd,h=>by
  simp only[Gn]at hd;split at hd;·cases hd
  ·rename_i hk;rw[Ay]at h;split at h;·rename_i e;subst e;exact λhm=>by rw[Eg.2 hm]at hk;cases hk
   ·exact XJ hd h
def Kx(T:List (Nat×List Nat))(r:Rc):List Rc→Bool|[]=>true|q::l=>match Be r.i (Bx q.i T)with|true=>Kx T r l|false=>match Be q.i (Bx r.i T)with|true=>Kx T r l|false=>match Gn r.ed q.ks with
 |true=>match Gn q.ed r.ks with|true=>Kx T r l|false=>false
 |false=>false
def OR(T:List (Nat×List Nat)):List Rc→Bool|[]=>true|r::l=>match Kx T r l with|true=>OR T l|false=>false
def KI(nt:Nat)(ds:List (Nat×Nat)):List Rc→Bool
 |[]=>true|⟨i,some d,_,_,_⟩::l=>match Hg d ds with
  |some j=>match Nat.beq j i with
   |true=>match Nat.blt d nt with|true=>KI nt ds l|false=>false
   |false=>false
  |none=>false
 |_::l=>KI nt ds l
theorem Uy{T:List (Nat×List Nat)}{r:Rc}:∀{l:List Rc},Kx T r l=true→∀q∈l,r.i∈Bx q.i T∨q.i∈Bx r.i T∨Gn r.ed q.ks=true∧Gn q.ed r.ks=true
 |[],_,q,h=>by simp at h|q'::l,h,q,hq=>by
  simp only[Kx]at h;have key:(q=q'→r.i∈Bx q.i T∨q.i∈Bx r.i T∨Gn r.ed q.ks=true∧Gn q.ed r.ks=true)→Kx T r l=true→r.i∈Bx q.i T∨q.i∈Bx r.i T∨Gn r.ed q.ks=true∧Gn q.ed r.ks=true:=λh1 h2=>(List.mem_cons.1 hq).elim h1 (Uy h2 q);split at h;·rename_i h1;exact key (λe=>.inl (e▸Eg.1 h1)) h
  ·split at h;·rename_i h1;exact key (λe=>.inr (.inl (e▸Eg.1 h1))) h
   ·split at h
    ·rename_i h1;split at h;·rename_i h2;exact key (λe=>.inr (.inr (e▸⟨h1,h2⟩))) h
     ·cases h
    ·cases h
theorem U2{T:List (Nat×List Nat)}:∀{l:List Rc},OR T l=true→∀r∈l,∀q∈l,r=q∨r.i∈Bx q.i T∨q.i∈Bx r.i T∨Gn r.ed q.ks=true∧Gn q.ed r.ks=true
 |[],_,r,h,_,_=>by simp at h|x::l,h,r,hr,q,hq=>by
  simp only[OR]at h;split at h
  ·rename_i h1;rcases List.mem_cons.1 hr with hr1|hr1
   ·rcases List.mem_cons.1 hq with hq1|hq1;·exact .inl (hr1.trans hq1.symm)
    ·rw[hr1];exact .inr (Uy h1 q hq1)
   ·rcases List.mem_cons.1 hq with hq1|hq1
    ·rw[hq1];rcases Uy h1 r hr1 with h|h|h;·exact .inr (.inr (.inl h))
     ·exact .inr (.inl h)
     ·exact .inr (.inr (.inr ⟨h.2,h.1⟩))
    ·exact U2 h r hr1 q hq1
  ·cases h
theorem KJ{nt:Nat}{ds:List (Nat×Nat)}:∀{l:List Rc},KI nt ds l=true→∀r∈l,∀d,r.dst=some d→Hg d ds=some r.i∧d<nt|[],_,r,h,_,_=>by simp at h|⟨i,dst,v,ed,ks⟩::l,h,r,hr,d,hd=>by cases dst with
 |none=>
  simp only[KI]at h;rcases List.mem_cons.1 hr with rfl|hr;·cases hd
  ·exact KJ h r hr d hd|some d'=>
  simp only[KI]at h;split at h
  ·rename_i j hj;split at h
   ·rename_i h1;split at h
    ·rename_i h2;rcases List.mem_cons.1 hr with rfl|hr;·cases hd;rw[hj,yW h1];exact⟨rfl,zW h2⟩
     ·exact KJ h r hr d hd
    ·cases h
   ·cases h
  ·cases h
end
section
variable {P : Program} {τ : Ad} {κ : Ar} {φ : Nat → Option FX}
theorem Zi{p:Nat→Bool}{l:Nat}:∀{A B:List Rc},Dw p l (A++B)=match Dw p l B with|some o=>some o|none=>Dw p l A
 |[],B=>by simp only[ZAk,Dw];split<;>simp_all|r::A,B=>by simp only[ZA1,Dw];rw[Zi (A:=A)];cases h:Dw p l B with|some o=>rfl|none=>rfl
theorem Zk{p:Nat→Bool}{l:Nat}:∀{A B:List Rc},Ed p l (A++B)=match Ed p l B with|some o=>some o|none=>Ed p l A
 |[],B=>by simp only[ZAk,Ed];split<;>simp_all|r::A,B=>by simp only[ZA1,Ed];rw[Zk (A:=A)];cases h:Ed p l B with|some o=>rfl|none=>rfl
theorem Zj{p:Nat→Bool}{l:Nat}:∀{A:List Rc},(∀r∈A,∀o,AA l r.ed=some o→p r.i=false)→Dw p l A=none|[],_=>rfl|r::A,h=>by simp only[Dw];rw[Zj (A:=A) λr' hr'=>h r' (zD _ hr')];cases Aw:AA l r.ed with|none=>simp|some x=>simp[h r (by simp) x Aw]
theorem OF{p:Nat→Bool}{t:Nat}:∀{A:List Rc},(∀r∈A,r.dst=some t→p r.i=false)→Ed p t A=none|[],_=>rfl|r::A,h=>by simp only[Ed];rw[OF (A:=A) λr' hr'=>h r' (zD _ hr')];simp only;rw[yP];rintro⟨h1,h2⟩;rw[h r (by simp) h2]at h1;cases h1
def Es(L:Nat→Bool)(i:Nat):Nat→Bool:=λj=>L j||decide (j=i)
theorem lL(hτ:A6 P τ)(hκ:A3 P κ){dec:Bool}{r:Option Nat}{cx:Cx}{ops:Array Oper}{T:List (Nat×List Nat)}(hT:PT ops T){ds:List (Nat×Nat)}{n0 i:Nat}{o:Oper}{ob:Option Prop}{rc:Rc}{R:List Rc}{s0:St}(hi:ops[i]?=some o)(Bc:MX τ κ dec T ds ops.toList n0 s0.tmps i o (replay (λk=>decide (k<i)) R s0)=some (ob,rc))(ho:A0 ob)(A9:rc∈R)(IN:R.Pairwise λa b=>a.i<b.i)(hp:OR T R=true)(hd:KI s0.nt ds R=true)(AY:∀q∈R,q.i<ops.size)(CS:s0.nx=n0+ops.size){L:Nat→Bool}(hL:L i=false)(Yc:∀q∈R,L q.i=true→∀j∈Bx q.i T,(∃q'∈R,q'.i=j)→L j=true)(Y4:∀j∈Bx i T,(∃q'∈R,q'.i=j)→L j=true){a:Act}{E:AH}(hr:A5 P cx (replay L R s0) a E)(hf:∀q∈R,L q.i=false→E.loc (n0+q.i)=none){Q:DV}{K:Act→World→Prop}(hK:∀a' E',A5 P cx (replay (Es L i) R s0) a' E'→(∀q∈R,Es L i q.i=false→E'.loc (n0+q.i)=none)→K a' E'.w):wpOpIn (fz r) 0 P ops Q i K a E.w:=by
  have DL:=(VG Bc).1;have hdst:=(VG Bc).2;have P8:i<ops.size:=(Array.getElem?_eq_some_iff.1 hi).1;have UG:∀q∈R,q.i=i→q=rc:=λq hq e=>by
    rcases U2 hp q hq rc A9 with h|h|h|_;·exact h
    ·rw[DL]at h;have :=hT.lt i q.i P8 h;omega
    ·rw[e]at h;rw[DL]at h;have :=hT.lt i i P8 h;omega
    · obtain⟨A,B,JN⟩:=ZDm A9;rw[JN]at IN hq;rw[ZCn]at IN;obtain⟨_,h2,h3⟩:=IN;rcases List.mem_append.1 hq with h|h;·have :=h3 q h rc (by simp);omega
      · rcases List.mem_cons.1 h with h|h;·exact h
        ·have :=(List.pairwise_cons.1 h2).1 q h;omega
  obtain⟨A,B,JN⟩:=ZDm A9;have hA:∀q∈A,q.i<i:=λq hq=>by rw[JN,ZCn]at IN;have :=IN.2.2 q hq rc (by simp);omega
  have hB:∀q∈B,i<q.i:=λq hq=>by rw[JN,ZCn]at IN;have :=(List.pairwise_cons.1 IN.2.1).1 q hq;omega
  have Y2:∀q∈R,∀l x,AA l q.ed=some x→l∈rc.ks→decide (q.i<i)=L q.i∨q=rc:=λq hq l x Aw hl=>by
    rcases U2 hp q hq rc A9 with h|h|h|h;·exact .inr h
    ·rw[DL]at h;have h1:=hT.lt i q.i P8 h;have h2:=Y4 q.i h ⟨q,hq,rfl⟩;rw[h2];left;simpa using h1
    ·rw[DL]at h;have h1:=hT.lt q.i i (AY q hq) h;left;cases mC:L q.i with|false=>simp;omega|true=>rw[Yc q hq mC i h ⟨rc,A9,DL⟩]at hL;cases hL
    ·exact absurd hl (XJ h.1 Aw)
  have AZ:∀l∈rc.ks,AA l (replay (λk=>decide (k<i)) R s0).objs=AA l (replay L R s0).objs:=λl hl=>by
    rw[Oc,Oc,UU (p:=λk=>decide (k<i)) (q:=L)];intro q hq x Aw;rcases Y2 q hq l x Aw hl with h|h;·exact h
    ·subst h;rw[DL,hL];simp
  have hval:∀t,Z P E (Oq T ds i s0.tmps (replay (λk=>decide (k<i)) R s0).tmps t) (a.tmps.getD t undef):=λt=>by
    have HP:=hr.rep t;rw[Od]at HP;unfold Oq;split
    · rename_i hn;rw[OF]at HP;·exact HP
      ·intro q hq FT;rw[(KJ hd q hq t FT).1]at hn;cases hn
    · rename_i j hj;have hq:∀q∈R,q.dst=some t→q.i=j:=λq hq FT=>by have :=(KJ hd q hq t FT).1;rw[hj]at this;cases this;rfl
      split
      · rename_i hm;rw[Od,UV (p:=λk=>decide (k<i)) (q:=L)];·exact HP
        ·intro q JU FT;have e:=hq q JU FT;rw[e];have hm:=Eg.1 hm;rw[Y4 j hm ⟨q,JU,e⟩];have :=hT.lt i j P8 hm;simpa using this
      · split
        · rename_i he;have he:=yW he;rw[OF]at HP;·exact HP
          ·intro q JU FT;rw[hq q JU FT,he];exact hL
        · split
          · rename_i hm;have hm:=Eg.1 hm;rw[OF]at HP;·exact HP
            ·intro q JU FT;rw[hq q JU FT];cases mB:L j with|false=>rfl|true=>have e:=hq q JU FT;have :=Yc q JU (by rw[e];exact mB) i (by rw[e];exact hm) ⟨rc,A9,DL⟩;rw[hL]at this;cases this
          ·exact .any _
  have nD:∀d,o.dst=some d→d<a.tmps.size:=λd KU=>by have :=(KJ hd rc A9 d (hdst.trans KU)).2;have h1:a.tmps.size=s0.nt:=hr.size.trans (Qr (p:=L) (R:=R) (s:=s0)).1;rw[h1];exact this
  have behind:∀E' u,AC P E' (rc.ed++(replay L R s0).objs)→BF E (replay L R s0).objs E' (rc.ed++(replay L R s0).objs) []→E.w.drawn≤E'.w.drawn→Z P E' rc.v u→(∀l x,AA l rc.ed=some x→l=n0+i∨∃y,AA l (replay L R s0).objs=some y)→(∀l x,AA l rc.ed=some x→l∈rc.ks)→K (a.put o.dst u) E'.w:=by
    intro E' u g st GO hu Nq GQ;obtain⟨e1,e2,e3,e4⟩:=Qr (p:=L) (R:=R) (s:=s0);obtain⟨f1,f2,f3,f4⟩:=Qr (p:=Es L i) (R:=R) (s:=s0);have IL:∀l,E.loc l=none→l≠n0+i→E'.loc l=none:=λl hl Ab=>by
      have h1:AA l (replay L R s0).objs=none:=by cases h:AA l (replay L R s0).objs with|none=>rfl|some x=>obtain⟨K,hK,_⟩:=hr.good.at_ l x h;rw[hl]at hK;cases hK
      rw[st.dom l ?_];·exact hl
      ·rw[Lf];cases Aw:AA l rc.ed with|none=>exact h1|some x=>
          rcases Nq l x Aw with h|⟨z,hz⟩;·exact absurd h Ab
          ·rw[h1]at hz;cases hz
    have Hs:A5 P cx (rc.app (replay L R s0)) (a.put o.dst u) E':=by
      refine⟨?_,λl hl=>?_,?_,zV hr.drawn GO,?_,?_,λt=>?_⟩
      · have :(rc.app (replay L R s0)).objs=rc.ed++(replay L R s0).objs:=by generalize replay L R s0=q;cases q;rfl
        rw[this];exact g
      · have hl:s0.nx≤l:=by
          have :(rc.app (replay L R s0)).nx=s0.nx:=by rw[←e2];generalize replay L R s0=q;cases q;rfl
          rw[this]at hl;exact hl
        exact IL l (hr.fresh l (by rw[e2];exact hl)) (by omega)
      · have :(rc.app (replay L R s0)).mv=(replay L R s0).mv:=by generalize replay L R s0=q;cases q;rfl
        rw[this];have e:(rc.app (replay L R s0)).objs=rc.ed++(replay L R s0).objs:=by generalize replay L R s0=q;cases q;rfl
        rw[e];simpa using hr.step.trans st
      · have :(rc.app (replay L R s0)).nt=(replay L R s0).nt:=by generalize replay L R s0=q;cases q;rfl
        rw[this,←hr.size];cases o.dst<;>simp[Act.put]
      · have :(rc.app (replay L R s0)).df=(replay L R s0).df:=by generalize replay L R s0=q;cases q;rfl
        have e:(a.put o.dst u).defers=a.defers:=by cases o.dst<;>rfl
        rw[this,e];exact hr.df.ext st.ext
      ·rw[Rg,hdst];cases KU:o.dst with|none=>exact(hr.rep t).mono st.ext|some d=>
          rw[bH (nD d KU)];by_cases e:d=t;·subst e;rw[yS rfl,yS rfl];exact hu
          ·rw[yP λh=>e (by cases h;rfl),yP e];exact(hr.rep t).mono st.ext
    refine hK _ E' ?_ λq hq Y9=>?_
    · refine Av.congr Hs (λt=>?_) (λl=>?_) ?_ ?_ ?_ λl hl=>?_;·
        rw[Rg,Od,Od];by_cases e:rc.dst=some t
        · rw[yS e];have hq:∀q∈R,q.dst=some t→q=rc:=λq hq FT=>UG q hq (by have h1:=(KJ hd q hq t FT).1;have h2:=(KJ hd rc A9 t e).1;exact(ZBJ (h1.symm.trans h2)).trans DL);have TG:Ed (Es L i) t B=none:=OF λq Ny FT=>by have :=hq q (by rw[JN];simp[Ny]) FT;have h1:=hB q Ny;rw[this,DL]at h1;omega
          have :Ed (Es L i) t R=some rc.v:=by rw[JN,Zk];simp only[Ed,TG];rw[yS ⟨by simp[Es,DL],e⟩]
          rw[this]
        ·rw[yP e];rw[UV (p:=Es L i) (q:=L)];intro q hq FT;have :q.i≠i:=λh=>e (by rw[←UG q hq h];exact FT);simp[Es,this]
      · rw[WK,Oc,Oc];have other:AA l rc.ed=none→Dw (Es L i) l R=Dw L l R:=λhn=>UU λq hq x Aw=>by
          have :q.i≠i:=λh=>by rw[UG q hq h,hn]at Aw;cases Aw
          simp[Es,this]
        cases Aw:AA l rc.ed with|none=>rw[other Aw]|some y=>
          simp only;have TG:Dw (Es L i) l B=none:=Zj λq Ny x oU=>by
            have oT:q∈R:=by rw[JN];simp[Ny]
            have h1:=hB q Ny;rcases Y2 q oT l x oU (GQ l y Aw)with h|h
            · have h2:L q.i=false:=by rw[←h];simp;omega
              simp only[Es,h2,ZBC,ZAU];omega
            ·rw[h,DL]at h1;omega
          have :Dw (Es L i) l R=some y:=by rw[JN,Zi];simp only[Dw,TG,Aw];rw[yS (by simp[Es,DL])]
          rw[this]
      ·rw[f1,←e1];generalize replay L R s0=q;cases q;rfl
      ·rw[f3,←e3];generalize replay L R s0=q;cases q;rfl
      ·rw[f4,←e4];generalize replay L R s0=q;cases q;rfl
      ·rw[f2]at hl;exact IL l (hr.fresh l (by rw[e2];exact hl)) (by omega)
    ·simp only[Es,ZBA,ZAU]at Y9;exact IL _ (hf q hq Y9.1) (by omega)
  obtain⟨dst,op,ty,po,af,guard⟩:=o;revert Bc AZ hval;generalize KS:replay (λk=>decide (k<i)) R s0=cur;obtain⟨ntc,Ig,Kw,nxc,dfc,wrc,dic,mvc⟩:=cur;intro AZ hval Bc;simp only[MX]at Bc;have IP:∀ks:List Nat,(∀l∈ks,l∈rc.ks)→CG (K9 Kw ks) (replay L R s0).objs:=λks GQ l x h=>by obtain⟨h1,h2⟩:=VP h;rw[←AZ l (GQ l h1)];exact h2
  have T2:∀tm:List (Nat×V),tm=GF T ds i s0.tmps Ig op.operands.toList→∀x,Z P E (Af tm x) (a.eval x):=λtm e x=>by cases x with
    |tmp t=>
      show Z P E (AW t tm) _;rw[e];rcases Vl (T:=T) (ds:=ds) (i:=i) (base:=s0.tmps) (cur:=Ig) (t:=t) (l:=op.operands.toList)with h|h;·rw[h];exact hval t
      ·rw[h];exact .any _|const v=>exact RG v|global g=>exact .any _|func f=>exact .fn rfl rfl (λj hj=>by simp at hj) λj hj=>by simp at hj
  have Ls:E.loc (n0+i)=none:=by have :=hf rc A9 (by rw[DL];exact hL);rwa[DL]at this
  unfold wpOpIn;rw[hi];simp only;split at Bc
  · rw[yS (by simp[Region.wanted])];split at Bc
    · rename_i ob' v es he;have Kg:ob'=ob:=by cases Bc;rfl
      have Ez:=(ZDO (ZBJ Bc)).2;subst Kg;have GQ:∀l∈LS op Kw (Gu (BY (GF T ds i s0.tmps Ig op.operands.toList) op.operands.toList)),l∈rc.ks:=λl hl=>by rw[←Ez];simp[hl]
      have Iy:rc.v=v:=by rw[←Ez]
      have DE:rc.ed=es:=by rw[←Ez]
      obtain⟨TZ,To⟩:=XR (r:=r) (a:=a) (o:=⟨dst,op,ty,po,af,none⟩) hτ hκ he (IP _ GQ) ho hr.good Ls λx _=>T2 _ rfl x;refine TZ _ Q λE' u k1 k2 kd k3=>?_;refine behind E' u (by rw[DE];exact k1) (by rw[DE];exact k2) kd (by rw[Iy];exact k3) (λl x h=>?_) λl x h=>?_
      · rw[DE]at h;rcases To l x h with h|⟨y,hy⟩;·exact .inl h
        ·exact .inr ⟨y,IP _ GQ l y hy⟩
      ·rw[DE]at h;rw[←Ez];exact ZAq _ (OD h)
    ·cases Bc
  · rename_i j want;split at Bc;·cases Bc
    · rename_i gd Gs;split at Bc;·cases Bc
      · rename_i g hg;have hw:=eA (o:=⟨dst,op,ty,po,af,some (j,want)⟩) rfl Gs hg (hval gd);rw[hw];have Ya:LV τ κ dec g i dst op (GF T ds i s0.tmps Ig op.operands.toList) (K9 Kw (LS op Kw (Gu (BY (GF T ds i s0.tmps Ig op.operands.toList) op.operands.toList)))) (LS op Kw (Gu (BY (GF T ds i s0.tmps Ig op.operands.toList) op.operands.toList))) (n0+i)=some (ob,rc)→if g=true then Oper.wpIn (fz r) 0 P ⟨dst,op,ty,po,af,some (j,want)⟩ a E.w K Q else(∀(f:FuncId),Oper.about P E.w a.eval ⟨dst,op,ty,po,af,some (j,want)⟩=some f→(fz r).fn f)∧K (a.put dst undef) E.w:=λBc=>by
          unfold LV at Bc;split at Bc;·cases Bc
          · split at Bc
            · rw[yS rfl];split at Bc
              · rename_i ob' v es he;have Kg:Lk true (JF op (GF T ds i s0.tmps Ig op.operands.toList)) ob'=ob:=by cases Bc;rfl
                have Ez:=(ZDO (ZBJ Bc)).2;have GQ:∀l∈LS op Kw (Gu (BY (GF T ds i s0.tmps Ig op.operands.toList) op.operands.toList)),l∈rc.ks:=λl hl=>by rw[←Ez];simp[hl]
                have Iy:rc.v=v:=by rw[←Ez]
                have DE:rc.ed=es:=by rw[←Ez]
                have Cu:=(NQ (by rw[Kg];exact ho) rfl).1;have kc:=(NQ (by rw[Kg];exact ho) rfl).2;obtain⟨TZ,To⟩:=XR (r:=r) (a:=a) (o:=⟨dst,op,ty,po,af,some (j,want)⟩) hτ hκ he (IP _ GQ) Cu hr.good Ls λx hx=>Rn hx (T2 _ rfl x) kc;refine TZ _ Q λE' u k1 k2 kd k3=>?_;refine behind E' u (by rw[DE];exact k1) (by rw[DE];exact k2) kd (by rw[Iy];exact k3) (λl x h=>?_) λl x h=>?_
                · rw[DE]at h;rcases To l x h with h|⟨y,hy⟩;·exact .inl h
                  ·exact .inr ⟨y,IP _ GQ l y hy⟩
                ·rw[DE]at h;rw[←Ez];exact ZAq _ (OD h)
              ·cases Bc
            · rw[yP (by simp)];have Ez:=(ZDO (ZBJ Bc)).2;have Iy:rc.v=.when false (.d .bool false):=by rw[←Ez]
              have DE:rc.ed=[]:=by rw[←Ez]
              exact⟨λ_ _=>trivial,behind E undef (by rw[DE];exact hr.good) (by rw[DE];exact .refl _ _ _) (zB _) (by rw[Iy];exact .when (λe=>by cases e) λ_=>rfl) (λl x h=>by rw[DE]at h;cases h) λl x h=>by rw[DE]at h;cases h⟩
        split at Bc
        · rename_i out he;generalize KT:Im op out=out' at Bc;obtain⟨ob',v,ed⟩:=out';simp only at Bc;split at Bc
          · rename_i es Aw;have Kg:Lk g (JF op (GF T ds i s0.tmps Ig op.operands.toList)) ob'=ob:=by cases Bc;rfl
            have Ez:=(ZDO (ZBJ Bc)).2;have GQ:∀l∈LS op Kw (Gu (BY (GF T ds i s0.tmps Ig op.operands.toList) op.operands.toList)),l∈rc.ks:=λl hl=>by rw[←Ez];simp[hl]
            have Iy:rc.v=.when g v:=by rw[←Ez]
            have DE:rc.ed=es:=by rw[←Ez]
            have hcase:ed=none∧es=[]∨ed=some (n0+i,.dead,false)∧es=[(n0+i,.dead)]:=by
              unfold XO at Aw;split at Aw;·cases Aw;exact .inl ⟨rfl,rfl⟩
              · split at Aw;·rename_i l hb;cases Aw;rw[yW hb];exact .inr ⟨rfl,rfl⟩
                ·cases Aw
              ·cases Aw
            have Nq:∀l x,AA l rc.ed=some x→l=n0+i∨∃y,AA l (replay L R s0).objs=some y:=λl x h=>by
              rw[DE]at h;rcases hcase with⟨_,rfl⟩|⟨_,rfl⟩;·cases h
              · rw[Ay]at h;split at h;·rename_i e;exact .inl e.symm
                ·cases h
            have Tr:∀l x,AA l rc.ed=some x→l∈rc.ks:=λl x h=>by rw[DE]at h;rw[←Ez];exact ZAq _ (OD h)
            cases g with|true=>
              rw[yS rfl];have Cu:A0 (Im op out).ob:=by rw[KT];exact(NQ (by rw[Kg];exact ho) rfl).1
              have kc:=(NQ (by rw[Kg];exact ho) rfl).2;have hd0:=Pd (r:=r) (a:=a) (o:=⟨dst,op,ty,po,af,some (j,want)⟩) hτ hκ he (IP _ GQ) (by rw[←XF op out];exact Cu) hr.good Ls λx hx=>Rn hx (T2 _ rfl x) kc;have hd1:=XE op hd0;rw[KT]at hd1;refine hd1 _ Q λE' u k1 k2 kd k3=>?_;refine behind E' u ?_ ?_ kd (by rw[Iy];exact .when (λ_=>k3) λe=>by cases e) Nq Tr
              · rw[DE];rcases hcase with⟨rfl,rfl⟩|⟨rfl,rfl⟩;·exact k1
                ·exact k1
              · rw[DE];rcases hcase with⟨rfl,rfl⟩|⟨rfl,rfl⟩;·exact k2
                ·exact k2|false=>
              rw[yP (by simp)];refine⟨λ_ _=>trivial,?_⟩;rcases hcase with⟨rfl,rfl⟩|⟨rfl,rfl⟩;·exact behind E undef (by rw[DE];exact hr.good) (by rw[DE];exact .refl _ _ _) (zB _) (by rw[Iy];exact .when (λe=>by cases e) λ_=>rfl) Nq Tr
              ·have ha:=hr.good.adopt (n:=n0+i) (K:=⟨0,none,0,0,0⟩) (o:=.dead) Ls trivial λh=>h.elim;exact behind (E.setL E.w (n0+i) ⟨0,none,0,0,0⟩) undef (by rw[DE];exact ha.1) (by rw[DE];exact ha.2 E _ [] (.refl _ _ _) λh=>h.elim) (zB _) (by rw[Iy];exact .when (λe=>by cases e) λ_=>rfl) Nq Tr
          ·exact Ya Bc
        ·exact Ya Bc
end
section
variable {P : Program} {τ : Ad} {κ : Ar} {φ : Nat → Option FX}
def O9:Nat→List Nat→Bool|0,_=>true|n+1,l=>match Be n l with|true=>O9 n l|false=>false
theorem WV{l:List Nat}:∀{n:Nat},O9 n l=true→∀j,j<n→j∈l
 |0,_,j,h=>absurd h (by omega)|n+1,h,j,hj=>by
  simp only[O9]at h;split at h
  ·rename_i h1;by_cases e:j=n;·subst e;exact Eg.1 h1
   ·exact WV h j (by omega)
  ·cases h
def O3(T:List (Nat×List Nat))(p:Nat):Nat→Nat→Bool|_,0=>true|i,c+1=>match O9 p (Bx i T)with|true=>O3 T p (i+1) c|false=>false
theorem WE{T:List (Nat×List Nat)}{p:Nat}:∀{c i:Nat},O3 T p i c=true→∀j,i≤j→j<i+c→∀k,k<p→k∈Bx j T
 |0,i,_,j,h1,h2,_,_=>absurd h2 (by omega)|c+1,i,h,j,h1,h2,k,hk=>by
  simp only[O3]at h;split at h
  ·rename_i hb;by_cases e:j=i;·subst e;exact WV hb k hk
   ·exact WE h j (by omega) (by omega) k hk
  ·cases h
def M9:Nat→List Oper→List (Nat×Nat)|_,[]=>[]|i,⟨some d,_,_,_,_,_⟩::r=>(d,i)::M9 (i+1) r|i,_::r=>M9 (i+1) r
def Mh{α:Type}:Nat→List α→List α×List α|0,l=>([],l)|n+1,[]=>([],[])|n+1,x::l=>match Mh n l with|(a,b)=>(x::a,b)
def NP(τ:Ad)(κ:Ar)(dec:Bool)(T:List (Nat×List Nat))(ops:List Oper)(n p:Nat)(seg:List Oper)(s:St)(k:St→Prop):Prop:=match s with|⟨nt,tmps,objs,nx,df,wr,di,mv⟩=>match Lj τ κ dec T (M9 p seg) ops nx tmps p seg ⟨nt,tmps,objs,nx+n,df,wr,di,mv⟩with|none=>False|some (obs,R,s')=>match OR T R with|false=>False|true=>match KI nt (M9 p seg) R with|false=>False|true=>RZ obs (k s')
def X9(ops:List Oper):List Oper→Option Nat|[]=>none|⟨_,_,_,_,_,some (j,_)⟩::_=>NN ops j|_::r=>X9 ops r
def Qw(t:Nat)(b:Bool)(s:St):St:=match s with|⟨nt,tmps,objs,nx,df,wr,di,mv⟩=>⟨nt,(t,.d .bool b)::tmps,objs,nx,df,t::wr,di,mv⟩
def TD(τ:Ad)(κ:Ar)(T:List (Nat×List Nat))(ops:List Oper)(n p:Nat)(seg:List Oper)(s:St)(k:St→Prop):Prop:=match s with|⟨nt,tmps,objs,nx,df,wr,di,mv⟩=>match Lj τ κ false T (M9 p seg) ops nx tmps p seg ⟨nt,tmps,objs,nx+n,df,wr,di,mv⟩with|some _=>NP τ κ false T ops n p seg ⟨nt,tmps,objs,nx,df,wr,di,mv⟩ k|none=>match X9 ops seg with|none=>False|some t=>match AW t tmps with|.d .bool b=>cond b (NP τ κ true T ops n p seg (Qw t true ⟨nt,tmps,objs,nx,df,wr,di,mv⟩) k) (NP τ κ true T ops n p seg (Qw t false ⟨nt,tmps,objs,nx,df,wr,di,mv⟩) k)|_=>False
theorem uF{cx:Cx}{s:St}{t:Nat}{b:Bool}(hv:AW t s.tmps=.d .bool b){a:Act}{w:World}(r:Av P cx s a w):AR s (Qw t b s)∧Av P cx (Qw t b s) a w:=by
 obtain⟨nt,tmps,objs,nx,df,wr,di,mv⟩:=s;obtain⟨E,rfl,r1⟩:=r;have hl:∀u,AW u ((t,V.d .bool b)::tmps)=AW u tmps:=λu=>by
  rw[CC];split;·rename_i e;rw[←e];exact hv.symm
  ·rfl
 refine⟨⟨rfl,zB _,λ_ h=>zD _ h,λ_ h=>h,λ_ h=>h,λu hu=>hl u,λ_ _=>rfl,λ_=>rfl⟩,E,rfl,r1.good,r1.fresh,r1.step,r1.drawn,r1.size,r1.df,λu=>?_⟩;show Z P E (AW u ((t,V.d .bool b)::tmps)) _;rw[hl];exact r1.rep u
theorem lK{cx:Cx}{T:List (Nat×List Nat)}{ops:List Oper}{n p:Nat}{seg:List Oper}{s:St}{k:St→Prop}(h:TD τ κ T ops n p seg s k){a:Act}{w:World}(r:Av P cx s a w):∃dec s1,AR s s1∧Av P cx s1 a w∧NP τ κ dec T ops n p seg s1 k:=by
 obtain⟨nt,tmps,objs,nx,df,wr,di,mv⟩:=s;unfold TD at h;simp only at h;split at h;·exact⟨false,_,.refl _,r,h⟩
 ·split at h;·exact h.elim
  ·rename_i t _;split at h;·rename_i b hv;obtain⟨h1,h2⟩:=uF (P:=P) (cx:=cx) (s:=⟨nt,tmps,objs,nx,df,wr,di,mv⟩) hv r;cases b with|true=>exact⟨true,_,h1,h2,h⟩|false=>exact⟨true,_,h1,h2,h⟩
   ·exact h.elim
def LW(τ:Ad)(κ:Ar)(X:XT)(T:List (Nat×List Nat))(ops:List Oper)(n:Nat):List Nat→Nat→List Oper→St→(St→Prop)→Prop
 |[],p,rest,s,k=>match rest with|[]=>k s|_=>False
 |q::qs,p,rest,s,k=>match O3 T q q (n-q)with|false=>False|true=>match Nat.beq q (p+1)with
  |true=>match rest with|[]=>False|o::r=>Ei τ κ X ops [o] [] s λs'=>LW τ κ X T ops n qs q r s' k
  |false=>match Mh (q-p) rest with|(seg,r)=>match Nat.beq (p+seg.length) q with|false=>False|true=>TD τ κ T ops n p seg s λs'=>LW τ κ X T ops n qs q r s' k
theorem Vb{α:Type}:∀{n:Nat}{l:List α},(Mh n l).1=l.take n∧(Mh n l).2=l.drop n|0,l=>⟨rfl,rfl⟩|n+1,[]=>⟨rfl,rfl⟩|n+1,x::l=>by have :=Vb (n:=n) (l:=l);simp only[Mh,ZCH,ZBW];exact⟨by rw[this.1],this.2⟩
theorem AR.app(r:Rc)(s:St):AR s (r.app s):=by
 obtain⟨i,dst,v,ed,ks⟩:=r;obtain⟨nt,tmps,objs,nx,df,wr,di,mv⟩:=s;refine⟨rfl,zB _,λt ht=>?_,λl hl=>?_,λ_ h=>h,λt ht=>?_,λl hl=>?_,λ_=>rfl⟩;·cases dst with|none=>exact ht|some d=>exact zD _ ht
 ·exact ZAj _ hl
 ·cases dst with|none=>rfl|some d=>have ht:t∉d::wr:=ht;simp only[zO,ZAX]at ht;show AW t ((d,v)::tmps)=_;rw[CC,yP (ZAM ht.1)]
 ·have hl:l∉Jc ed++di:=hl;simp only[zM,ZAX]at hl;show AA l (ed++objs)=_;rw[Lf];cases h:AA l ed with|none=>rfl|some o=>exact absurd (OD h) hl.1
theorem AR.replay(p:Nat→Bool):∀(R:List Rc)(s:St),AR s (replay p R s)
 |[],s=>.refl s|r::rs,s=>by
  simp only[YtldikbpclaeajaaGreatDoor.replay];split;·exact(AR.app r s).trans (AR.replay p rs _)
  ·exact AR.replay p rs s
def Bd(n p:Nat)(listed:Array Bool):Prop:=listed.size=n∧∀j,j<n→listed.getD j false=decide (j<p)
def PN(n:Nat)(listed:Array Bool):Nat:=((List.range n).filter λj=>!listed.getD j false).length
theorem kT{p p':Nat→Bool}{i:Nat}(hi:p i=true)(hi':p' i=false)(hp:∀j,p' j=true→p j=true):∀{l:List Nat},i∈l→(l.filter p').length<(l.filter p).length:=by
 have hle:∀l:List Nat,(l.filter p').length≤(l.filter p).length:=by intro l;induction l with|nil=>simp|cons x l ih=>
  simp only[List.filter_cons];split;·rename_i h;rw[yS (hp x h)];simpa using ih
  ·split;·simp;omega
   ·exact ih
 intro l h;induction l with|nil=>cases h|cons x l ih=>
  simp only[List.filter_cons];rcases List.mem_cons.1 h with rfl|h;·rw[yS hi,yP (by rw[hi'];simp)];have :=hle l;simp;omega
  ·have :=ih h;split;·rename_i h';rw[yS (hp x h')];simpa using this
   ·split;·simp;omega
    ·exact this
theorem LC{listed:Array Bool}{i j:Nat}(hi:i<listed.size):(listed.setIfInBounds i true).getD j false=(listed.getD j false||decide (j=i)):=by
 by_cases e:j=i;·subst e;simp[zH,hi]
 ·rw[getD_set_ne false (ZAM e)];simp[e]
theorem Wj{n i:Nat}{listed:Array Bool}(hs:listed.size=n)(hi:i<n)(hl:listed.getD i false=false):PN n (listed.setIfInBounds i true)<PN n listed:=by refine kT (i:=i) (by simp only[hl];rfl) (by rw[LC (by omega)];simp) (λj hj=>?_) (List.mem_range.2 hi);rw[LC (by omega)]at hj;cases h:listed.getD j false with|false=>rfl|true=>rw[h]at hj;cases hj
def Mo(T:List (Nat×List Nat))(n:Nat)(listed:Array Bool):Prop:=∀i,i<n→listed.getD i false=true→∀j∈Bx i T,listed.getD j false=true
theorem VF{ops:Array Oper}{T:List (Nat×List Nat)}(hT:PT ops T){listed:Array Bool}(hd:Mo T ops.size listed){i:Nat}(hi:i∈Region.ready .any ops listed):i<ops.size∧listed.getD i true=false∧∀j∈Bx i T,listed.getD j false=true:=by
 obtain⟨h1,o,h2,h3⟩:=mem_ready.1 hi;have AY:i<ops.size:=(Array.getElem?_eq_some_iff.1 h2).1;refine⟨AY,h1,λj hj=>?_⟩;obtain⟨e,he,hb,T4⟩:=hT.back i o j h2 hj;have Nv:=h3 e he hb;rcases T4 with h|h;·rw[←h];exact Nv
 ·exact hd e.on (Nat.lt_trans (hT.lt i e.on AY (hT.edge i o e h2 he hb)) AY) Nv j h
theorem Pq{listed:Array Bool}{n j:Nat}(hs:listed.size=n)(hj:j<n):listed.getD j true=listed.getD j false:=by rw[zH,zH,ZAN (by omega)];rfl
theorem bO{ops:Array Oper}{T:List (Nat×List Nat)}(hT:PT ops T){listed:Array Bool}(hs:listed.size=ops.size):∀i,i<ops.size→listed.getD i false=false→Region.ready .any ops listed≠[]:=by intro i;induction i using Nat.strongRecOn with|_ i ih=>intro hi hl hn;have :i∈Region.ready .any ops listed:=mem_ready.2 ⟨by rw[Pq hs hi];exact hl,ops[i],ZAN hi,λe he hb=>by have AY:=hT.lt i e.on hi (hT.edge i ops[i] e (ZAN hi) he hb);cases h:listed.getD e.on false with|true=>rfl|false=>exact absurd hn (ih e.on AY (by omega) h)⟩;rw[hn]at this;cases this
theorem WU{ops:Array Oper}{T:List (Nat×List Nat)}(hT:PT ops T){p:Nat}{listed:Array Bool}(h:Bd ops.size p listed):Mo T ops.size listed:=λi hi hl j hj=>by
 have h1:=h.2 i hi;rw[hl]at h1;have h2:=hT.lt i j hi hj;have h3:i<p:=by simpa using h1.symm
 rw[h.2 j (by omega)];simp;omega
theorem jJ{ops:Array Oper}{T:List (Nat×List Nat)}(hT:PT ops T){listed:Array Bool}(hs:listed.size=ops.size)(hd:Mo T ops.size listed){i:Nat}(hi:i∈Region.ready .any ops listed):Mo T ops.size (listed.setIfInBounds i true):=λj hj hl k hk=>by
 obtain⟨h1,h2,h3⟩:=VF hT hd hi;rw[LC (by omega)]at hl⊢;rcases Bool.or_eq_true_iff.1 hl with h|h;·rw[hd j hj h k hk];rfl
 ·have :j=i:=by simpa using h
  subst this;rw[h3 k hk];rfl
end
section
variable {P : Program} {τ : Ad} {κ : Ar} {φ : Nat → Option FX}
theorem vZ{F:Fence}{n:Nat}{o:Oper}{a:Act}{w:World}{K:Act→World→Prop}{Q Q':DV}(h:∀c a w,Q' (.panic c) a w→Q (.panic c) a w)(h2:LetsOut Q'→LetsOut Q)(hh:o.wpIn F n P a w K Q'):o.wpIn F n P a w K Q:=by unfold Oper.wpIn at*;refine⟨hh.1,?_⟩;have hh:=hh.2;generalize(o.semAt F.round a.eval).run P w=r at*;cases r with
 |ok x w'=>cases x<;>simp only[Oper.uponIn]at hh⊢<;>first|exact hh|exact⟨hh.1,CallsIn.mono hh.2 λe w'' he=>by cases e<;>first|exact h _ _ _ he|exact h2 he|exact he⟩|exact⟨hh.1,RowsIn.mono hh.2 λ_ _ he=>he⟩|exact⟨hh.1,RoundIn.mono hh.2 λe w'' he=>by cases e<;>first|exact h _ _ _ he|exact h2 he|exact he⟩
 |halt x w'=>cases x<;>simp only[Oper.uponIn]at hh⊢<;>first|exact hh|exact h _ _ _ hh
theorem wB{F:Fence}{n:Nat}{ops:Array Oper}{i:Nat}{a:Act}{w:World}{K:Act→World→Prop}{Q Q':DV}(h:∀c a w,Q' (.panic c) a w→Q (.panic c) a w)(h2:LetsOut Q'→LetsOut Q)(hh:wpOpIn F n P ops Q' i K a w):wpOpIn F n P ops Q i K a w:=by
 unfold wpOpIn at*;split;·rename_i ho;rw[ho]at hh;exact hh
 ·rename_i o ho;rw[ho]at hh;simp only at hh;split;·rename_i hw;rw[yS hw]at hh;exact vZ h h2 hh
  ·rename_i hw;rw[yP hw]at hh;exact hh
theorem PY(hτ:A6 P τ)(hκ:A3 P κ){r:Option Nat}{cx:Cx}{X:XT}(hX:Mq P r cx X){ops:Array Oper}{T:List (Nat×List Nat)}(hT:PT ops T){Q:DV}:∀(qs:List Nat)(p:Nat)(rest:List Oper)(s:St)(k:St→Prop),rest=ops.toList.drop p→p≤ops.size→(∀i,p≤i→i<ops.size→∀j,j<p→j∈Bx i T)→LW τ κ X T ops.toList ops.size qs p rest s k→∀(fuel:Nat)(listed:Array Bool)(a:Act)(w:World),Bd ops.size p listed→PN ops.size listed≤fuel→Av P cx s a w→(∀s' a' w',AR s s'→k s'→Av P cx s' a' w'→Q .normal a' w')→wpAnyIn (fz r) 0 P .any ops Q fuel listed a w
 |[],p,rest,s,k,Kh,T5,Ds,h,fuel,listed,a,w,hB,hc,hr,hk=>by
  simp only[LW]at h;split at h
  ·have hp:p=ops.size:=by
    have :(ops.toList.drop p).length=0:=by rw[←Kh];rfl
    simp at this;omega
   have ZB:Region.ready .any ops listed=[]:=by refine List.eq_nil_iff_forall_not_mem.2 λi hi=>?_;obtain⟨h1,o,h2,_⟩:=mem_ready.1 hi;have AY:i<ops.size:=(Array.getElem?_eq_some_iff.1 h2).1;rw[Pq hB.1 AY,hB.2 i AY,hp]at h1;simp at h1;omega
   have hq:=hk s a w (.refl s) h hr;cases fuel with|zero=>exact⟨ZB,hq⟩|succ f=>exact⟨λ_=>hq,λi hi=>by rw[ZB]at hi;cases hi⟩
  ·exact h.elim|q::qs,p,rest,s,k,Kh,T5,Ds,h,fuel,listed,a,w,hB,hc,hr,hk=>by
  simp only[LW]at h;split at h;·exact h.elim
  ·rename_i hall;have NV:q≤ops.size→∀i,q≤i→i<ops.size→∀j,j<q→j∈Bx i T:=λhq i h1 h2 j hj=>WE hall i h1 (by omega) j hj;split at h;·
    rename_i Nz;have Nz:=yW Nz;split at h;·exact h.elim
    ·rename_i o rst;have B1:ops[p]?=some o:=by
      have :ops.toList[p]?=some o:=by have :=ZAs (xs:=ops.toList) (i:=p) (j:=0);rw[←Kh]at this;simpa using this.symm
      simpa using this
     have AY:p<ops.size:=(Array.getElem?_eq_some_iff.1 B1).1;have T8:rst=ops.toList.drop q:=by have :=zX (List.drop 1) Kh;rw[Nz];simpa[ZDT]using this
     have UF:listed.getD p false=false:=by rw[hB.2 p AY];simp
     have hB':Bd ops.size q (listed.setIfInBounds p true):=⟨by simpa using hB.1,λj hj=>by
      rw[LC (by rw[hB.1];exact AY),hB.2 j hj,Nz];by_cases e:j=p;·subst e;simp
      ·have :(j<p+1)=(j<p):=by apply propext;omega
       simp[e,this]⟩;have hcs:=Wj hB.1 AY UF;cases fuel with|zero=>omega|succ f=>
      refine⟨λhn=>absurd hn (bO hT hB.1 p AY UF),λi hi=>?_⟩;obtain⟨h1,h2,h3⟩:=VF hT (WU hT hB) hi;have Yn:i=p:=by
       rw[Pq hB.1 h1,hB.2 i h1]at h2;have h2:p≤i:=by simpa using h2
       by_cases e:i=p;·exact e
       ·have :=h3 p (NV (by omega) i (by omega) h1 p (by omega));rw[UF]at this;cases this
      subst Yn;have :=Us (Q:=λe a w=>match e with|.normal=>wpAnyIn (fz r) 0 P .any ops Q f (listed.setIfInBounds i true) a w|e=>Q e a w) hτ hκ hX (ops:=ops) (l:=[o]) (is:=[i]) (by simp[B1]) h hr λs' a' w' hi' hq' hr'=>PY hτ hκ hX hT qs q rst s' k T8 (by omega) (NV (by omega)) hq' f _ a' w' hB' (by omega) hr' λs'' a'' w'' hj hq'' hr''=>hk s'' a'' w'' (hi'.trans hj) hq'' hr'';rw[wpOpsIn_cons]at this;exact wB (λc a w h=>h) (λ⟨a,w,h⟩=>⟨a,w,h⟩) this
   ·generalize HQ:Mh (q-p) rest=sr at h;obtain⟨seg,rst⟩:=sr;simp only at h;have ZE:seg=rest.take (q-p):=by rw[←(Vb (n:=q-p) (l:=rest)).1,HQ]
    have T8:rst=rest.drop (q-p):=by rw[←(Vb (n:=q-p) (l:=rest)).2,HQ]
    split at h;·exact h.elim
    ·rename_i hlen;have hlen:=yW hlen;obtain⟨dec,s1,hi1,hr,h⟩:=lK h hr;replace hk:∀s' a' w',AR s1 s'→k s'→Av P cx s' a' w'→Q .normal a' w':=λs' a' w' hi=>hk s' a' w' (hi1.trans hi);obtain⟨nt,tmps,objs,nx,df,wr,di,mv⟩:=s1;unfold NP at h;simp only at h;split at h;·exact h.elim
     ·rename_i obs R s' hg;split at h;·exact h.elim
      ·rename_i oO;split at h;·exact h.elim
       ·rename_i Tb;obtain⟨oM,Hr⟩:=WF h;obtain⟨k0,k1,k2,k3⟩:=X8 (R0:=[]) (s0:=⟨nt,tmps,objs,nx+ops.size,df,wr,di,mv⟩) hg (λ_ h=>by simp at h) rfl;simp only[ZAk]at k2 k3;have N0:q≤ops.size:=by
         have :seg.length≤rest.length:=by rw[ZE,zG];exact Nat.min_le_right _ _
         have h2:rest.length=ops.size-p:=by rw[Kh,ZAF,zT]
         omega
        have oZ:∀j o,seg[j]?=some o→ops[p+j]?=some o:=λj o hj=>by
         rw[ZE,zP]at hj;split at hj;·rw[Kh,ZAs]at hj;simpa using hj
         ·cases hj
        have ZD:rst=ops.toList.drop q:=by rw[T8,Kh,ZDT];congr 1;omega
        have Pw:∀r∈R,r.i<ops.size:=λr hr=>by have :=k1 r hr;omega
        have hinv0:AR ⟨nt,tmps,objs,nx,df,wr,di,mv⟩ ⟨nt,tmps,objs,nx+ops.size,df,wr,di,mv⟩:=⟨rfl,by simp,λ_ h=>h,λ_ h=>h,λ_ h=>h,λ_ _=>rfl,λ_ _=>rfl,λ_=>rfl⟩;have key:∀(fuel:Nat)(listed:Array Bool)(a:Act)(E:AH),listed.size=ops.size→Mo T ops.size listed→(∀j,j<p→listed.getD j false=true)→(∀j,j<ops.size→q≤j→listed.getD j false=false)→PN ops.size listed≤fuel→A5 P cx (replay (λj=>listed.getD j false) R ⟨nt,tmps,objs,nx+ops.size,df,wr,di,mv⟩) a E→(∀r∈R,listed.getD r.i false=false→E.loc (nx+r.i)=none)→wpAnyIn (fz r) 0 P .any ops Q fuel listed a E.w:=by intro fuel;induction fuel with
         |zero=>
          intro listed a E hs hd F0 KY hc hr hf;have TQ:∀j,j<ops.size→listed.getD j false=true:=λj hj=>by cases hl:listed.getD j false with|true=>rfl|false=>have hm:j∈(List.range ops.size).filter λj=>!listed.getD j false:=List.mem_filter.2 ⟨List.mem_range.2 hj,by simp only[hl];rfl⟩;rw[zR (Nat.le_zero.1 hc)]at hm;cases hm
          have TH:Bd ops.size q listed:=⟨hs,λj hj=>by
           rw[TQ j hj];by_cases e:j<q;·simp[e]
           ·have :=KY j hj (by omega);rw[TQ j hj]at this;cases this⟩;refine PY hτ hκ hX hT qs q rst s' k ZD N0 (NV N0) Hr 0 listed a E.w TH hc ?_ λs'' a'' w'' hj hq'' hr''=>hk s'' a'' w'' ((hinv0.trans (by rw[k2];exact AR.replay _ _ _)).trans hj) hq'' hr'';refine⟨E,rfl,?_⟩;rw[k2,Ob (p:=λ_=>true) (q:=λj=>listed.getD j false)];·exact hr
          ·intro r hr;exact(TQ r.i (Pw r hr)).symm|succ f ih=>
          intro listed a E hs hd F0 KY hc hr hf;by_cases Th:∀j,p≤j→j<q→listed.getD j false=true
          ·have TH:Bd ops.size q listed:=⟨hs,λj hj=>by
            by_cases e:j<q
            ·by_cases e2:j<p;·rw[F0 j e2];simp[e]
             ·rw[Th j (by omega) e];simp[e]
            ·rw[KY j hj (by omega)];simp[e]⟩;refine PY hτ hκ hX hT qs q rst s' k ZD N0 (NV N0) Hr (f+1) listed a E.w TH hc ?_ λs'' a'' w'' hj hq'' hr''=>hk s'' a'' w'' ((hinv0.trans (by rw[k2];exact AR.replay _ _ _)).trans hj) hq'' hr'';refine⟨E,rfl,?_⟩;rw[k2,Ob (p:=λ_=>true) (q:=λj=>listed.getD j false)];·exact hr
           ·intro r hr;have :=k1 r hr;exact(Th r.i this.1 (by omega)).symm
          ·have :∃j,p≤j∧j<q∧listed.getD j false=false:=by refine ZAf λhn=>Th λj h1 h2=>?_;cases hl:listed.getD j false with|true=>rfl|false=>exact absurd ⟨j,h1,h2,hl⟩ hn
           obtain⟨j,FP,hj2,hj3⟩:=this;refine⟨λhn=>absurd hn (bO hT hs j (by omega) hj3),λi hi=>?_⟩;obtain⟨h1,h2,h3⟩:=VF hT hd hi;rw[Pq hs h1]at h2;have Yn:p≤i:=by refine Nat.le_of_not_lt λAY=>?_;rw[F0 i AY]at h2;cases h2
           have xV:i<q:=by refine ZBb λhle=>?_;have :=h3 j (NV N0 i hle h1 j hj2);rw[hj3]at this;cases this
           obtain⟨o,ho⟩:∃o,seg[i-p]?=some o:=⟨seg[i-p],zK (by omega)⟩;have Nj:=oZ _ _ ho;rw[show p+(i-p)=i from by omega]at Nj;obtain⟨ob,rc,m1,m2,m3⟩:=k3 _ _ ho;rw[show p+(i-p)=i from by omega]at m1;refine lL (L:=λj=>listed.getD j false) (n0:=nx) hτ hκ hT Nj m1 (oM ob m2) m3 k0 oO Tb Pw rfl h2 (λq hq hl j hj _=>hd q.i (Pw q hq) hl j hj) (λj hj _=>h3 j hj) hr hf λa' E' hr' hf'=>?_;have Kk:∀j,(listed.setIfInBounds i true).getD j false=Es (λj=>listed.getD j false) i j:=λj=>by rw[LC (by omega)];rfl
           refine ih (listed.setIfInBounds i true) a' E' (by simpa using hs) (jJ hT hs hd hi) (λj hj=>?_) (λj hj ZA=>?_) ?_ ?_ λq hq hl=>hf' q hq (by rw[←Kk];exact hl);·rw[LC (by omega),F0 j hj];rfl
           ·rw[LC (by omega),KY j hj ZA];simp;omega
           ·have :=Wj hs h1 h2;omega
           ·rw[Ob (p:=λj=>(listed.setIfInBounds i true).getD j false) (q:=Es (λj=>listed.getD j false) i)];·exact hr'
            ·intro r _;exact Kk r.i
        obtain⟨E,rfl,r1⟩:=hr;refine key fuel listed a E hB.1 (WU hT hB) (λj hj=>by rw[hB.2 j (by omega)];simpa using hj) (λj hj ZA=>?_) hc ?_ λr hr _=>r1.fresh _ (by show nx≤nx+r.i;omega)
        ·have Nz:p≤q:=by omega
         rw[hB.2 j hj];simp;omega
        ·rw[VN];·exact⟨r1.good,λl hl=>r1.fresh l (by have :nx+ops.size≤l:=hl;show nx≤l;omega),r1.step,r1.drawn,r1.size,r1.df,r1.rep⟩
         ·intro r hr;have :=k1 r hr;rw[hB.2 r.i (Pw r hr)];simp;omega
def bF(l:List Nat):Nat→Nat→Nat|0,k=>k|f+1,k=>match Be k l with|true=>bF l f (k+1)|false=>k
def M6(T:List (Nat×List Nat)):Nat→Nat→Nat→List Nat→List Nat|0,_,_,acc=>acc|i+1,n,m,acc=>match bF (Bx i T) n 0 with|k=>match Nat.ble k m with
 |true=>match Nat.ble i k with
  |true=>match i with|0=>acc|j+1=>M6 T i n k (i::acc)
  |false=>M6 T i n k acc
 |false=>match Nat.ble i m with
  |true=>match i with|0=>acc|j+1=>M6 T i n m (i::acc)
  |false=>M6 T i n m acc
def PX(τ:Ad)(κ:Ar)(X:XT)(l:List Oper)(s:St)(k:St→Prop):Prop:=match l.length with|n=>match bE 0 l []with|T=>match OV T 0 l with|false=>False|true=>match M6 T n n n [n]with|qs=>LW τ κ X T l n qs 0 l s k
theorem Av.drawn{cx:Cx}{s:St}{a:Act}{w:World}(h:Av P cx s a w):Av P cx s a {w with drawn:=w.drawn+1}:=by obtain⟨E,rfl,r⟩:=h;obtain⟨g,st⟩:=r.good.at (w:={E.w with drawn:=E.w.drawn+1}) rfl (ZBR _) rfl rfl rfl;exact⟨E.at _,rfl,g,r.fresh,by simpa using r.step.trans st,zV r.drawn (ZBR _),r.size,r.df.ext st.ext,λt=>(r.rep t).mono st.ext⟩
theorem jK(hτ:A6 P τ)(hκ:A3 P κ)(hm:P.follows .mixedOrders=true){r:Option Nat}{cx:Cx}{X:XT}(hX:Mq P r cx X){id:Nat}{ops:Array Oper}{s:St}{k:St→Prop}{R:DV}(h:PX τ κ X ops.toList s k){a:Act}{w:World}(hr:Av P cx s a w)(hk:∀s' a' w',AR s s'→k s'→Av P cx s' a' w'→R .normal a' w'):(Code.region id ops true).wpIn (fz r) 0 P R a w:=by
 refine wpIn_region_any hm ?_;unfold PX at h;simp only at h;split at h;·exact h.elim
 ·rename_i hp;refine PY hτ hκ hX (PT.of hp) _ 0 _ s k rfl (ZAl _) (λi _ _ j hj=>absurd hj (by omega)) (by simpa using h) _ _ a _ ⟨by simp,λj hj=>?_⟩ ?_ hr.drawn hk;·simp[zH,hj]
  ·refine zV (ZCb _ _) (by simp)
theorem jL(hτ:A6 P τ)(hκ:A3 P κ)(hm:P.follows .mixedOrders=true):RO P (PX τ κ):=λX id ops s k cx r R hX h a w hr hk=>jK hτ hκ hm hX h hr hk
abbrev walk(τ:Ad)(κ:Ar)(φ:Nat→Option FX):EG:=VV τ κ φ (PX τ κ) 8
theorem CY(hτ:A6 P τ)(hκ:A3 P κ)(hφ:∀g fi,φ g=some fi→fi.Ok P g)(hm:P.follows .mixedOrders=true):CM P (walk τ κ φ):=bY hτ hκ hφ (jL hτ hκ hm) 8
end
section
variable {P : Program} {τ : Ad} {κ : Ar} {φ : Nat → Option FX}
def CO.{u}{α:Type u}(n:Nat):List (Nat×α)→Option α|[]=>none|(m,x)::r=>match Nat.beq m n with|true=>some x|false=>CO n r
def Bp(n:Nat):List (Nat×CX)→Option CX|[]=>none|(m,x)::r=>match Nat.beq m n with|true=>some x|false=>Bp n r
theorem Sv{α:Type}{n:Nat}{x:α}:∀{l:List (Nat×α)},CO n l=some x→(n,x)∈l
 |[],h=>by cases h|(m,y)::r,h=>by
  simp only[CO]at h;split at h;·rename_i e;cases h;rw[yW e];exact ZCM
  ·exact zD _ (Sv h)
theorem iQ:A3 P λn=>Bp n []:=λ_ _ h=>by cases h
theorem R1{f:Nat}{c:CX}{l:List (Nat×CX)}(h:c.Ok P f)(k:A3 P λn=>Bp n l):A3 P λn=>Bp n ((f,c)::l):=λg d hd=>by
 simp only[Bp]at hd;split at hd;·rename_i e;cases hd;rw[←yW e];exact h
 ·exact k g d hd
theorem AP{f:Nat}{c:AM}{l:List (Nat×CX)}(h:AN P f c)(k:A3 P λn=>Bp n l):A3 P λn=>Bp n ((f,.con c)::l):=R1 (c:=.con c) h k
theorem W7{f:Nat}{r:G1}{l:List (Nat×CX)}(h:Ij P f r)(k:A3 P λn=>Bp n l):A3 P λn=>Bp n ((f,.row r)::l):=R1 (c:=.row r) h k
theorem iP{f:Nat}{l:List (Nat×CX)}(h:J0 P f)(k:A3 P λn=>Bp n l):A3 P λn=>Bp n ((f,.ins)::l):=R1 (c:=.ins) h k
theorem Lp.wf{σ:Type}{body:σ→(σ→Prop)→Prop}(I:σ→Prop)(μ:σ→Nat)(h:∀y,I y→∀R:σ→Prop,(∀y',I y'→μ y'<μ y→R y')→body y R){x:σ}(hx:I x):Lp body x:=by
 intro R hR;have key:∀n y,μ y<n→I y→R y:=by intro n;induction n with|zero=>exact λy hn=>absurd hn (Nat.not_lt_zero _)|succ n ih=>exact λy hn hy=>hR _ (h y hy R λy' hy' AY=>ih y' (by omega) hy')
 exact key (μ x+1) x (Nat.lt_succ_self _) hx
end
def RK:Ty→List Value|.int k=>[.int k 0]|.bool=>[.bool false]|.str=>[.string ByteArray.empty]|.sl _=>[.slice none 0 0]|.pair a b=>RK a++RK b|.unit=>[]
theorem Rv(w:World)(S:Nat→Prop):∀T:Ty,BE w S T T.dflt (RK T)|.int _=>rfl|.bool=>rfl|.str=>rfl|.sl _=>⟨none,0,rfl,⟨zB _,ZAl _⟩,λh=>absurd rfl h⟩|.pair a b=>⟨_,_,rfl,Rv w S a,Rv w S b⟩|.unit=>rfl
theorem vJ{P:Program}{l:List (Nat×TI)}(h:∀p∈l,p.2.Ok P p.1):A6 P λt=>CO t l:=λt i ht=>h (t,i) (Sv ht)
theorem cZ{P:Program}{l:List (Nat×TI)}(h:∀p∈l,p.2.Ok P p.1)(q:Nat×TI→Bool):A6 P λt=>CO t (l.filter q):=λt i ht=>h (t,i) (List.mem_filter.1 (Sv ht)).1
theorem TI.ok_mk{P:Program}{t:TypeId}{ti:TI}(h:(P.info? t).map (λi=>(i.size,i.bytes,i.zero.map λz=>(z.cells.toList,z.cells.size)))=some (ti.size,ti.bytes,some (ti.zero,ti.size)))(hk:match ti.k with|.int k=>P.underlying t=some (.int k)|.bool=>P.underlying t=some .bool|.str=>P.underlying t=some .string|.sl e=>P.underlying t=some (.slice e)|.arr n e=>P.underlying t=some (.array n e)∧∃zs sz,(P.info? e).map (λie=>(ie.zero.map λz=>z.cells.toList,ie.size))=some (some zs,sz)∧ti.zero=(List.replicate n zs).flatten∧ti.size=n*sz∧0<n∧n≤9223372036854775807∧0<sz|.st offs=>∃fs,P.underlying t=some (.struct fs)∧fs.toList.map (λf=>(f.offset,P.cellsOf f.type))=offs∧∀p∈offs,p.2≠0|.ptr=>∃e,P.underlying t=some (.pointer e)|.map k e=>P.underlying t=some (.map k e)∧(P.info? e).map (λie=>ie.zero.map λz=>z.oneCell')=some (some true)|.fn=>∃ps rs v,P.underlying t=some (.func ps rs v)|.other=>True)(hc:match ti.code with|some T=>T.size=ti.size∧0<ti.size∧RK T=ti.zero|none=>True):ti.Ok P t:=by
 obtain⟨k,size,bytes,zero,code⟩:=ti;refine⟨?_,?_,λT hT=>?_⟩;·simp only[ZAA,ZBM]at h;obtain⟨i,hi,h1,h2,h3⟩:=h;obtain⟨z,hz,h4,h5⟩:=h3;exact⟨i,z,hi,h1,h2,hz,h4,h5⟩
 ·cases k;case arr n e=>obtain⟨h1,zs,sz,h2,h3⟩:=hk;simp only[ZAA,ZBM]at h2;obtain⟨ie,KZ,⟨ze,N5,rfl⟩,rfl⟩:=h2;exact⟨h1,ie,ze,KZ,N5,h3⟩
  case map k e=>obtain⟨h1,h2⟩:=hk;simp only[ZAA]at h2;obtain⟨ie,KZ,ze,N5,h3⟩:=h2;exact⟨h1,ie,ze,KZ,N5,h3⟩
  all_goals exact hk
 ·simp only at hT;subst hT;obtain⟨h1,h2,h3⟩:=hc;exact⟨h1,h2,λw S=>by simp only at h3;rw[←h3];exact Rv w S T⟩
def Ck(f:Func):FI:=⟨f.ntmps,f.results.toList,match f.body with|some c=>c|none=>.skip⟩
theorem AK{P:Program}{g:FuncId}{f:Func}(h:P.funcs[g]?=some f)(hb:f.body.isSome=true)(hn:(f.name== "runtime.NumGoroutine")=false):(Ck f).Ok P g:=by refine⟨f,h,?_,rfl,rfl,hn⟩;unfold Ck;cases hf:f.body with|some c=>rfl|none=>rw[hf]at hb;cases hb
theorem lC{P:Program}:∀g fx,(λn=>CO n ([]:List (Nat×FX))) g=some fx→fx.Ok P g:=λ_ _ h=>by cases h
theorem GM{P:Program}{l:List (Nat×FX)}{f:Nat}{x:FX}(h:x.Ok P f)(k:∀g fx,(λn=>CO n l) g=some fx→fx.Ok P g):∀g fx,(λn=>CO n ((f,x)::l)) g=some fx→fx.Ok P g:=λg fx hg=>by
 simp only[CO]at hg;split at hg;·rename_i e;cases hg;rw[←yW e];exact h
 ·exact k g fx hg
theorem AQ{P:Program}{τ:Ad}(hτ:A6 P τ){run:EG}(hrun:CM P run){A:An}{f:FuncId}{fi:FI}(hok:fi.Ok P f){ps:List PS}{rs:List Ty}{pre:Option (B9 ps→Prop)}{fn:B9 ps→BR rs}{Wp:B9 ps→(BR rs→Prop)→Prop}(hw:∀xs Q,Wp xs Q=Fu τ run A fi ps rs xs Q)(hs:∀xs,Kr ps xs→A0 (AM.ob ⟨ps,pre,λxs=>AL rs (fn xs)⟩ xs)→Wp xs λr=>r=fn xs):AN P f ⟨ps,pre,λxs=>AL rs (fn xs)⟩:=iF hτ hrun hok λxs hl hp=>hw xs _▸hs xs hl hp
section
variable {P : Program} {τ : Ad} {κ : Ar}
end
section
variable {P : Program} {τ : Ad} {κ : Ar}
end
end Go.Proofs.YtldikbpclaeajaaGreatDoor
