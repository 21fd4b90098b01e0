/- Part of a proof that a law of the program holds for every input: how abstract states follow the program. No conditions. -/
import Derived.RangeFuncIn
import Derived.RangeFuncOwn
import Derived.RangeFuncRecord
import Derived.Test.YtgpdnmfpgkkgcaaGreatDoorF01
namespace Go.Proofs.YtgpdnmfpgkkgcaaGreatDoor
open Go
set_option linter.unusedVariables false
section
variable {P:Program} {τ:Zar} {κ:Z1}
def freezeL:List Nat→St→St
 | [],s=>s
 | l::r,s=>freezeL r (s.freeze l)
theorem Zkn{cx:Cx}:∀ (ks:List Nat) (s:St),Wk P cx s (freezeL ks s)
 | [],s=>.refl s
 | l::r,s=>(Ze8 l).trans (Zkn r _)
theorem Inv.freezeL:∀ (ks:List Nat) (s:St),Inv s (freezeL ks s)
 | [],s=>.refl s
 | l::r,s=>(Inv.freeze l s).trans (Inv.freezeL r _)
def Zv4(κ:Z1)(f:V):Option (Option ZqN):=match f with
 | .fn (.func g) [] []=>match κ g with
   | some (.row r)=>some (some r)
   | some .ins=>some none
   | _=>none
 | _=>none
def ZuD(os:Zat)(args:List V):Option Out:=match args with
 | [.osl l,.d (.int .i64) i,.osl k]=>match Nat.beq l k with
   | true=>none
   | false=>match Zv l os with
     | some (.row (.int .i64) xs)=>match Zv k os with
       | some (.row (.int .i64) zs)=>some ⟨some (0≤i∧i≤(List.length (α:=Int) xs:Int)∧(List.length (α:=Int) xs+List.length (α:=Int) zs)*8≤140737488355328),.osl l,some (l,.row (.int .i64) (List.take (α:=Int) i.toNat xs++zs++List.drop (α:=Int) i.toNat xs),true)⟩
       | _=>none
     | _=>none
 | _=>none
def Zks(κ:Z1)(os:Zat)(r:Option ZqN)(args:List V)(n:Nat):Option Out:=match r with
 | none=>ZuD os args
 | some ⟨T,false,ps,pre,fn⟩=>match fkL args with
   | none=>match ZkY κ 3 ps args with
     | some ys=>some ⟨some (pre [] ys),.osl n,some (n,.row T (fn [] ys),false)⟩
     | none=>none
   | some _=>none
 | some ⟨T,true,ps,pre,fn⟩=>match args with
   | .osl l::rest=>match Zv l os with
     | some (.row T' xs) => if h : T' = T then match fkL rest with
      | none=>match ZkY κ 3 ps rest with
        | some ys=>some ⟨some (pre (h▸xs) ys),.osl l,some (l,.row T (fn (h▸xs) ys),true)⟩
        | none=>none
      | some _=>none
       else none
     | _=>none
   | _=>none
inductive MkC where
 | clo (h:Nat)
 | lin (c:Zxd)
def ZyA(P:Program)(g:FuncId):MkC→Prop
 | .clo h=>Zun P g h
 | .lin c=>ZqR P g c
def ZwQ(κ:Z1)(f:V):Option MkC:=match f with
 | .fn (.func g) [] []=>match κ g with
   | some (.clo h)=>some (.clo h)
   | some (.lin c)=>some (.lin c)
   | _=>none
 | _=>none
def Zps(κ:Z1)(h:MkC)(args:List V)(n:Nat):Option Out:=match h with
 | .clo h=>match args with
   | [v]=>match v.solid with
     | true=>some ⟨none,.fn (.func h) [] [.er [v]],none⟩
     | false=>none
   | _=>none
 | .lin ⟨ps,pre,fn⟩=>match fkL args with
   | none=>match ZkY κ 3 ps args with
     | some ys=>some ⟨some (pre ys),.agg [.osl n,.d (.int .i64) (fn ys).2],some (n,.row (.int .i64) (fn ys).1,false)⟩
     | none=>none
   | some _=>none
theorem Zu9{P:Program}{κ:Z1}(hκ:Zak P κ){f:V}{h:MkC}(hc:ZwQ κ f=some h):∃ g,f=.fn (.func g) [] []∧ZyA P g h:=by
 unfold ZwQ at hc
 split at hc
 ·rename_i g
  split at hc
  ·rename_i h' hk;cases hc;exact⟨g,rfl,hκ g _ hk⟩
  ·rename_i c hk;cases hc;exact⟨g,rfl,hκ g _ hk⟩
  ·cases hc
 ·cases hc
def ZuJ(τ:Zar)(κ:Z1)(op:Op)(tmps:List (Nat×V))(objs:Zat)(nx:Nat):Option Out:=match op with
 | .call { callee:=.value x,args,.. }=>match Zv4 κ (evV tmps x) with
   | some r=>Zks κ objs r (Zb4 tmps args.toList) nx
   | none=>match ZwQ κ (evV tmps x) with
     | some h=>Zps κ h (Zb4 tmps args.toList) nx
     | none=>match ZjK κ objs (evV tmps x) (Zb4 tmps args.toList) with
       | .ok ob v=>some ⟨ob,v,none⟩
       | _=>none
 | op=>eff τ op tmps objs nx
def ZkB(objs:Zat)(vs:List V):List Nat:=match Zut 9 objs vs with
 | some (_,ks)=>ks
 | none=>[]
def Zqn(τ:Zar)(κ:Z1)(op:Op)(tmps:List (Nat×V))(objs:Zat):List Nat:=match op with
 | .buildSlice t _ parts=>match τ t with
   | some ⟨.sl e,_,_,_,_⟩=>match τ e with
     | some ⟨_,_,_,_,some _⟩=>ZkB objs (Zb4 tmps (parts.toList.map (·.2)))
     | _=>[]
   | _=>[]
 | .store _ a x=>match evV tmps a with
   | .rref l _ _=>match Zv l objs with
     | some (.vrow ..)=>[]
     | _=>ZkB objs [evV tmps x]
   | _=>[]
 | .mapUpdate _ _ _ x=>ZkB objs [evV tmps x]
 | .call { callee:=.value x,args,.. }=>match Zv4 κ (evV tmps x) with
   | some none=>[]
   | some (some r)=>match r.own with
     | false=>ZkB objs (Zb4 tmps args.toList)
     | true=>ZkB objs (Zb4 tmps args.toList).tail
   | none=>match ZwQ κ (evV tmps x) with
     | some (.lin _)=>ZkB objs (Zb4 tmps args.toList)
     | some (.clo _)=>[]
     | none=>match ZjK κ objs (evV tmps x) (Zb4 tmps args.toList) with
       | .frz ks=>ks
       | _=>[]
 | _=>[]
def stepU(τ:Zar)(κ:Z1)(dst:Option Nat)(op:Op)(s:St):Option (Option Prop×St):=match s with
 | ⟨nt,tmps,objs,nx,df,wr,di,mv⟩=>match freezeL (Zqn τ κ op tmps objs) ⟨nt,tmps,objs,nx,df,wr,di,mv⟩ with
   | ⟨nt,tmps,objs,nx,df,wr,di,mv⟩=>match ZuJ τ κ op tmps objs nx with
     | none=>none
     | some ⟨ob,v,ed⟩=>match ZuB nx df ed with
       | false=>none
       | true=>match (St.mk nt tmps objs nx df wr di mv).edit ed with
         | ⟨nt,tmps,objs,nx,df,wr,di,mv⟩=>match (St.mk nt tmps objs nx df wr di mv).setT dst v with
           | none=>none
           | some s'=>some (ob,s')
def V.bare:V→V
 | .when _ v=>v
 | v=>v
def Zor:List (Nat×V)→List (Nat×V)
 | []=>[]
 | (t,v)::r=>(t,v.bare)::Zor r
theorem ZjN(t:Nat):∀ l:List (Nat×V),ZbE t (Zor l)=(ZbE t l).bare
 | []=>rfl
 | (u,v)::l=>by
   rw[Zor,Zah,Zah]
   split
   ·rfl
   ·exact ZjN t l
def ZoL(tmps:List (Nat×V)):Operand→Option Bool
 | .tmp t=>match ZbE t tmps with
   | .when q _=>some q
   | _=>none
 | _=>none
def Ze6(tmps:List (Nat×V)):List Operand→List Bool
 | []=>[]
 | x::l=>match ZoL tmps x with
   | some q=>q::Ze6 tmps l
   | none=>Ze6 tmps l
def Zxx:List Bool→Prop→Prop
 | [],p=>p
 | q::l,p=>q=true∧Zxx l p
def Zhe(g:Bool)(qs:List Bool)(ob:Option Prop):Option Prop:=match qs with
 | []=>match ob with
   | none=>none
   | some p=>some (g=true→p)
 | qs=>some (g=true→Zxx qs (okP ob))
theorem ZlJ{p:Prop}:∀ {l:List Bool},Zxx l p→p∧∀ q∈l,q=true
 | [],h=>⟨h,fun q hq=>by simp at hq⟩
 | q::l,h=>by
   obtain⟨h1,h2⟩:=ZlJ h.2
   exact⟨h1,fun r hr=>(List.mem_cons.1 hr).elim (fun e=>e▸h.1) (h2 r)⟩
theorem Zdy{g:Bool}{qs:List Bool}{ob:Option Prop}(h:okP (Zhe g qs ob))(hg:g=true):okP ob∧∀ q∈qs,q=true:=by
 cases qs with
 | nil=>cases ob with
   | none=>exact⟨trivial,fun q hq=>by simp at hq⟩
   | some p=>exact ZlJ (l:=[]) (h hg)
 | cons q l=>exact ZlJ (l:=q::l) (h hg)
theorem ZfV{tmps:List (Nat×V)}:∀ {l:List Operand} {x:Operand},x∈l→∀ q,ZoL tmps x=some q→q∈Ze6 tmps l
 | y::l,x,hx,q,hq=>by
   rcases List.mem_cons.1 hx with rfl | hx
   ·simp only[Ze6,hq];exact List.mem_cons_self
   ·have:=ZfV hx q hq
    simp only[Ze6]
    split
    ·exact List.mem_cons_of_mem _ this
    ·exact this
theorem ZpH{E:Env}{tmps:List (Nat×V)}{x:Operand}{c:Value}(r:Rep P E (evV tmps x) c)(h:∀ q,ZoL tmps x=some q→q=true):Rep P E (evV (Zor tmps) x) c:=by
 cases x with
 | tmp t =>
   show Rep P E (ZbE t (Zor tmps)) c
   rw[ZjN]
   have h':∀ q v,ZbE t tmps=.when q v→q=true:=fun q v e=>h q (by simp[ZoL,e])
   change Rep P E (ZbE t tmps) c at r
   generalize ZbE t tmps=v at r h'
   cases v with
   | when q v=>cases r with | when h1 h2=>exact h1 (h' q v rfl)
   | _=>exact r
 | _=>exact r
def ZiA(u:Nat):List (Nat×V)→List (Nat×V)
 | []=>[]
 | (t,v)::r=>match Nat.beq t u with
   | true=>(t,v.bare)::ZiA u r
   | false=>(t,v)::ZiA u r
theorem ZkV(u t:Nat):∀ l:List (Nat×V),ZbE t (ZiA u l)=if t=u then (ZbE t l).bare else ZbE t l
 | []=>by simp only[ZiA];split<;>rfl
 | (k,v)::l=>by
   have ih:=ZkV u t l
   simp only[ZiA]
   split
   ·rename_i hk
    have hk:=Nat.eq_of_beq_eq_true hk
    rw[Zah,Zah]
    split
    ·rename_i e;rw[if_pos (by omega)]
    ·exact ih
   ·rename_i hk
    have hk:k≠u:=fun e=>by rw[e,Nat.beq_refl] at hk;cases hk
    rw[Zah,Zah]
    split
    ·rename_i e;rw[if_neg (by omega)]
    ·exact ih
def Zrb(op:Op)(tmps:List (Nat×V)):List (Nat×V):=match op with
 | .pick c _ _=>match c with
   | .tmp u=>ZiA u tmps
   | _=>tmps
 | _=>Zor tmps
def ZhS(op:Op)(tmps:List (Nat×V)):List Bool:=match op with
 | .pick c _ _=>Ze6 tmps [c]
 | _=>Ze6 tmps op.operands.toList
def Zjc(want:Bool)(v:V):Option Bool:=match v with
 | .d .bool b=>match want with
   | true=>some b
   | false=>some (!b)
 | .when q (.d .bool b)=>match want with
   | true=>some (q&&b)
   | false=>some (q&&!b)
 | _=>none
def Zws(ops:List Oper)(j:Nat):Option Nat:=match ops[j]? with
 | some ⟨some d,_,_,_,_,_⟩=>some d
 | _=>none
def stepG(τ:Zar)(κ:Z1)(dst:Option Nat)(op:Op)(g:Bool)(s:St):Option (Option Prop×St):=match s with
 | ⟨nt,tmps,objs,nx,df,wr,di,mv⟩=>match ZuJ τ κ op (Zrb op tmps) objs nx with
   | some ⟨ob,v,none⟩=>match (St.mk nt tmps objs nx df wr di mv).setT dst (.when g v) with
     | some s'=>some (Zhe g (ZhS op tmps) ob,s')
     | none=>none
   | _=>none
theorem ZiB{E:Env}{op:Op}{tmps:List (Nat×V)}{x:Operand}{c:Value}(hx:x∈op.operands)(r:Rep P E (evV tmps x) c)(h:∀ q∈ZhS op tmps,q=true):Rep P E (evV (Zrb op tmps) x) c:=by
 unfold Zrb
 split
 ·rename_i c0 a b
  split
  ·rename_i u
   cases x with
   | tmp t =>
     show Rep P E (ZbE t (ZiA u tmps)) c
     rw[ZkV]
     split
     ·rename_i e
      subst e
      have:=ZpH r (fun q hq=>h q (ZfV (List.mem_cons_self) q hq))
      change Rep P E (ZbE t (Zor tmps)) c at this
      rw[ZjN] at this
      exact this
     ·exact r
   | _=>exact r
  ·exact r
 ·rename_i hn
  have e:ZhS op tmps=Ze6 tmps op.operands.toList:=by
   unfold ZhS
   split
   ·rename_i c0 a b;exact absurd rfl (hn c0 a b)
   ·rfl
  rw[e] at h
  exact ZpH r (fun q hq=>h q (ZfV (Array.mem_toList_iff.2 hx) q hq))
def Zwa(P:Program)(g:FuncId):Option ZqN→Prop
 | some r=>Zlk P g r
 | none=>Zxb P g
theorem Zu2(hκ:Zak P κ){f:V}{r:Option ZqN}(h:Zv4 κ f=some r):∃ g,f=.fn (.func g) [] []∧Zwa P g r:=by
 unfold Zv4 at h
 split at h
 ·rename_i g
  split at h
  ·rename_i r' hk;cases h;exact⟨g,rfl,hκ g _ hk⟩
  ·rename_i hk;cases h;exact⟨g,rfl,hκ g _ hk⟩
  ·cases h
 ·cases h
theorem ZgM{E:Env}{g:FuncId}{c:Value}(h:Rep P E (.fn (.func g) [] []) c):c=.func (.func g) #[] #[]:=by
 obtain⟨p,q,rfl,k1,k2⟩:=ZkR h
 have h1:p=#[]:=by have:=k1.1;simpa using this
 have h2:q=#[]:=by have:=k2.1;simpa using this
 rw[h1,h2]
theorem ZeC.put {E : Env} {objs : Zat} {l : Nat} {L K : Loc} {T : Ty} {xs zs : List T.den} {w : World} (h : ZeC P E L T xs w K zs) (g : Z7 P E objs) (hobj : Zv l objs = some (.row T xs)) (hL : E.loc l = some L) :
 Z7 P (E.setL w l K) (edit objs (some (l,.row T zs,true)))∧ZcH E objs (E.setL w l K) (edit objs (some (l,.row T zs,true))) [l]:=by
 obtain⟨row,hw,hrow,hnew,hhas,_⟩:=h
 exact Z7.put g (mv:=true) (o':=.row T zs) (L':=K) hobj hL hw hrow (fun h=>by cases h) (hnew _) hhas
theorem ZrB (hκ : Zak P κ) {f : V} {r : Option ZqN} (hr : Zv4 κ f = some r) {os objs : Zat} {args : List V} {n : Nat} {out : Out} (h : Zks κ os r args n = some out) (hs : Sub os objs) (ho : okP out.ob) {E : Env} (g : Z7 P E objs) {c : Value} {cs : List Value}
 (rf:Rep P E f c) (ra:Zby P E args cs):∃ gf,c=.func (.func gf) #[] #[]∧ZbT P gf∧∃ T,
 ((∃ zs,out.v=.osl n∧out.ed=some (n,.row T zs,false)∧Calls P gf cs.toArray E.w fun e w2=>∃ K,e=.returned K.v∧E.w.grownBy w2 none∧E.w.drawn≤w2.drawn∧(∀ lo,ZaM P ⟨w2,E.S,lo⟩ K (.row T zs))∧((Obj.row T zs).has K→E.w.heap.size≤K.b)) ∨
  (∃ l L xs zs,Zv l os=some (.row T xs)∧E.loc l=some L∧out.v=.osl l∧out.ed=some (l,.row T zs,true)∧Calls P gf cs.toArray E.w fun e w2=>∃ K,e=.returned K.v∧ZeC P E L T xs w2 K zs)):=by
 obtain⟨gf,rfl,hok⟩:=Zu2 hκ hr
 have hcl:∀ vs ds,fkL vs=none→Zby P E vs ds→Zby P ⟨E.w,E.S,fun _=>none⟩ vs ds:=fun vs ds hf h=>Zds (E:=E) (E':=⟨E.w,E.S,fun _=>none⟩) (fun b hb=>⟨hb,rfl⟩) h hf
 match r,hok with
 | none,hok =>
   refine⟨gf,ZgM rf,hok.1,.int .i64,?_⟩
   unfold Zks ZuD at h
   simp only at h
   split at h
   ·rename_i l i k
    split at h
    ·cases h
    ·rename_i hne
     split at h
     ·rename_i xs hl
      split at h
      ·rename_i zs hk
       cases h
       obtain⟨h0,h1,h2⟩:=ho
       match cs,ra with
       | [a,b,c],ra =>
         obtain⟨L,hL,rfl⟩:=Zcf ra.head
         have e:=ra.tail.head.int_inv
         subst e
         obtain⟨K,hK,rfl⟩:=Zcf ra.tail.tail.head
         exact .inr ⟨l,L,xs,_,hl,hL,rfl,rfl,hok.2 E objs l k L K xs zs i g (hs l _ hl) (hs k _ hk) (Nat.ne_of_beq_eq_false hne) hL hK h0 h1 h2⟩
       | [],ra=>exact absurd ra.1 (by simp)
       | [_],ra=>exact absurd ra.1 (by simp)
       | [_,_],ra=>exact absurd ra.1 (by simp)
       | _::_::_::_::_,ra=>exact absurd ra.1 (by simp)
      ·cases h
     ·cases h
   ·cases h
 | some ⟨T,false,ps,pre,fn⟩,hok =>
   refine⟨gf,ZgM rf,hok.1,T,?_⟩
   unfold Zks at h
   simp only at h
   split at h
   ·rename_i hk
    split at h
    ·rename_i ys hys
     cases h
     exact .inl ⟨_,rfl,rfl,hok.2 E.w E.S ys g.sok ho _ (ZeW hκ 3 _ _ _ _ _ hys (by simpa using hcl _ _ hk ra))⟩
    ·cases h
   ·cases h
 | some ⟨T,true,ps,pre,fn⟩,hok =>
   refine⟨gf,ZgM rf,hok.1,T,?_⟩
   unfold Zks at h
   simp only at h
   split at h
   ·rename_i l rest
    split at h
    ·rename_i T' xs hobj
     split at h
     ·rename_i hT
      subst hT
      split at h
      ·rename_i hk
       split at h
       ·rename_i ys hys
        cases h
        match cs,ra with
        | [],ra=>exact absurd ra.1 (by simp)
        | c::cs,ra =>
          obtain⟨L,hL,rfl⟩:=Zcf ra.head
          exact .inr ⟨l,L,xs,_,hobj,hL,rfl,rfl,hok.2 E objs l L xs ys g (hs l _ hobj) hL ho cs (ZeW hκ 3 _ _ _ _ _ hys (hcl _ _ hk ra.tail))⟩
       ·cases h
      ·cases h
     ·cases h
    ·cases h
   ·cases h
theorem ZjG {r : Option Nat} {o : Oper} {a : Act} {x : Operand} {args : Array Operand} {tys : Array TypeId} (hop : o.op = .call { callee := .value x, args, argTypes := tys }) {gf : FuncId} (hx : a.eval x = .func (.func gf) #[] #[]) (hc : ZbT P gf) {E : Env} {R : Ending → World → Prop}
 (h:Calls P gf (args.toList.map a.eval).toArray E.w R) {next:Act→World→Prop} {Q:ZjV} (hn:∀ e w2,R e w2→∃ u,e=.returned u∧next (a.put o.dst u) w2):o.wpIn (fz r) 0 P a E.w next Q:=by
 refine⟨fun _ _=>trivial,?_⟩
 rw[Oper.semAt_eq _ _ _ (fun c=>by rw[hop];simp),Zlf hop hc hx,Oper.uponIn_enter]
 refine⟨fun h=>by simp[fz,Fence.wide] at h,Zia ?_⟩
 have e3:Calls P gf (#[]++args.map a.eval++#[]) E.w R:=by
  have:(args.toList.map a.eval).toArray=args.map a.eval:=Array.ext' (by rw[Array.toList_map])
  rw[this] at h;simpa using h
 refine Calls.mono e3 ?_
 intro e w2 hR
 obtain⟨u,rfl,hu⟩:=hn e w2 hR
 exact hu
theorem ZvQ (hκ : Zak P κ) {r : Option Nat} {o : Oper} {a : Act} {x : Operand} {args : Array Operand} {tys : Array TypeId} (hop : o.op = .call { callee := .value x, args, argTypes := tys }) {tmps : List (Nat × V)} {rc : Option ZqN} {out : Out} {n : Nat}
 {os objs:Zat} {E:Env} (hr:Zv4 κ (evV tmps x)=some rc) (h:Zks κ os rc (Zb4 tmps args.toList) n=some out) (ho:okP out.ob) (hs:Sub os objs) (g:Z7 P E objs) (hf:E.loc n=none) (hx:Rep P E (evV tmps x) (a.eval x)) (hra:∀ y∈args.toList,Rep P E (evV tmps y) (a.eval y)):Did P r o a E objs out:=by
 intro next Q hn
 obtain⟨gf,e1,e2,T,e3⟩:=ZrB hκ hr h hs ho g hx (ZcB hra)
 rcases e3 with ⟨zs,h1,h2,hc⟩ | ⟨l,L,xs,zs,h0,hL,h1,h2,hc⟩
 ·refine ZjG hop e1 e2 hc ?_
  rintro e w2 ⟨K,rfl,hg,hd,hat,hhas⟩
  obtain⟨g',st⟩:=Z7.push g (w:=w2) (l:=n) (L:=K) (o:=.row T zs) hf hg (hat _) hhas
  rw[h1,h2] at hn
  exact⟨_,rfl,hn (E.setL w2 n K) K.v g' st hd (.osl (ZP _ _ _ _))⟩
 ·refine ZjG hop e1 e2 hc ?_
  rintro e w2 ⟨K,rfl,hA⟩
  obtain⟨g',st⟩:=hA.put g (hs l _ h0) hL
  have hd:E.w.drawn≤w2.drawn:=by obtain⟨_,_,_,_,_,h⟩:=hA;exact h
  rw[h1,h2] at hn
  exact⟨_,rfl,hn (E.setL w2 l K) K.v g' st hd (.osl (ZP _ _ _ _))⟩
theorem Zvd (hκ : Zak P κ) {r : Option Nat} {o : Oper} {a : Act} {x : Operand} {args : Array Operand} {tys : Array TypeId} (hop : o.op = .call { callee := .value x, args, argTypes := tys }) {tmps : List (Nat × V)} {h : MkC} {out : Out}
 {objs:Zat} {E:Env} {n:Nat} (hc:ZwQ κ (evV tmps x)=some h) (ho:Zps κ h (Zb4 tmps args.toList) n=some out) (hob:okP out.ob) (g:Z7 P E objs) (hf:E.loc n=none) (hx:Rep P E (evV tmps x) (a.eval x)) (hra:∀ y∈args.toList,Rep P E (evV tmps y) (a.eval y)):Did P r o a E objs out:=by
 intro next Q hn
 have ra:Zby P E (Zb4 tmps args.toList) (args.toList.map a.eval):=ZcB hra
 obtain⟨gf,hf',hok⟩:=Zu9 hκ hc
 rw[hf'] at hx
 unfold Zps at ho
 split at ho
 ·rename_i h
  have hok:Zun P gf h:=hok
  split at ho
  ·rename_i v hv
   rw[hv] at ra
   split at ho
   ·rename_i hs
    cases ho
    obtain⟨c,hcs,rc⟩:=ra.single
    refine ZjG (R:=fun e w2=>∃ u E',e=.returned u∧E'.w=w2∧Z7 P E' objs∧ZcH E objs E' objs []∧E.w.drawn≤w2.drawn∧Rep P E' (.fn (.func h) [] [.er [v]]) u) hop (ZgM hx) hok.1 (by rw[hcs];exact hok.2 E objs v c g hs rc) ?_
    rintro e w2 ⟨u,E',rfl,rfl,g',st,hd,hu⟩
    exact⟨u,rfl,hn E' u g' st hd hu⟩
   ·cases ho
  ·cases ho
 ·rename_i ps pre fn
  have hok:ZqR P gf ⟨ps,pre,fn⟩:=hok
  split at ho
  ·rename_i hk
   split at ho
   ·rename_i ys hys
    cases ho
    have hcl:Zby P ⟨E.w,E.S,fun _=>none⟩ (Zb4 tmps args.toList) (args.toList.map a.eval):=Zds (E:=E) (E':=⟨E.w,E.S,fun _=>none⟩) (fun b hb=>⟨hb,rfl⟩) ra hk
    refine ZjG (R:=fun e w2=>∃ u E',e=.returned u∧E'.w=w2∧Z7 P E' ((n,.row (.int .i64) (fn ys).1)::objs)∧ZcH E objs E' ((n,.row (.int .i64) (fn ys).1)::objs) []∧E.w.drawn≤w2.drawn∧Rep P E' (.agg [.osl n,.d (.int .i64) (fn ys).2]) u) hop (ZgM hx) hok.1
     (hok.2 E objs n ys g hf hob _ (ZeW hκ 3 _ _ _ _ _ hys (by simpa using hcl))) ?_
    rintro e w2 ⟨u,E',rfl,rfl,g',st,hd,hu⟩
    exact⟨u,rfl,hn E' u g' st hd hu⟩
   ·cases ho
  ·cases ho
theorem Zii (hτ : Zbs P τ) (hκ : Zak P κ) {r : Option Nat} {o : Oper} {tmps : List (Nat × V)} {os objs : Zat} {nx : Nat} {out : Out} {E : Env} {a : Act} (h : ZuJ τ κ o.op tmps os nx = some out) (hs : Sub os objs) (ho : okP out.ob) (g : Z7 P E objs)
 (hf:E.loc nx=none) (hr:∀ x∈o.op.operands,Rep P E (evV tmps x) (a.eval x)):Did P r o a E objs out:=by
 have plain:(∀ x args tys,o.op≠.call { callee:=.value x,args,argTypes:=tys })→eff τ o.op tmps os nx=some out→Did P r o a E objs out:=fun hn he =>
  (Zwy hτ he hs ho g hf hr (fun _=>rfl)).did fun c e=>by rw[e] at he;cases he
 unfold ZuJ at h
 split at h
 ·rename_i x args tys hop
  split at h
  ·rename_i rc hrc
   exact ZvQ hκ hop hrc h ho hs g hf (hr x (by rw[hop];simp[Op.operands,Call.operands])) (fun y hy=>hr y (by rw[hop];simp only[Op.operands,Call.operands];simp[Array.mem_toList_iff.1 hy]))
  ·split at h
   ·rename_i k hk
    exact Zvd hκ hop hk h ho g hf (hr x (by rw[hop];simp[Op.operands,Call.operands])) (fun y hy=>hr y (by rw[hop];simp only[Op.operands,Call.operands];simp[Array.mem_toList_iff.1 hy]))
   ·split at h
    ·rename_i ob v hc
     cases h
     exact call_did' hκ hop hc hs ho g (fun y hy=>hr y (by rw[hop];exact hy))
    ·cases h
 ·rename_i hn
  exact plain (fun x args tys e=>hn x args tys e) h
where
 call_did' {κ:Z1} (hκ:Zak P κ) {E:Env} {os objs:Zat} {r:Option Nat} {o:Oper} {a:Act} {x:Operand} {args:Array Operand} {tys:Array TypeId} (hop:o.op=.call { callee:=.value x,args,argTypes:=tys }) {tmps:List (Nat×V)} {ob:Option Prop} {v:V}
  (h:ZjK κ os (evV tmps x) (Zb4 tmps args.toList)=.ok ob v) (hs:Sub os objs) (ho:okP ob) (g:Z7 P E objs) (hr:∀ y∈(Op.call { callee:=.value x,args,argTypes:=tys }).operands,Rep P E (evV tmps y) (a.eval y)):Did P r o a E objs ⟨ob,v,none⟩ :=
  Ztj hκ hop h ho hs g (hr x (by simp[Op.operands,Call.operands])) (fun y hy=>hr y (by simp only[Op.operands,Call.operands];simp[Array.mem_toList_iff.1 hy]))
theorem ZtI (hτ : Zbs P τ) (hκ : Zak P κ) {r : Option Nat} {cx : Cx} {o : Oper} {s s' : St} {ob : Option Prop} {a : Act} {w : World} (h : stepU τ κ o.dst o.op s = some (ob, s')) (ho : okP ob) (hr : Rel P cx s a w)
 {next:Act→World→Prop} {Q:ZjV} (hn:∀ a' w',Rel P cx s' a' w'→next a' w'):o.wpIn (fz r) 0 P a w next Q:=by
 obtain⟨nt,tmps,objs,nx,df,wr,di,mv⟩:=s
 unfold stepU at h
 simp only at h
 have hr':=Zkn (P:=P) (cx:=cx) (Zqn τ κ o.op tmps objs) _ a w hr
 revert h hr'
 generalize freezeL (Zqn τ κ o.op tmps objs) ⟨nt,tmps,objs,nx,df,wr,di,mv⟩=s1
 obtain⟨nt,tmps,objs,nx,df,wr,di,mv⟩:=s1
 rintro h ⟨E,rfl,r1⟩
 simp only at h
 split at h
 ·cases h
 ·rename_i ob' v ed he
  split at h
  ·cases h
  ·rename_i hed
   revert h
   generalize hs2:(St.mk nt tmps objs nx df wr di mv).edit ed=s2
   obtain⟨nt2,tmps2,objs2,nx2,df2,wr2,di2,mv2⟩:=s2
   intro h
   simp only at h
   split at h
   ·cases h
   ·rename_i s3 hs3
    cases h
    refine Zii hτ hκ he (fun _ _ h=>h) ho r1.good (r1.fresh nx (Nat.le_refl _)) (fun x _=>Zen r1.rep x) _ Q (fun E' u k1 k2 kd k3=>hn _ _ ⟨E',rfl,?_⟩)
    rw[← hs2] at hs3
    exact ZcR.setT (ZcR.edit r1 hed kd k1 k2) hs3 k3
theorem Inv.stepU{dst:Option Nat}{op:Op}{s s':St}{ob:Option Prop}(h:stepU τ κ dst op s=some (ob,s')):Inv s s':=by
 obtain⟨nt,tmps,objs,nx,df,wr,di,mv⟩:=s
 unfold YtgpdnmfpgkkgcaaGreatDoor.stepU at h
 simp only at h
 have hi:=Inv.freezeL (Zqn τ κ op tmps objs) ⟨nt,tmps,objs,nx,df,wr,di,mv⟩
 revert h hi
 generalize YtgpdnmfpgkkgcaaGreatDoor.freezeL (Zqn τ κ op tmps objs) ⟨nt,tmps,objs,nx,df,wr,di,mv⟩=s1
 obtain⟨nt,tmps,objs,nx,df,wr,di,mv⟩:=s1
 intro h hi
 simp only at h
 split at h
 ·cases h
 ·rename_i ob' v ed _
  split at h
  ·cases h
  ·revert h
   generalize hs2:(St.mk nt tmps objs nx df wr di mv).edit ed=s2
   have hj:=Inv.edit (St.mk nt tmps objs nx df wr di mv) ed
   rw[hs2] at hj
   obtain⟨nt2,tmps2,objs2,nx2,df2,wr2,di2,mv2⟩:=s2
   intro h
   simp only at h
   split at h
   ·cases h
   ·rename_i s3 hs3
    cases h
    exact (hi.trans hj).trans (Inv.setT hs3)
theorem ZmW {E : Env} {ops : Array Oper} {o : Oper} {j gd : Nat} {want g : Bool} {v : V} {a : Act} (hg : o.guard = some (j, want)) (hgd : Zws ops.toList j = some gd) (hv : Zjc want v = some g) (rg : Rep P E v (a.tmps.getD gd undef)) :
 Region.wanted o (yielded ops a.tmps)=g:=by
 have hgd':(ops[j]?).bind (·.dst)=some gd:=by
  unfold Zws at hgd
  split at hgd
  ·rename_i h;cases hgd
   rw[Array.getElem?_toList] at h
   rw[h];rfl
  ·cases hgd
 have hy:yielded ops a.tmps j=match a.tmps[gd]? with | some (.bool b)=>some b | _=>none:=by
  unfold yielded;rw[hgd'];rfl
 simp only[Region.wanted,hg,hy]
 have hget:a.tmps.getD gd undef=(a.tmps[gd]?).getD undef:=by rw[Array.getD_eq_getD_getElem?]
 rw[hget] at rg
 unfold Zjc at hv
 split at hv
 ·rename_i b
  have:=rg.bool_inv
  cases hq:a.tmps[gd]? with
  | none=>rw[hq] at this;cases this
  | some c =>
    rw[hq] at this;simp at this;subst this
    cases b<;>cases want<;>cases hv<;>rfl
 ·rename_i q b
  cases rg with
  | when k1 k2 =>
    cases q with
    | true =>
      have:=(k1 rfl).bool_inv
      cases hq:a.tmps[gd]? with
      | none=>rw[hq] at this;cases this
      | some c =>
        rw[hq] at this;simp at this;subst this
        cases b<;>cases want<;>cases hv<;>rfl
    | false =>
      have:=k2 rfl
      cases hq:a.tmps[gd]? with
      | none=>cases want<;>cases hv<;>rfl
      | some c=>rw[hq] at this;simp at this;subst this;cases want<;>cases hv<;>rfl
 ·cases hv
theorem ZtK (hτ : Zbs P τ) (hκ : Zak P κ) {r : Option Nat} {cx : Cx} {o : Oper} {s s' : St} {ob : Option Prop} {g : Bool} {a : Act} {w : World} (h : stepG τ κ o.dst o.op g s = some (ob, s')) (ho : okP ob) (hr : Rel P cx s a w)
 {next:Act→World→Prop} {Q:ZjV} (hn:∀ a' w',Rel P cx s' a' w'→next a' w'):(g=true→o.wpIn (fz r) 0 P a w next Q)∧(g=false→next (a.put o.dst undef) w):=by
 obtain⟨nt,tmps,objs,nx,df,wr,di,mv⟩:=s
 unfold stepG at h
 simp only at h
 split at h
 ·rename_i ob' v he
  split at h
  ·rename_i s3 hs3
   cases h
   obtain⟨E,rfl,r1⟩:=hr
   refine⟨fun hg=>?_,fun hg=>?_⟩
   ·obtain⟨k0,kc⟩:=Zdy ho hg
    refine Zii hτ hκ he (fun _ _ h=>h) k0 r1.good (r1.fresh nx (Nat.le_refl _)) (fun x hx=>ZiB hx (Zen r1.rep x) kc) _ Q (fun E' u k1 k2 kd k3=>hn _ _ ⟨E',rfl,?_⟩)
    exact ZcR.setT (ZcR.edit (ed:=none) r1 rfl kd k1 k2) hs3 (.when (fun _=>k3) (fun e=>by rw[hg] at e;cases e))
   ·exact hn _ _ ⟨E,rfl,ZcR.setT r1 hs3 (.when (fun e=>by rw[hg] at e;cases e) (fun _=>rfl))⟩
  ·cases h
 ·cases h
theorem Inv.stepG{dst:Option Nat}{op:Op}{g:Bool}{s s':St}{ob:Option Prop}(h:stepG τ κ dst op g s=some (ob,s')):Inv s s':=by
 obtain⟨nt,tmps,objs,nx,df,wr,di,mv⟩:=s
 unfold YtgpdnmfpgkkgcaaGreatDoor.stepG at h
 simp only at h
 split at h
 ·split at h
  ·rename_i hs;cases h;exact Inv.setT hs
  ·cases h
 ·cases h
end
section
variable {P:Program} {τ:Zar} {κ:Z1}
def ZvB(ob:Option Prop)(k:Prop):Prop:=match ob with
 | none=>k
 | some p=>p∧k
theorem ZlT{ob:Option Prop}{k:Prop}(h:ZvB ob k):okP ob∧k:=by
 cases ob with
 | none=>exact⟨trivial,h⟩
 | some p=>exact h
def Zek(n:Nat):List Nat→Bool
 | []=>false
 | m::l=>match Nat.beq m n with
   | true=>true
   | false=>Zek n l
theorem ZbL{n:Nat}:∀ {l:List Nat},Zek n l=true↔n∈l
 | []=>by simp[Zek]
 | m::l=>by
   simp only[Zek,List.mem_cons]
   split
   ·rename_i h;exact⟨fun _=>.inl (Nat.eq_of_beq_eq_true h).symm,fun _=>rfl⟩
   ·rename_i h
    rw[ZbL (l:=l)]
    exact⟨.inr,fun h'=>h'.elim (fun e=>absurd e.symm (Nat.ne_of_beq_eq_false h)) id⟩
abbrev XT:=Oper→St→(St→Prop)→Prop
def XOk(P:Program)(r:Option Nat)(cx:Cx)(X:XT):Prop:=∀ (o:Oper) (s:St) (k:St→Prop) (a:Act) (w:World) (next:Act→World→Prop) (Q:ZjV),o.guard=none→X o s k→Rel P cx s a w →
 (∀ s' a' w',Inv s s'→k s'→Rel P cx s' a' w'→next a' w')→o.wpIn (fz r) 0 P a w next Q
def Zmj(τ:Zar)(κ:Z1)(X:XT)(ops:List Oper):List Oper→List Nat→St→(St→Prop)→Prop
 | [],_,s,k=>k s
 | ⟨dst,op,ty,po,af,guard⟩::l,kn,s,k=>match guard with
   | none=>match stepU τ κ dst op s with
     | some (ob,s')=>ZvB ob (Zmj τ κ X ops l kn s' k)
     | none=>X ⟨dst,op,ty,po,af,none⟩ s (fun s'=>Zmj τ κ X ops l kn s' k)
   | some (j,want)=>match Zws ops j with
     | none=>False
     | some gd=>match ZbE gd s.tmps with
       | v=>match Zjc want v with
         | none=>False
         | some g=>match Zek j kn with
           | true => cond g (match stepU τ κ dst op s with
            | some (ob,s')=>ZvB ob (Zmj τ κ X ops l kn s' k)
            | none=>X ⟨dst,op,ty,po,af,none⟩ s (fun s'=>Zmj τ κ X ops l kn s' k))
             (match s.setT dst .any with
              | some s'=>Zmj τ κ X ops l kn s' k
              | none=>False)
           | false=>match stepG τ κ dst op g s with
             | some (ob,s')=>ZvB ob (Zmj τ κ X ops l kn s' k)
             | none=>match v with
               | .d .bool b => cond g (match s.setT (some gd) (.d .bool want) with
                | some s1=>match stepU τ κ dst op s1 with
                  | some (ob,s')=>ZvB ob (Zmj τ κ X ops l (j::kn) s' k)
                  | none=>X ⟨dst,op,ty,po,af,none⟩ s1 (fun s'=>Zmj τ κ X ops l (j::kn) s' k)
                | none=>False)
                 (match s.setT (some gd) (.d .bool (!want)) with
                  | some s1=>match s1.setT dst .any with
                    | some s'=>Zmj τ κ X ops l (j::kn) s' k
                    | none=>False
                  | none=>False)
               | _=>False
theorem Zqd{F:Fence}{n:Nat}{o:Oper}{g:Option (Nat×Bool)}{a:Act}{w:World}{next:Act→World→Prop}{Q:ZjV}(h:Oper.wpIn F n P { o with guard:=g } a w next Q):o.wpIn F n P a w next Q:=h
theorem Rel.setT_same{cx:Cx}{s s':St}{a:Act}{w:World}{d:Nat}{v:V}(hr:Rel P cx s a w)(h:s.setT (some d) v=some s')(hv:∀ E,ZcR P cx s a E→Rep P E v (a.tmps.getD d undef)):Rel P cx s' a w:=by
 obtain⟨E,rfl,r⟩:=hr
 refine⟨E,rfl,?_⟩
 have:=ZcR.setT r h (hv E r)
 have hd:d < a.tmps.size:=by
  unfold St.setT at h
  split at h
  ·rename_i he;cases he
  ·rename_i d' he;cases he
   split at h
   ·rename_i hlt;have h0:d < s.nt:=Nat.le_of_ble_eq_true hlt;have h1:=r.size;omega
   ·cases h
 have e:a.put (some d) (a.tmps.getD d undef)=a:=by
  obtain⟨t,ds⟩:=a
  simp only[Act.put]
  congr 1
  apply Array.ext (by simp)
  intro i h1 h2
  rw[Array.getElem_setIfInBounds]
  split
  ·rename_i e;subst e;rfl
  ·rfl
 rwa [e] at this
theorem Zon (hτ : Zbs P τ) (hκ : Zak P κ) {r : Option Nat} {cx : Cx} {X : XT} (hX : XOk P r cx X) {ops : Array Oper} {Q : ZjV} : ∀ {l : List Oper} {is : List Nat} {kn : List Nat} {s : St} {k : St → Prop} {a : Act} {w : World},
 l.map some=is.map (fun i=>ops[i]?)→Zmj τ κ X ops.toList l kn s k→Rel P cx s a w→(∀ s' a' w',Inv s s'→k s'→Rel P cx s' a' w'→Q .normal a' w')→wpOpsIn (fz r) 0 P ops Q is a w
 | [],[],_,s,k,a,w,_,h,hr,hk=>hk s a w (.refl s) h hr
 | [],_::_,_,_,_,_,_,h,_,_,_=>by simp at h
 | _::_,[],_,_,_,_,_,h,_,_,_=>by simp at h
 | ⟨dst,op,ty,po,af,guard⟩::l,i::is,kn,s,k,a,w,hl,h,hr,hk=>by
   simp only[List.map_cons,List.cons.injEq] at hl
   have hi:ops[i]?=some ⟨dst,op,ty,po,af,guard⟩:=hl.1.symm
   have hl':=hl.2
   rw[wpOpsIn_cons]
   unfold wpOpIn
   rw[hi]
   simp only
   have next:∀ (kn':List Nat) (s':St),Inv s s'→Zmj τ κ X ops.toList l kn' s' k→∀ a' w',Rel P cx s' a' w'→wpOpsIn (fz r) 0 P ops Q is a' w':=fun kn' s' hi' h' a' w' hr' =>
    Zon hτ hκ hX hl' h' hr' (fun s'' a'' w'' hj h'' hr''=>hk s'' a'' w'' (hi'.trans hj) h'' hr'')
   have run : ∀ (kn' : List Nat) (s1 : St), Inv s s1 → Rel P cx s1 a w → (match YtgpdnmfpgkkgcaaGreatDoor.stepU τ κ dst op s1 with
    | some (ob,s')=>ZvB ob (Zmj τ κ X ops.toList l kn' s' k)
    | none=>X ⟨dst,op,ty,po,af,none⟩ s1 (fun s'=>Zmj τ κ X ops.toList l kn' s' k)) →
    Oper.wpIn (fz r) 0 P ⟨dst,op,ty,po,af,guard⟩ a w (wpOpsIn (fz r) 0 P ops Q is) Q:=by
    intro kn' s1 hi1 hr1 h1
    split at h1
    ·rename_i ob s' hs
     obtain⟨ho,h2⟩:=ZlT h1
     exact ZtI (o:=⟨dst,op,ty,po,af,guard⟩) hτ hκ hs ho hr1 (next kn' s' (hi1.trans (Inv.stepU hs)) h2)
    ·exact Zqd (g:=none) (hX ⟨dst,op,ty,po,af,none⟩ s1 _ a w _ Q rfl h1 hr1 (fun s' a' w' hj h2 hr2=>next kn' s' (hi1.trans hj) h2 a' w' hr2))
   cases guard with
   | none =>
     simp only[Zmj] at h
     rw[if_pos (by simp[Region.wanted])]
     exact run kn s (.refl s) hr h
   | some jw =>
     obtain⟨j,want⟩:=jw
     simp only[Zmj] at h
     split at h
     ·exact h.elim
     ·rename_i gd hgd
      split at h
      ·exact h.elim
      ·rename_i g hg
       have hw:Region.wanted ⟨dst,op,ty,po,af,some (j,want)⟩ (yielded ops a.tmps)=g:=by
        obtain⟨E,_,r1⟩:=id hr
        exact ZmW rfl hgd hg (r1.rep gd)
       rw[hw]
       have skip:∀ (kn':List Nat) (s1 s':St),Inv s s1→Rel P cx s1 a w→s1.setT dst .any=some s'→Zmj τ κ X ops.toList l kn' s' k→(∀ f,Oper.about P w a.eval ⟨dst,op,ty,po,af,some (j,want)⟩=some f→(fz r).fn f)∧wpOpsIn (fz r) 0 P ops Q is (a.put dst undef) w :=
        fun kn' s1 s' hi1 hr1 hs h1=>⟨fun _ _=>trivial,by
         obtain⟨E,rfl,r1⟩:=hr1
         exact next kn' s' (hi1.trans (Inv.setT hs)) h1 _ _ ⟨E,rfl,ZcR.setT r1 hs (.any _)⟩⟩
       split at h
       ·cases g with
        | true=>exact run kn s (.refl s) hr h
        | false =>
          simp only[cond_false] at h
          rw[if_neg (by simp)]
          split at h
          ·rename_i s' hs;exact skip kn s s' (.refl s) hr hs h
          ·exact h.elim
       ·split at h
        ·rename_i ob s' hs
         obtain⟨ho,h2⟩:=ZlT h
         have:=ZtK (o:=⟨dst,op,ty,po,af,some (j,want)⟩) (r:=r) (Q:=Q) hτ hκ hs ho hr (next kn s' (Inv.stepG hs) h2)
         cases g with
         | true=>exact this.1 rfl
         | false=>rw[if_neg (by simp)];exact⟨fun _ _=>trivial,this.2 rfl⟩
        ·split at h
         ·rename_i b hb
          have hgb:g=true∧b=want∨g=false∧b=!want:=by
           rw[hb] at hg
           simp only[Zjc] at hg
           cases want<;>cases b<;>cases hg<;>simp
          cases g with
          | true =>
            simp only[cond_true] at h
            have e:b=want:=by simpa using hgb
            split at h
            ·rename_i s1 hs1
             exact run (j::kn) s1 (Inv.setT hs1) (hr.setT_same hs1 (fun E r1=>by have:=r1.rep gd;rw[hb,e] at this;exact this)) h
            ·exact h.elim
          | false =>
            simp only[cond_false] at h
            have e:b=!want:=by simpa using hgb
            rw[if_neg (by simp)]
            split at h
            ·rename_i s1 hs1
             split at h
             ·rename_i s' hs'
              exact skip (j::kn) s1 s' (Inv.setT hs1) (hr.setT_same hs1 (fun E r1=>by have:=r1.rep gd;rw[hb,e] at this;exact this)) hs' h
             ·exact h.elim
            ·exact h.elim
         ·exact h.elim
end
section
variable {P:Program} {τ:Zar} {κ:Z1}
def Env.cut(E:Env)(n:Nat):Env:=⟨E.w,E.S,fun l=>if l < n then E.loc l else none⟩
theorem ZdB{E:Env}{n l:Nat}{L:Loc}(h:E.loc l=some L)(hl:l < n):(E.cut n).loc l=some L:=by simp only[Env.cut,if_pos hl,h]
def Zj8(P:Program)(n:Nat)(v:V):Prop:=∀ E c,Rep P E v c→Rep P (E.cut n) v c
theorem Zj8.of{E0:Env}{n:Nat}(hf:∀ l,n≤l→E0.loc l=none){v:V}{c0:Value}(r:Rep P E0 v c0):Zj8 P n v:=by
 have hlt:∀ {l L},E0.loc l=some L→l < n:=fun {l L} h=>Nat.lt_of_not_le fun hle=>by rw[hf l hle] at h;cases h
 induction r with
 | any v=>exact fun E c _=>.any c
 | d hc=>intro E c r;cases r with | d h=>exact .d h
 | nilp=>intro E c r;cases r;exact .nilp
 | nilf=>intro E c r;cases r;exact .nilf
 | nils a=>intro E c r;cases r with | nils a=>exact .nils a
 | nilm=>intro E c r;cases r;exact .nilm
 | fn h1 h2 _ _ i1 i2=>intro E c r;cases r with | fn k1 k2 k3 k4=>exact .fn k1 k2 (fun j hj=>i1 j hj _ _ (k3 j hj)) (fun j hj=>i2 j hj _ _ (k4 j hj))
 | agg h1 _ i1=>intro E c r;cases r with | agg k1 k2=>exact .agg k1 (fun j hj=>i1 j hj _ _ (k2 j hj))
 | tup h1 _ i1=>intro E c r;cases r with | tup k1 k2=>exact .tup k1 (fun j hj=>i1 j hj _ _ (k2 j hj))
 | er c hb hc _ i=>intro E c r;cases r with | er c' k1 k2 k3=>exact .er c' k1 k2 (fun j hj=>i j hj _ _ (k3 j hj))
 | ref k=>intro E c r;cases r with | ref h=>exact .ref (ZdB h (hlt k))
 | rref k=>intro E c r;cases r with | rref h=>exact .rref (ZdB h (hlt k))
 | osl k=>intro E c r;cases r with | osl h=>exact .osl (ZdB h (hlt k))
 | osp k kp=>intro E c r;cases r with | osp h hp=>exact .osp (ZdB h (hlt k)) hp
 | map k=>intro E c r;cases r with | map h=>exact .map (ZdB h (hlt k))
 | when h1 h2 i1=>intro E c r;cases r with | when k1 k2=>exact .when (fun e=>i1 e _ _ (k1 e)) k2
 | opt h1 h2 i1=>intro E c r;cases r with | opt k1 k2=>exact .opt (fun e=>i1 e _ _ (k1 e)) k2
 | pf k=>intro E c r;cases r with | pf h=>exact .pf h
 | yl k=>intro E c r;cases r with | yl h=>exact .yl (ZdB h (hlt k))
 | bsl k=>intro E c r;cases r with | bsl h=>exact .bsl (ZdB h (hlt k))
def Zvq(P:Program)(n:Nat)(o:Obj):Prop:=∀ E L,ZaM P E L o→ZaM P (E.cut n) L o
theorem ZpO{E0:Env}{n:Nat}(hf:∀ l,n≤l→E0.loc l=none){t:Ty}{xs:List (List t.den)}{s:List V}{m:Nat}{L0:Loc}(h:ZaM P E0 L0 (.vrow t xs s m)):∀ j,j < s.length→Zj8 P n (s.getD j .any):=by
 intro j hj
 obtain⟨h1,h2,h3,e',cs',h4,h5 | ⟨cur',h5,h6,h7,h8,h9,h10,h11,h12,h13⟩⟩:=h
 ·rw[h5.2] at h3;omega
 ·exact Zj8.of hf (h12 j hj)
theorem Zvq.vrow{n:Nat}{t:Ty}{xs:List (List t.den)}{s:List V}{m:Nat}(h:∀ j,j < s.length→Zj8 P n (s.getD j .any)):Zvq P n (.vrow t xs s m):=by
 intro E L k
 obtain⟨k1,k2,k3,e,cs,k4,k5⟩:=k
 refine⟨k1,k2,k3,e,cs,k4,?_⟩
 rcases k5 with k5 | ⟨cur,k5,k6,k7,k8,k9,k10,k11,k12,k13⟩
 ·exact .inl k5
 ·exact .inr ⟨cur,k5,k6,k7,k8,k9,k10,k11,fun j hj=>h j hj _ _ (k12 j hj),k13⟩
theorem Zvq.of{E0:Env}{n:Nat}(hf:∀ l,n≤l→E0.loc l=none){o:Obj}{L0:Loc}(h:ZaM P E0 L0 o):Zvq P n o:=by
 intro E L k
 cases o with
 | dead=>trivial
 | box cs =>
   obtain⟨_,_,_,_,h3⟩:=h
   obtain⟨vals,t,k1,k2,k3⟩:=k
   exact⟨vals,t,k1,k2,fun j hj=>Zj8.of hf (h3 j hj) _ _ (k3 j hj)⟩
 | row t xs=>exact k
 | vrow t xs s m=>exact Zvq.vrow (ZpO hf h) E L k
 | smap t m=>exact k
 | imap t m=>exact k
 | lrec nt tmps ps a b st j =>
   obtain⟨_,_,_,h3,_⟩:=h
   obtain⟨r,k1,k2,k3,k4⟩:=k
   exact⟨r,k1,k2,fun t=>Zj8.of hf (h3 t) _ _ (k3 t),k4⟩
 | dfb=>exact k
theorem Zd3.cut{E0 E:Env}{n:Nat}(hf:∀ l,n≤l→E0.loc l=none):∀ {df:List Df} {d0 ds:List Deferred},Zd3 P E0 df d0→Zd3 P E df ds→Zd3 P (E.cut n) df ds
 | [],_,_,_,h=>h
 | .mark l::r,_,_,⟨_,_,_,⟨K0,h2,_⟩,h3⟩,⟨L,rest,k1,⟨K,k2,k3⟩,k4⟩=>⟨L,rest,k1,⟨K,ZdB k2 (Nat.lt_of_not_le fun hle=>by rw[hf l hle] at h2;cases h2),k3⟩,h3.cut hf k4⟩
 | .fn g cs::r,_,_,⟨_,_,_,h2,h3⟩,⟨q,rest,k1,k2,k3⟩=>⟨q,rest,k1,⟨k2.1,fun j hj=>Zj8.of hf (h2.2 j hj) _ _ (k2.2 j hj)⟩,h3.cut hf k3⟩
inductive Vy where
 | t (t:Nat) (T:Ty)
 | cell (l j:Nat) (T:Ty)
 | row (l:Nat) (T:Ty)
 | vrow (l:Nat) (T:Ty) (k:Option Nat)
 | smap (l:Nat) (T:Ty)
 | imap (l:Nat) (T:Ty)
@[reducible] def Vy.den:Vy→Type
 | .t _ T=>T.den
 | .cell _ _ T=>T.den
 | .row _ T=>List T.den
 | .vrow _ T _=>List (List T.den)×Nat
 | .smap _ T=>ByteArray→Option T.den
 | .imap _ T=>Int→Option T.den
@[reducible] def Zd6:List Vy→Type
 | []=>Unit
 | [v]=>v.den
 | v::u::l=>v.den×Zd6 (u::l)
structure LA where
 vs:List Vy
 es:List Nat
 an:List Nat
 dd:List Nat
def Zja(l j:Nat):(v:Vy)→v.den→Option V
 | .cell k i T,y=>match Nat.beq k l with
   | true=>match Nat.beq i j with
     | true=>some (ZqK T y)
     | false=>none
   | false=>none
 | _,_=>none
def Zxa:Option Nat→List V
 | none=>[]
 | some k=>[.osl k]
def ZdR(l:Nat):(v:Vy)→v.den→Option Obj
 | .row k T,y=>match Nat.beq k l with
   | true=>some (.row T y)
   | false=>none
 | .vrow k T so,y=>match Nat.beq k l with
   | true=>some (.vrow T y.1 (Zxa so) y.2)
   | false=>none
 | .smap k T,y=>match Nat.beq k l with
   | true=>some (.smap T y)
   | false=>none
 | .imap k T,y=>match Nat.beq k l with
   | true=>some (.imap T y)
   | false=>none
 | _,_=>none
def ZgH{α:Type}(f:(v:Vy)→v.den→Option α):(vs:List Vy)→Zd6 vs→Option α
 | [],_=>none
 | [v],y=>f v y
 | v::u::l,y=>match f v y.1 with
   | some r=>some r
   | none=>ZgH f (u::l) y.2
def Vy.key:Vy→Option Nat
 | .t _ _=>none
 | .cell l _ _ | .row l _ | .vrow l _ _ | .smap l _ | .imap l _=>some l
def ZfI:List Vy→List Nat
 | []=>[]
 | v::r=>match v.key with
   | some l=>match Zek l (ZfI r) with
     | true=>ZfI r
     | false=>l::ZfI r
   | none=>ZfI r
def ZdU(vs:List Vy)(y:Zd6 vs)(l:Nat):Nat→List V→List V
 | _,[]=>[]
 | j,v::r=>(match ZgH (Zja l j) vs y with
   | some u=>u
   | none=>v)::ZdU vs y l (j+1) r
def Zrc(vs:List Vy)(dd:List Nat)(y:Zd6 vs)(l:Nat)(o:Obj):Obj:=match Zek l dd with
 | true=>.dead
 | false=>match ZgH (ZdR l) vs y with
   | some o'=>o'
   | none=>match o with
     | .box cs=>.box (ZdU vs y l 0 cs)
     | o=>o
def ZjY(vs:List Vy)(dd:List Nat)(y:Zd6 vs)(objs:Zat):List Nat→Zat
 | []=>objs
 | l::ks=>match Zv l objs with
   | some o=>(l,Zrc vs dd y l o)::ZjY vs dd y objs ks
   | none=>ZjY vs dd y objs ks
def anT:List Nat→List (Nat×V)→List (Nat×V)
 | [],tm=>tm
 | t::r,tm=>(t,.any)::anT r tm
def Zh1:(vs:List Vy)→Zd6 vs→List (Nat×V)→List (Nat×V)
 | [],_,tm=>tm
 | [v],y,tm=>match v,y with
   | .t t T,y=>(t,ZqK T y)::tm
   | _,_=>tm
 | v::u::l,y,tm=>match v,y with
   | .t t T,y=>(t,ZqK T y.1)::Zh1 (u::l) y.2 tm
   | _,y=>Zh1 (u::l) y.2 tm
def LA.keys(la:LA):List Nat:=ZfI la.vs++la.dd
def LA.tmps:List Vy→List Nat
 | []=>[]
 | .t t _::r=>t::LA.tmps r
 | _::r=>LA.tmps r
def head(la:LA)(s:St)(y:Zd6 la.vs):St:=match la,s,y with
 | ⟨vs,es,an,dd⟩,⟨nt,tmps,objs,nx,df,wr,di,mv⟩,y=>match ZfI vs++dd with
   | ks=>⟨nt,anT an (Zh1 vs y tmps),ZjY vs dd y objs ks,nx,df,[],[],ks++mv⟩
mutual
def V.eqb:V→V→Bool
 | .any,.any=>true
 | .nilp,.nilp=>true
 | .nilf,.nilf=>true
 | .nils,.nils=>true
 | .nilm,.nilm=>true
 | .fn (.func f) a b,v=>match v with
   | .fn (.func g) a' b'=>match Nat.beq f g with
     | true=>match ZqM a a' with
       | true=>ZqM b b'
       | false=>false
     | false=>false
   | _=>false
 | .agg a,v=>match v with
   | .agg b=>ZqM a b
   | _=>false
 | .er a,v=>match v with
   | .er b=>ZqM a b
   | _=>false
 | .ref l o,v=>match v with
   | .ref k q=>match Nat.beq l k with
     | true=>Nat.beq o q
     | false=>false
   | _=>false
 | .osl l,v=>match v with
   | .osl k=>Nat.beq l k
   | _=>false
 | .map l,v=>match v with
   | .map k=>Nat.beq l k
   | _=>false
 | .yl l,v=>match v with
   | .yl k=>Nat.beq l k
   | _=>false
 | .bsl l n,v=>match v with
   | .bsl k m=>match Nat.beq l k with
     | true=>Nat.beq n m
     | false=>false
   | _=>false
 | _,_=>false
def ZqM:List V→List V→Bool
 | [],[]=>true
 | v::l,u::m=>match V.eqb v u with
   | true=>ZqM l m
   | false=>false
 | _,_=>false
end
mutual
theorem Zsx:∀ {a b:V},a.eqb b=true→a=b
 | .any,b,h=>by cases b<;>first | rfl | (simp[V.eqb] at h)
 | .nilp,b,h=>by cases b<;>first | rfl | (simp[V.eqb] at h)
 | .nilf,b,h=>by cases b<;>first | rfl | (simp[V.eqb] at h)
 | .nils,b,h=>by cases b<;>first | rfl | (simp[V.eqb] at h)
 | .nilm,b,h=>by cases b<;>first | rfl | (simp[V.eqb] at h)
 | .fn f a b,v,h=>by
   cases f<;>try (simp[V.eqb] at h;done)
   cases v<;>try (simp[V.eqb] at h;done)
   rename_i g a' b'
   cases g<;>try (simp[V.eqb] at h;done)
   simp only[V.eqb] at h
   split at h
   ·rename_i h1
    split at h
    ·rename_i h2
     rw[Nat.eq_of_beq_eq_true h1,Ze5 h2,Ze5 h]
    ·cases h
   ·cases h
 | .agg a,v,h=>by
   cases v<;>simp only[V.eqb] at h<;>try (cases h;done)
   rw[Ze5 h]
 | .er a,v,h=>by
   cases v<;>simp only[V.eqb] at h<;>try (cases h;done)
   rw[Ze5 h]
 | .ref l o,v,h=>by
   cases v<;>simp only[V.eqb] at h<;>try (cases h;done)
   split at h
   ·rename_i h1;rw[Nat.eq_of_beq_eq_true h1,Nat.eq_of_beq_eq_true h]
   ·cases h
 | .osl l,v,h=>by
   cases v<;>simp only[V.eqb] at h<;>try (cases h;done)
   rw[Nat.eq_of_beq_eq_true h]
 | .map l,v,h=>by
   cases v<;>simp only[V.eqb] at h<;>try (cases h;done)
   rw[Nat.eq_of_beq_eq_true h]
 | .yl l,v,h=>by
   cases v<;>simp only[V.eqb] at h<;>try (cases h;done)
   rw[Nat.eq_of_beq_eq_true h]
 | .bsl l n,v,h=>by
   cases v<;>simp only[V.eqb] at h<;>try (cases h;done)
   split at h
   ·rename_i h1;rw[Nat.eq_of_beq_eq_true h1,Nat.eq_of_beq_eq_true h]
   ·cases h
 | .d _ _,_,h=>by simp[V.eqb] at h
 | .tup _,_,h=>by simp[V.eqb] at h
 | .rref ..,_,h=>by simp[V.eqb] at h
 | .osp ..,_,h=>by simp[V.eqb] at h
 | .when ..,_,h=>by simp[V.eqb] at h
 | .opt ..,_,h=>by simp[V.eqb] at h
 | .pf ..,_,h=>by simp[V.eqb] at h
theorem Ze5:∀ {a b:List V},ZqM a b=true→a=b
 | [],[],_=>rfl
 | v::l,u::m,h=>by
   simp only[ZqM] at h
   split at h
   ·rename_i h1;rw[Zsx h1,Ze5 h]
   ·cases h
 | [],_::_,h=>by simp[ZqM] at h
 | _::_,[],h=>by simp[ZqM] at h
end
def Zs4(s:St):(v:Vy)→Option v.den
 | .t t T=>getD T (ZbE t s.tmps)
 | .cell l j T=>match Zv l s.objs with
   | some (.box cs)=>getD T (cs.getD j .any)
   | _=>none
 | .row l T=>match Zv l s.objs with
   | some (.row T' xs)=>if h:T'=T then some (h▸xs) else none
   | _=>none
 | .vrow l T so=>match Zv l s.objs with
   | some (.vrow T' xs cs m)=>match ZqM cs (Zxa so) with
     | true=>if h:T'=T then some (h▸xs,m) else none
     | false=>none
   | _=>none
 | .smap l T=>match Zv l s.objs with
   | some (.smap T' m)=>if h:T'=T then some (h▸m) else none
   | _=>none
 | .imap l T=>match Zv l s.objs with
   | some (.imap T' m)=>if h:T'=T then some (h▸m) else none
   | _=>none
def Zp5(s:St):(vs:List Vy)→Option (Zd6 vs)
 | []=>some ()
 | [v]=>Zs4 s v
 | v::u::l=>match Zs4 s v with
   | some x=>match Zp5 s (u::l) with
     | some y=>some (x,y)
     | none=>none
   | none=>none
def frzT(t:Nat):Nat→St→St
 | 0,s=>s
 | n+1,s=>match (ZbE t s.tmps).fk with
   | none=>s
   | some l=>match s.freeze l with
     | ⟨nt,tmps,objs,nx,df,wr,di,mv⟩=>frzT t n ⟨nt,tmps,objs,nx,df,wr,di,mv⟩
def frzC(l j:Nat):Nat→St→St
 | 0,s=>s
 | n+1,s=>match Zv l s.objs with
   | some (.box cs)=>match (cs.getD j .any).fk with
     | none=>s
     | some k=>match s.freeze k with
       | ⟨nt,tmps,objs,nx,df,wr,di,mv⟩=>frzC l j n ⟨nt,tmps,objs,nx,df,wr,di,mv⟩
   | _=>s
def frzVs:List Vy→St→St
 | [],s=>s
 | .t t _::r,s=>frzVs r (frzT t 5 s)
 | .cell l j _::r,s=>frzVs r (frzC l j 5 s)
 | _::r,s=>frzVs r s
def ZhW(l j:Nat):List Vy→Bool
 | []=>false
 | .cell k i _::r=>match Nat.beq k l with
   | true=>match Nat.beq i j with
     | true=>true
     | false=>ZhW l j r
   | false=>ZhW l j r
 | _::r=>ZhW l j r
def Zj3(l:Nat):List Vy→Bool
 | []=>false
 | .row k _::r | .vrow k _ _::r | .smap k _::r | .imap k _::r=>match Nat.beq k l with
   | true=>true
   | false=>Zj3 l r
 | _::r=>Zj3 l r
def Zdc(vs:List Vy)(l:Nat):Nat→List V→List V→Bool
 | _,[],[]=>true
 | j,a::l1,b::l2=>match ZhW l j vs with
   | true=>Zdc vs l (j+1) l1 l2
   | false=>match a.eqb b with
     | true=>Zdc vs l (j+1) l1 l2
     | false=>false
 | _,_,_=>false
def ZtN(vs:List Vy)(dd:List Nat)(o0 o1:Zat)(l:Nat):Bool:=match Zv l o1 with
 | none=>false
 | some p=>match Zv l o0 with
   | none=>false
   | some q=>match Zek l dd with
     | true=>true
     | false=>match Zj3 l vs with
       | true=>match p with
         | .vrow _ _ c1 _=>match q with
           | .vrow _ _ c0 _=>ZqM c1 c0
           | _=>false
         | _=>true
       | false=>match p with
         | .box cs1=>match q with
           | .box cs=>Zdc vs l 0 cs cs1
           | _=>false
         | _=>false
def Zpb(vs:List Vy)(dd:List Nat)(o0 o1:Zat):List Nat→Bool
 | []=>true
 | l::r=>match ZtN vs dd o0 o1 l with
   | true=>Zpb vs dd o0 o1 r
   | false=>false
def ZuY(la:LA)(t0 t1:List (Nat×V)):List Nat→Bool
 | []=>true
 | t::r=>match Zek t la.an with
   | true=>ZuY la t0 t1 r
   | false=>match Zek t (LA.tmps la.vs) with
     | true=>ZuY la t0 t1 r
     | false=>match Zek t la.es with
       | true=>match (ZbE t t0).eqb (ZbE t t1) with
         | true=>ZuY la t0 t1 r
         | false=>false
       | false=>false
def Zww(ks:List Nat)(nx:Nat):List Nat→Bool
 | []=>true
 | l::r=>match Nat.ble nx l with
   | true=>Zww ks nx r
   | false=>match Zek l ks with
     | true=>Zww ks nx r
     | false=>false
def Zvt(ks:List Nat)(nx:Nat)(o0 o1:Zat):List Nat→Bool
 | []=>true
 | l::r=>match Nat.ble nx l with
   | true=>Zvt ks nx o0 o1 r
   | false=>match Zek l ks with
     | true=>Zvt ks nx o0 o1 r
     | false=>match Zv l o0 with
       | some (.box cs)=>match Zv l o1 with
         | some (.box cs1)=>match ZqM cs cs1 with
           | true=>Zvt ks nx o0 o1 r
           | false=>false
         | _=>false
       | _=>false
def back(la:LA)(s0 s:St):Option (Zd6 la.vs):=match frzVs la.vs s with
 | s1=>match Zp5 s1 la.vs with
   | none=>none
   | some y=>match ZuY la s0.tmps s1.tmps s1.wr with
     | false=>none
     | true=>match Zek s0.nt s1.wr with
       | true=>none
       | false=>match Zvt la.keys s0.nx s0.objs s1.objs s1.di with
         | false=>none
         | true=>match Zww (la.keys++s0.mv) s0.nx s1.mv with
           | false=>none
           | true=>match Zpb la.vs la.dd s0.objs s1.objs la.keys with
             | false=>none
             | true=>some y
end
section
variable {P:Program} {τ:Zar} {κ:Z1}
theorem Zh5{E:Env}{T:Ty}{x:T.den}{lo:Nat→Option Loc}{c:Value}(h:ZoA E.w E.S T x c):Rep P ⟨E.w,E.S,lo⟩ (ZqK T x) c:=Zio h
theorem Znj {E : Env} {lo : Nat → Option Loc} {s1 : St} {t : Nat} {c : Value} {tm : List (Nat × V)} (hr : Rep P E (ZbE t s1.tmps) c) : ∀ {vs : List Vy} {y : Zd6 vs}, Zp5 s1 vs = some y →
 (t∉LA.tmps vs→Rep P ⟨E.w,E.S,lo⟩ (ZbE t tm) c)→Rep P ⟨E.w,E.S,lo⟩ (ZbE t (Zh1 vs y tm)) c
 | [],_,_,h=>h (by simp[LA.tmps])
 | [v],y,hy,h=>by
   cases v with
   | t u T =>
     simp only[Zh1,Zah]
     split
     ·rename_i e;subst e;exact Zh5 (ZdV hy hr)
     ·rename_i e;exact h (by simp[LA.tmps];exact Ne.symm e)
   | _=>exact h (by simp[LA.tmps])
 | v::u::l,y,hy,h=>by
   simp only[Zp5] at hy
   split at hy
   ·rename_i x hx
    split at hy
    ·rename_i y' hy'
     cases hy
     have ih:=fun h'=>Znj (E:=E) (lo:=lo) (tm:=tm) hr (vs:=u::l) (y:=y') hy' h'
     cases v with
     | t w T =>
       simp only[Zh1,Zah]
       split
       ·rename_i e;subst e;exact Zh5 (ZdV hx hr)
       ·rename_i e;exact ih fun hn=>h (by simp only[LA.tmps,List.mem_cons,not_or];exact⟨Ne.symm e,hn⟩)
     | _=>exact ih h
    ·cases hy
   ·cases hy
theorem ZlD{t:Nat}{tm:List (Nat×V)}:∀ an:List Nat,ZbE t (anT an tm)=if t∈an then .any else ZbE t tm
 | []=>by simp[anT]
 | u::r=>by
   simp only[anT,Zah,ZlD r,List.mem_cons]
   by_cases e:u=t
   ·simp[e]
   ·rw[if_neg e]
    by_cases h:t∈r
    ·rw[if_pos h,if_pos (.inr h)]
    ·rw[if_neg h,if_neg (by rintro (h' | h');exact e h'.symm;exact h h')]
theorem Zee{vs:List Vy}{dd:List Nat}{y:Zd6 vs}{objs:Zat}{l:Nat}:∀ ks:List Nat,Zv l (ZjY vs dd y objs ks)=if l∈ks then (Zv l objs).map (Zrc vs dd y l) else Zv l objs
 | []=>by simp[ZjY]
 | k::ks=>by
   simp only[ZjY]
   split
   ·rename_i o ho
    rw[Zl]
    split
    ·rename_i e;subst e;simp[ho]
    ·rename_i e
     rw[Zee ks]
     by_cases h:l∈ks
     ·rw[if_pos h,if_pos (List.mem_cons_of_mem _ h)]
     ·rw[if_neg h,if_neg (by simp only[List.mem_cons,not_or];exact⟨Ne.symm e,h⟩)]
   ·rename_i ho
    rw[Zee ks]
    by_cases h:l∈ks
    ·rw[if_pos h,if_pos (List.mem_cons_of_mem _ h)]
    ·by_cases e:l=k
     ·subst e;rw[if_neg h,if_pos List.mem_cons_self,ho];rfl
     ·rw[if_neg h,if_neg (by simp only[List.mem_cons,not_or];exact⟨e,h⟩)]
theorem Zjl{α:Type}{f:(v:Vy)→v.den→Option α}{s1:St}:∀ {vs:List Vy} {y:Zd6 vs} {r:α},Zp5 s1 vs=some y→ZgH f vs y=some r→∃ v x,v∈vs∧Zs4 s1 v=some x∧f v x=some r
 | [],_,_,_,h=>by cases h
 | [v],y,r,hy,h=>⟨v,y,by simp,hy,h⟩
 | v::u::l,y,r,hy,h=>by
   simp only[Zp5] at hy
   split at hy
   ·rename_i x hx
    split at hy
    ·rename_i y' hy'
     cases hy
     simp only[ZgH] at h
     split at h
     ·rename_i r' hr'
      cases h
      exact⟨v,x,by simp,hx,hr'⟩
     ·obtain⟨v',x',h1,h2,h3⟩:=Zjl (vs:=u::l) hy' h
      exact⟨v',x',List.mem_cons_of_mem _ h1,h2,h3⟩
    ·cases hy
   ·cases hy
theorem Zqb{s1:St}{l:Nat}{v:Vy}{x:v.den}{o:Obj}(h1:Zs4 s1 v=some x)(h2:ZdR l v x=some o):Zv l s1.objs=some o:=by
 cases v with
 | t _ _=>cases h2
 | cell _ _ _=>cases h2
 | row k T =>
   simp only[ZdR] at h2
   split at h2
   ·rename_i e;cases h2
    have:=Nat.eq_of_beq_eq_true e;subst this
    simp only[Zs4] at h1
    split at h1
    ·rename_i T' xs ho
     split at h1
     ·rename_i e;subst e;cases h1;exact ho
     ·cases h1
    ·cases h1
   ·cases h2
 | vrow k T so =>
   simp only[ZdR] at h2
   split at h2
   ·rename_i e;cases h2
    have:=Nat.eq_of_beq_eq_true e;subst this
    simp only[Zs4] at h1
    split at h1
    ·rename_i T' xs cs m ho
     split at h1
     ·rename_i hc
      split at h1
      ·rename_i e;subst e;cases h1;rw[Ze5 hc] at ho;exact ho
      ·cases h1
     ·cases h1
    ·cases h1
   ·cases h2
 | smap k T =>
   simp only[ZdR] at h2
   split at h2
   ·rename_i e;cases h2
    have:=Nat.eq_of_beq_eq_true e;subst this
    simp only[Zs4] at h1
    split at h1
    ·rename_i T' xs ho
     split at h1
     ·rename_i e;subst e;cases h1;exact ho
     ·cases h1
    ·cases h1
   ·cases h2
 | imap k T =>
   simp only[ZdR] at h2
   split at h2
   ·rename_i e;cases h2
    have:=Nat.eq_of_beq_eq_true e;subst this
    simp only[Zs4] at h1
    split at h1
    ·rename_i T' xs ho
     split at h1
     ·rename_i e;subst e;cases h1;exact ho
     ·cases h1
    ·cases h1
   ·cases h2
theorem Zqh{s1:St}{l j:Nat}{v:Vy}{x:v.den}{u:V}{cs:List V}{E:Env}{c:Value}{lo:Nat→Option Loc}(h1:Zs4 s1 v=some x)(h2:Zja l j v x=some u)(ho:Zv l s1.objs=some (.box cs))(r:Rep P E (cs.getD j .any) c):Rep P ⟨E.w,E.S,lo⟩ u c:=by
 cases v with
 | cell k i T =>
   simp only[Zja] at h2
   split at h2
   ·rename_i e1
    split at h2
    ·rename_i e2
     cases h2
     have:=Nat.eq_of_beq_eq_true e1;subst this
     have:=Nat.eq_of_beq_eq_true e2;subst this
     simp only[Zs4,ho] at h1
     exact Zh5 (ZdV h1 r)
    ·cases h2
   ·cases h2
 | _=>cases h2
theorem ZpU{vs:List Vy}{y:Zd6 vs}{l:Nat}(h:Zj3 l vs=false):ZgH (ZdR l) vs y=none:=by
 induction vs with
 | nil=>rfl
 | cons v r ih =>
   have h1:∀ x,ZdR l v x=none:=fun x=>by
    cases v<;>simp only[Zj3] at h<;>simp only[ZdR]
    all_goals (split at h;cases h;first | rfl | (rename_i e;rw[e]))
   have h2:Zj3 l r=false:=by
    cases v<;>simp only[Zj3] at h<;>first | exact h | (split at h;cases h;exact h)
   cases r with
   | nil=>exact h1 y
   | cons u l' =>
     simp only[ZgH]
     rw[h1]
     exact ih h2
theorem Zjy{s1:St}{l:Nat}:∀ {vs:List Vy} {y:Zd6 vs},Zj3 l vs=true→∃ o,ZgH (ZdR l) vs y=some o
 | [],_,h=>by cases h
 | [v],y,h=>by
   cases v<;>simp only[Zj3] at h<;>try (cases h;done)
   all_goals (split at h<;>try (cases h;done));rename_i e;simp only[ZgH,ZdR,e];exact⟨_,rfl⟩
 | v::u::l',y,h=>by
   simp only[ZgH]
   split
   ·exact⟨_,rfl⟩
   ·rename_i hn
    refine Zjy (s1:=s1) ?_
    cases v<;>simp only[Zj3] at h ⊢<;>first | exact h | skip
    all_goals (split at h;rename_i e;simp only[ZdR,e] at hn;cases hn;exact h)
theorem Zgg{vs:List Vy}{l:Nat}:∀ {j:Nat} {a b:List V},Zdc vs l j a b=true→a.length=b.length
 | _,[],[],_=>rfl
 | j,a::l1,b::l2,h=>by
   simp only[Zdc] at h
   split at h
   ·simp[Zgg h]
   ·split at h
    ·simp[Zgg h]
    ·cases h
 | _,[],_::_,h=>by simp[Zdc] at h
 | _,_::_,[],h=>by simp[Zdc] at h
theorem ZhT{l j:Nat}:∀ {vs:List Vy} {y:Zd6 vs},ZhW l j vs=true→∃ o,ZgH (Zja l j) vs y=some o
 | [],_,h=>by cases h
 | [v],y,h=>by
   cases v<;>simp only[ZhW] at h<;>try (cases h;done)
   split at h<;>try (cases h;done)
   rename_i e1
   split at h<;>try (cases h;done)
   rename_i e2
   simp only[ZgH,Zja,e1,e2];exact⟨_,rfl⟩
 | v::u::l',y,h=>by
   simp only[ZgH]
   split
   ·exact⟨_,rfl⟩
   ·rename_i hn
    refine ZhT ?_
    cases v<;>simp only[ZhW] at h ⊢<;>first | exact h | skip
    split at h
    ·rename_i e1
     split at h
     ·rename_i e2;simp only[Zja,e1,e2] at hn;cases hn
     ·exact h
    ·exact h
theorem ZeU{vs:List Vy}{y:Zd6 vs}{l:Nat}:∀ {j:Nat} {cs:List V},(ZdU vs y l j cs).length=cs.length
 | _,[]=>rfl
 | j,v::r=>by simp only[ZdU,List.length_cons,ZeU]
theorem ZhM{vs:List Vy}{y:Zd6 vs}{l:Nat}:∀ {j:Nat} {cs:List V} {i:Nat},i < cs.length→(ZdU vs y l j cs).getD i .any=(match ZgH (Zja l (j+i)) vs y with | some u=>u | none=>cs.getD i .any)
 | _,[],i,h=>by simp at h
 | j,v::r,0,_=>by first | (simp[ZdU];done) | (simp[ZdU];rfl)
 | j,v::r,i+1,h=>by
   simp only[ZdU,List.getD_cons_succ]
   rw[ZhM (by simpa using h),show j+1+i=j+(i+1) from by omega]
theorem Zi5{vs:List Vy}{l:Nat}:∀ {j:Nat} {a b:List V} {i:Nat},Zdc vs l j a b=true→i < a.length→ZhW l (j+i) vs=true∨a.getD i .any=b.getD i .any
 | _,[],_,_,_,h=>by simp at h
 | j,a::l1,[],_,h,_=>by simp[Zdc] at h
 | j,a::l1,b::l2,0,h,_=>by
   simp only[Zdc] at h
   split at h
   ·rename_i e;exact .inl e
   ·split at h
    ·rename_i e;exact .inr (by simpa using Zsx e)
    ·cases h
 | j,a::l1,b::l2,i+1,h,hi=>by
   have h':Zdc vs l (j+1) l1 l2=true:=by
    simp only[Zdc] at h
    split at h
    ·exact h
    ·split at h
     ·exact h
     ·cases h
   have:=Zi5 (i:=i) h' (by simpa using hi)
   rw[show j+1+i=j+(i+1) from by omega] at this
   simpa using this
theorem Zhy{vs:List Vy}{dd:List Nat}{o0 o1:Zat}:∀ {ks:List Nat},Zpb vs dd o0 o1 ks=true→∀ l∈ks,ZtN vs dd o0 o1 l=true
 | [],_,l,h=>by simp at h
 | k::r,h,l,hl=>by
   simp only[Zpb] at h
   split at h
   ·rename_i h1
    rcases List.mem_cons.1 hl with rfl | hl
    ·exact h1
    ·exact Zhy h l hl
   ·cases h
theorem ZlR{ks:List Nat}{nx:Nat}:∀ {r:List Nat},Zww ks nx r=true→∀ l∈r,nx≤l∨l∈ks
 | [],_,l,h=>by simp at h
 | k::r,h,l,hl=>by
   simp only[Zww] at h
   split at h
   ·rename_i h1
    rcases List.mem_cons.1 hl with rfl | hl
    ·exact .inl (Nat.le_of_ble_eq_true h1)
    ·exact ZlR h l hl
   ·split at h
    ·rename_i h1
     rcases List.mem_cons.1 hl with rfl | hl
     ·exact .inr (ZbL.1 h1)
     ·exact ZlR h l hl
    ·cases h
theorem Zly{ks:List Nat}{nx:Nat}{o0 o1:Zat}:∀ {r:List Nat},Zvt ks nx o0 o1 r=true→∀ l∈r,nx≤l∨l∈ks∨∃ cs,Zv l o0=some (.box cs)∧Zv l o1=some (.box cs)
 | [],_,l,h=>by simp at h
 | k::r,h,l,hl=>by
   simp only[Zvt] at h
   have key:(l=k→nx≤l∨l∈ks∨∃ cs,Zv l o0=some (.box cs)∧Zv l o1=some (.box cs))→Zvt ks nx o0 o1 r=true→nx≤l∨l∈ks∨∃ cs,Zv l o0=some (.box cs)∧Zv l o1=some (.box cs) :=
    fun h1 h2=>(List.mem_cons.1 hl).elim h1 (Zly h2 l)
   split at h
   ·rename_i h1;exact key (fun e=>.inl (e▸Nat.le_of_ble_eq_true h1)) h
   ·split at h
    ·rename_i h1;exact key (fun e=>.inr (.inl (e▸ZbL.1 h1))) h
    ·split at h
     ·rename_i cs h0
      split at h
      ·rename_i cs1 h2
       split at h
       ·rename_i h3
        exact key (fun e=>.inr (.inr ⟨cs,e▸h0,by rw[e,h2,Ze5 h3]⟩)) h
       ·cases h
      ·cases h
     ·cases h
theorem Zpq{la:LA}{t0 t1:List (Nat×V)}:∀ {r:List Nat},ZuY la t0 t1 r=true→∀ t∈r,t∈la.an∨t∈LA.tmps la.vs∨ZbE t t0=ZbE t t1
 | [],_,l,h=>by simp at h
 | k::r,h,t,ht=>by
   simp only[ZuY] at h
   have key:(t=k→t∈la.an∨t∈LA.tmps la.vs∨ZbE t t0=ZbE t t1)→ZuY la t0 t1 r=true→t∈la.an∨t∈LA.tmps la.vs∨ZbE t t0=ZbE t t1:=fun h1 h2 =>
    (List.mem_cons.1 ht).elim h1 (Zpq h2 t)
   split at h
   ·rename_i h1;exact key (fun e=>.inl (e▸ZbL.1 h1)) h
   ·split at h
    ·rename_i h1;exact key (fun e=>.inr (.inl (e▸ZbL.1 h1))) h
    ·split at h
     ·split at h
      ·rename_i h1;exact key (fun e=>.inr (.inr (e▸Zsx h1))) h
      ·cases h
     ·cases h
theorem Zob{cx:Cx}(t:Nat):∀ (n:Nat) (s:St),Wk P cx s (frzT t n s)
 | 0,s=>.refl s
 | n+1,s=>by
   simp only[frzT]
   split
   ·exact .refl s
   ·rename_i l hl
    exact (Ze8 l).trans (Zob t n _)
theorem Inv.frzT(t:Nat):∀ (n:Nat) (s:St),Inv s (frzT t n s)
 | 0,s=>.refl s
 | n+1,s=>by
   simp only[YtgpdnmfpgkkgcaaGreatDoor.frzT]
   split
   ·exact .refl s
   ·rename_i l hl
    exact (Inv.freeze l s).trans (Inv.frzT t n _)
theorem ZsM{cx:Cx}(l j:Nat):∀ (n:Nat) (s:St),Wk P cx s (frzC l j n s)
 | 0,s=>.refl s
 | n+1,s=>by
   simp only[frzC]
   split
   ·split
    ·exact .refl s
    ·exact (Ze8 _).trans (ZsM l j n _)
   ·exact .refl s
theorem Inv.frzC(l j:Nat):∀ (n:Nat) (s:St),Inv s (frzC l j n s)
 | 0,s=>.refl s
 | n+1,s=>by
   simp only[YtgpdnmfpgkkgcaaGreatDoor.frzC]
   split
   ·split
    ·exact .refl s
    ·exact (Inv.freeze _ s).trans (Inv.frzC l j n _)
   ·exact .refl s
theorem Zg1{cx:Cx}:∀ (vs:List Vy) (s:St),Wk P cx s (frzVs vs s)
 | [],s=>.refl s
 | v::r,s=>by
   cases v<;>simp only[frzVs]<;>first | exact Zg1 r s | exact (Zob _ _ s).trans (Zg1 r _) | exact (ZsM _ _ _ s).trans (Zg1 r _)
theorem Inv.frzVs:∀ (vs:List Vy) (s:St),Inv s (frzVs vs s)
 | [],s=>.refl s
 | v::r,s=>by
   cases v<;>simp only[YtgpdnmfpgkkgcaaGreatDoor.frzVs]<;>first | exact Inv.frzVs r s | exact (Inv.frzT _ _ s).trans (Inv.frzVs r _) | exact (Inv.frzC _ _ _ s).trans (Inv.frzVs r _)
end
section
variable {P:Program} {τ:Zar} {κ:Z1}
structure Hd (la:LA) (s0 s:St):Prop where
 nt:s.nt=s0.nt
 nx:s0.nx≤s.nx
 tmp:∀ t,t∉s.wr→t∉la.an→t∉LA.tmps la.vs→ZbE t s.tmps=ZbE t s0.tmps
 obj:∀ l,l∉s.di→l∉la.keys→Zv l s.objs=Zv l s0.objs
 df:s0.nt∉s.wr→s.df=s0.df
theorem Hd.inv{la:LA}{s0 s s':St}(h:Hd la s0 s)(k:Inv s s'):Hd la s0 s' :=
 ⟨k.nt.trans h.nt,Nat.le_trans h.nx k.nx,fun t h1 h2 h3=>(k.tmp t h1).trans (h.tmp t (fun hm=>h1 (k.wr t hm)) h2 h3),fun l h1 h2=>(k.obj l h1).trans (h.obj l (fun hm=>h1 (k.di l hm)) h2),
  fun h1=>(k.df (by rw[h.nt];exact h1)).trans (h.df fun hm=>h1 (k.wr _ hm))⟩
def St.clr(s:St):St:=match s with
 | ⟨nt,tmps,objs,nx,df,wr,di,mv⟩=>⟨nt,tmps,objs,nx,df,[],[],mv⟩
theorem Hd.clr(la:LA)(s0:St):Hd la s0 s0.clr:=⟨rfl,Nat.le_refl _,fun _ _ _ _=>rfl,fun _ _ _=>rfl,fun _=>rfl⟩
theorem Zhd{t:Nat}{tm:List (Nat×V)}:∀ {vs:List Vy} {y:Zd6 vs},t∉LA.tmps vs→ZbE t (Zh1 vs y tm)=ZbE t tm
 | [],_,_=>rfl
 | [v],y,h=>by
   cases v with
   | t u T =>
     simp only[LA.tmps,List.mem_cons,not_or] at h
     simp only[Zh1,Zah]
     rw[if_neg (Ne.symm h.1)]
   | _=>rfl
 | v::u::l,y,h=>by
   cases v with
   | t w T =>
     simp only[LA.tmps,List.mem_cons,not_or] at h
     simp only[Zh1,Zah]
     rw[if_neg (Ne.symm h.1)]
     exact Zhd h.2
   | _ =>
     simp only[Zh1]
     exact Zhd h
theorem Hd.head(la:LA)(s0:St)(y:Zd6 la.vs):Hd la s0 (head la s0 y):=by
 obtain⟨vs,es,an,dd⟩:=la
 obtain⟨nt,tmps,objs,nx,df,wr,di,mv⟩:=s0
 refine⟨rfl,Nat.le_refl _,fun t _ h2 h3=>?_,fun l _ h2=>?_,fun _=>rfl⟩
 ·show ZbE t (anT an (Zh1 vs y tmps))=ZbE t tmps
  rw[ZlD,if_neg h2]
  exact Zhd h3
 ·show Zv l (ZjY vs dd y objs (ZfI vs++dd))=Zv l objs
  rw[Zee,if_neg (show l∉ZfI vs++dd from h2)]
theorem Zlj{E E':Env}{objs objs':Zat}(tr:∀ l o,Zv l objs'=some o→∃ o1 L,Zv l objs=some o1∧E.loc l=some L∧E'.loc l=some L∧(∀ L,o.has L→o1.has L)∧(ZaM P E L o1→ZaM P E' L o)){b:Nat}(h:ZdI E' objs' b):ZdI E objs b:=by
 obtain⟨l,o,L,h1,h2,h3,h4⟩:=h
 obtain⟨o1,L1,k1,k2,k3,k4,k5⟩:=tr l o h1
 rw[k3] at h2;cases h2
 exact⟨l,o1,L,k1,k2,k4 L h3,h4⟩
theorem Z7.sub {E E' : Env} {objs objs' : Zat} (g : Z7 P E objs) (hw : E'.w = E.w) (hS : E'.S = E.S)
 (tr:∀ l o,Zv l objs'=some o→∃ o1 L,Zv l objs=some o1∧E.loc l=some L∧E'.loc l=some L∧(∀ L,o.has L→o1.has L)∧(ZaM P E L o1→ZaM P E' L o)):Z7 P E' objs':=by
 refine⟨fun l o h=>?_,fun b h hs=>?_,fun b hs=>?_,g.tab.mono fun b hb=>⟨hS▸hb,by rw[hw]⟩,fun i j p q K K' h1 h2 h3 h4 h5 h6 h7=>?_⟩
 ·obtain⟨o1,L1,k1,k2,k3,k4,k5⟩:=tr l o h
  obtain⟨L,hL,ha⟩:=g.at_ l o1 k1
  rw[k2] at hL;cases hL
  exact⟨L1,k3,k5 ha⟩
 ·exact g.ns b (Zlj tr h) (hS▸hs)
 ·rw[hw];exact g.sl b (hS▸hs)
 ·obtain⟨o1,L1,k1,k2,k3,k4,k5⟩:=tr i p h1
  obtain⟨o2,L2,m1,m2,m3,m4,m5⟩:=tr j q h2
  rw[k3] at h3;cases h3
  rw[m3] at h4;cases h4
  exact g.inj i j o1 o2 K K' k1 m1 k2 m2 (k4 _ h5) (m4 _ h6) h7
theorem ZoC{cx:Cx}{la:LA}{s0 s:St}{y':Zd6 la.vs}{a0:Act}{w0:World}(h0:Rel P cx s0 a0 w0)(hd0:Hd la s0 s)(hb:back la s0 s=some y'){a:Act}{w:World}(hr:Rel P cx s a w):Rel P cx (head la s0 y') a w:=by
 unfold back at hb
 have hr1:=Zg1 (P:=P) (cx:=cx) la.vs s a w hr
 have hd:=hd0.inv (Inv.frzVs la.vs s)
 revert hb hr1 hd
 generalize frzVs la.vs s=s1
 intro hb hr1 hd
 simp only at hb
 split at hb
 ·cases hb
 ·rename_i y hy
  split at hb
  ·cases hb
  ·rename_i hwr
   split at hb
   ·cases hb
   ·rename_i hnt
    split at hb
    ·cases hb
    ·rename_i hdi
     split at hb
     ·cases hb
     ·rename_i hmv
      split at hb
      ·cases hb
      ·rename_i hks
       cases hb
       obtain⟨E0,rfl,r0⟩:=h0
       obtain⟨E,rfl,r⟩:=hr1
       have hf:=r0.fresh
       have hlt:∀ {l o},Zv l s0.objs=some o→l < s0.nx:=fun {l o} h=>Nat.lt_of_not_le fun hle=>by
        obtain⟨L,hL,_⟩:=r0.good.at_ l o h
        rw[hf l hle] at hL;cases hL
       have hdf:s1.df=s0.df:=hd.df fun hm=>by
        have:=ZbL.2 hm;rw[hnt] at this;cases this
       have hcx:∀ l,s0.nx≤l→cx.E.loc l=none:=fun l hl=>by
        have hn:Zv l s0.objs=none:=by
         cases h:Zv l s0.objs with
         | none=>rfl
         | some o=>exact absurd (hlt h) (by omega)
        rw[← r0.step.dom l hn];exact hf l hl
       obtain⟨vs,es,an,dd⟩:=la
       have tr:∀ l o,Zv l (ZjY vs dd y' s0.objs (ZfI vs++dd))=some o→∃ o1 L,Zv l s1.objs=some o1∧E.loc l=some L∧(E.cut s0.nx).loc l=some L∧(∀ L,o.has L→o1.has L)∧(ZaM P E L o1→ZaM P (E.cut s0.nx) L o):=by
        intro l o h
        rw[Zee] at h
        have hll:l < s0.nx:=by
         split at h
         ·rw[Option.map_eq_some_iff] at h
          obtain⟨o0,h1,_⟩:=h
          exact hlt h1
         ·exact hlt h
        split at h
        ·rename_i hm
         rw[Option.map_eq_some_iff] at h
         obtain⟨o0,h1,rfl⟩:=h
         have hk:=Zhy hks l hm
         unfold ZtN at hk
         split at hk
         ·cases hk
         ·rename_i p hp
          obtain⟨L,hL,hat⟩:=r.good.at_ l p hp
          refine⟨p,L,hp,hL,ZdB hL hll,?_⟩
          unfold Zrc
          rw[h1] at hk
          simp only at hk
          split at hk
          ·rename_i hdd
           exact⟨fun _ h=>h.elim,fun _=>trivial⟩
          ·rename_i hdd
           split at hk
           ·rename_i hob
            obtain⟨o',ho'⟩:=Zjy (s1:=s1) (y:=y') hob
            simp only[ho']
            obtain⟨v,x,hv,hx1,hx2⟩:=Zjl hy ho'
            have:=Zqb hx1 hx2
            rw[hp] at this;cases this
            refine⟨fun _ h=>h,fun h=>?_⟩
            have hnb:∀ cs,p≠.box cs:=fun cs e=>by
             subst e
             cases v<;>simp only[ZdR] at hx2<;>first | (cases hx2;done) | (split at hx2<;>cases hx2)
            have hnl:∀ n t p' a b st j,p≠.lrec n t p' a b st j:=fun n t p' a b st j e=>by
             subst e
             cases v<;>simp only[ZdR] at hx2<;>first | (cases hx2;done) | (split at hx2<;>cases hx2)
            cases p with
            | box cs=>exact absurd rfl (hnb cs)
            | lrec n t p' a b st j=>exact absurd rfl (hnl n t p' a b st j)
            | dead=>trivial
            | row t xs=>exact h
            | vrow t xs s m =>
              simp only at hk
              split at hk
              ·obtain⟨_,_,hat0⟩:=r0.good.at_ l _ h1
               rw[← Ze5 hk] at hat0
               exact Zvq.vrow (ZpO hf hat0) _ _ h
              ·cases hk
            | smap t m=>exact h
            | imap t m=>exact h
            | dfb=>exact h
           ·rename_i hob
            rw[ZpU hob]
            split at hk
            ·rename_i cs1
             split at hk
             ·rename_i cs
              refine⟨fun _ _=>trivial,fun h=>?_⟩
              obtain⟨vals,t,k1,k2,k3⟩:=h
              have hlen:=Zgg hk
              refine⟨vals,t,k1,by rw[ZeU];omega,fun j hj=>?_⟩
              rw[ZeU] at hj
              rw[ZhM hj,Nat.zero_add]
              split
              ·rename_i u hu
               obtain⟨v,x,hv,hx1,hx2⟩:=Zjl hy hu
               exact Zqh (E:=E) hx1 hx2 hp (k3 j (by omega))
              ·rename_i hu
               rcases Zi5 hk hj with hc | hc
               ·rw[Nat.zero_add] at hc
                obtain⟨u,hu'⟩:=ZhT (y:=y') hc
                rw[hu] at hu';cases hu'
               ·obtain⟨L0,hL0,hat0⟩:=r0.good.at_ l _ h1
                obtain⟨_,_,_,_,m3⟩:=hat0
                have hcut:=Zj8.of hf (m3 j hj)
                rw[hc]
                rw[hc] at hcut
                exact hcut _ _ (k3 j (by omega))
             ·cases hk
            ·cases hk
        ·rename_i hm
         have hp:Zv l s1.objs=some o:=by
          by_cases hnd:l∈s1.di
          ·rcases Zly hdi l hnd with h1 | h1 | ⟨cs,h1,h2⟩
           ·omega
           ·exact absurd h1 hm
           ·rw[h2,← h,h1]
          ·exact (hd.obj l hnd hm).trans h
         obtain⟨L,hL,hat⟩:=r.good.at_ l o hp
         obtain⟨L0,hL0,hat0⟩:=r0.good.at_ l o h
         exact⟨o,L,hp,hL,ZdB hL hll,fun _ h=>h,Zvq.of hf hat0 _ _⟩
       have g2:=Z7.sub (E':=E.cut s0.nx) r.good rfl rfl tr
       obtain⟨nt,tmps,objs,nx,df,wr,di,mv⟩:=s0
       refine⟨E.cut nx,rfl,⟨g2,fun l hl=>?_,?_,r.drawn,r.size.trans hd.nt,?_,fun t=>?_⟩⟩
       ·show (if l < nx then _ else _)=_
        rw[if_neg (by have:nx≤l:=hl;omega)]
       ·refine⟨⟨r.step.ext.S,fun l L hl hL=>?_⟩,r.step.os,r.step.tape,r.step.output,r.step.size,r.step.frame,fun b hb=>r.step.own b (Zlj tr hb),r.step.st,fun l hl=>?_,fun l hl=>?_⟩
        ·have hll:l < nx:=Nat.lt_of_not_le fun hle=>by rw[hcx l hle] at hL;cases hL
         refine ZdB (r.step.ext.loc l L (fun hm=>?_) hL) hll
         rcases ZlR hmv l hm with h | h
         ·simp only at h;omega
         ·exact hl h
        ·have:Zv l (ZjY vs dd y' objs (ZfI vs++dd))=none:=hl
         rw[Zee] at this
         refine r0.step.keys l ?_
         split at this
         ·simpa using this
         ·exact this
        ·have h2:Zv l (ZjY vs dd y' objs (ZfI vs++dd))=none:=hl
         rw[Zee] at h2
         have h3:Zv l objs=none:=by
          split at h2
          ·simpa using h2
          ·exact h2
         show (if l < nx then E.loc l else none)=_
         split
         ·rename_i hll
          by_cases hm:l∈ZfI vs++dd
          ·
           have hk:=Zhy hks l hm
           unfold ZtN at hk
           rw[h3] at hk
           split at hk<;>cases hk
          ·have hnd:l∉s1.di:=fun hmem=>by
            rcases Zly hdi l hmem with h1 | h1 | ⟨cs,h1,h2⟩
            ·simp only at h1;omega
            ·exact hm h1
            ·rw[h3] at h1;cases h1
           exact r.step.dom l ((hd.obj l hnd hm).trans h3)
         ·rename_i hll
          exact (hcx l (by simp only;omega)).symm
       ·have:=r.df
        rw[hdf] at this
        exact Zd3.cut hf r0.df this
       ·show Rep P (E.cut nx) (ZbE t (anT an (Zh1 vs y' tmps))) _
        rw[ZlD]
        split
        ·exact .any _
        ·rename_i hn
         refine Znj (lo:=(E.cut nx).loc) (r.rep t) hy (fun hnv=>?_)
         have e:ZbE t tmps=ZbE t s1.tmps:=by
          by_cases hw:t∈s1.wr
          ·rcases Zpq hwr t hw with h | h | h
           ·exact absurd h hn
           ·exact absurd h hnv
           ·exact h
          ·exact (hd.tmp t hw hn hnv).symm
         have hcut:=Zj8.of hf (r0.rep t)
         have e':ZbE t (St.mk nt tmps objs nx df wr di mv).tmps=ZbE t s1.tmps:=e
         rw[e'] at hcut
         rw[e]
         exact hcut _ _ (r.rep t)
end
section
variable {P:Program} {τ:Zar} {κ:Z1}
def ZmG(M:List Nat)(v:V):V:=match v.key with
 | some k=>match Zek k M with
   | true=>.any
   | false=>v
 | none=>v
theorem Zk9{E E':Env}{M:List Nat}(hx:Ext E E' M){v:V}{c:Value}(r:Rep P E v c):Rep P E' (v.subst (ZmG M)) c:=by
 refine Zcq hx.S (fun v c hr r=>?_) r
 unfold ZmG
 split
 ·rename_i k hk
  split
  ·exact .any _
  ·rename_i hm
   have hk':∀ {L},E.loc k=some L→E'.loc k=some L:=fun h=>hx.loc k _ (fun hmem=>by rw[ZbL.2 hmem] at hm;cases hm) h
   cases r<;>simp only[V.isRef,Bool.false_eq_true] at hr<;>simp only[V.key,Option.some.injEq] at hk<;>subst hk
   ·rename_i h;exact .ref (hk' h)
   ·rename_i h;exact .rref (hk' h)
   ·rename_i h;exact .osl (hk' h)
   ·rename_i h hp;exact .osp (hk' h) hp
   ·rename_i h;exact .map (hk' h)
   ·rename_i h;exact .yl (hk' h)
   ·rename_i h;exact .bsl (hk' h)
 ·rename_i hk
  cases r<;>simp only[V.isRef,Bool.false_eq_true] at hr<;>simp only[V.key,reduceCtorEq] at hk
mutual
def V.hit(M:List Nat):V→Bool
 | .fn _ a b=>Ztk M a||Ztk M b
 | .agg cs=>Ztk M cs
 | .tup cs=>Ztk M cs
 | .er cs=>Ztk M cs
 | .when _ v=>V.hit M v
 | .opt _ v=>V.hit M v
 | .ref k _=>Zek k M
 | .rref k _ _=>Zek k M
 | .osl k=>Zek k M
 | .osp k _ _=>Zek k M
 | .map k=>Zek k M
 | .yl k=>Zek k M
 | .bsl k _=>Zek k M
 | _=>false
def Ztk(M:List Nat):List V→Bool
 | []=>false
 | v::r=>V.hit M v||Ztk M r
end
mutual
theorem ZgY{M:List Nat}:∀ {v:V},v.hit M=false→v.subst (ZmG M)=v
 | .fn g a b,h=>by simp only[V.hit,Bool.or_eq_false_iff] at h;simp only[V.subst,ZcC h.1,ZcC h.2]
 | .agg cs,h=>by simp only[V.hit] at h;simp only[V.subst,ZcC h]
 | .tup cs,h=>by simp only[V.hit] at h;simp only[V.subst,ZcC h]
 | .er cs,h=>by simp only[V.hit] at h;simp only[V.subst,ZcC h]
 | .when b v,h=>by simp only[V.hit] at h;simp only[V.subst,ZgY h]
 | .opt b v,h=>by simp only[V.hit] at h;simp only[V.subst,ZgY h]
 | .ref k o,h=>by simp only[V.hit] at h;simp only[V.subst,ZmG,V.key,h]
 | .rref k i o,h=>by simp only[V.hit] at h;simp only[V.subst,ZmG,V.key,h]
 | .osl k,h=>by simp only[V.hit] at h;simp only[V.subst,ZmG,V.key,h]
 | .osp k lo n,h=>by simp only[V.hit] at h;simp only[V.subst,ZmG,V.key,h]
 | .map k,h=>by simp only[V.hit] at h;simp only[V.subst,ZmG,V.key,h]
 | .yl k,h=>by simp only[V.hit] at h;simp only[V.subst,ZmG,V.key,h]
 | .bsl k n,h=>by simp only[V.hit] at h;simp only[V.subst,ZmG,V.key,h]
 | .any,_=>rfl
 | .d _ _,_=>rfl
 | .nilp,_=>rfl
 | .nilf,_=>rfl
 | .nils,_=>rfl
 | .nilm,_=>rfl
 | .pf _ _ _ _,_=>rfl
theorem ZcC{M:List Nat}:∀ {cs:List V},Ztk M cs=false→ZbR (ZmG M) cs=cs
 | [],_=>rfl
 | v::r,h=>by simp only[Ztk,Bool.or_eq_false_iff] at h;simp only[ZbR,ZgY h.1,ZcC h.2]
end
def Zw7(M:List Nat):List (Nat×V)→List Nat
 | []=>[]
 | (t,v)::r=>match v.hit M with
   | true=>t::Zw7 M r
   | false=>Zw7 M r
theorem Zl6{M:List Nat}{t:Nat}:∀ {tmps:List (Nat×V)},t∉Zw7 M tmps→ZbE t (ZcI (ZmG M) tmps)=ZbE t tmps
 | [],_=>rfl
 | (u,v)::r,h=>by
   simp only[Zw7] at h
   rw[ZcI,Zah,Zah]
   cases hv:v.hit M with
   | true =>
     rw[hv] at h
     simp only[List.mem_cons,not_or] at h
     rw[if_neg (Ne.symm h.1),if_neg (Ne.symm h.1)]
     exact Zl6 h.2
   | false =>
     rw[hv] at h
     rw[ZgY hv]
     split
     ·rfl
     ·exact Zl6 h
structure FI where
 nt:Nat
 res:List ResultVar
 code:Code
def FI.Ok (P : Program) (g : FuncId) (fi : FI) : Prop := ∃ fn, P.funcs[g]? = some fn ∧ fn.body = some fi.code ∧ fn.ntmps = fi.nt ∧ fn.results.toList = fi.res ∧ (fn.name == "runtime.NumGoroutine") = false
theorem FI.Ok.call{g:FuncId}{fi:FI}(h:fi.Ok P g):ZbT P g:=by
 obtain⟨fn,h1,h2,_,_,h5⟩:=h
 exact⟨fn,h1,by rw[h2];rfl,h5⟩
def ZhE:List Df→Zat→Option Zat
 | [],o=>some o
 | .mark l::r,o=>match Zv l o with
   | some .dfb=>ZhE r ((l,.dead)::o)
   | _=>none
 | .fn _ _::_,_=>none
def ZmZ:List Df→List Nat
 | []=>[]
 | .mark l::r=>l::ZmZ r
 | .fn _ _::r=>ZmZ r
def Zoo(τ:Zar)(tmps:List (Nat×V))(objs:Zat):List ResultVar→Option (List V)
 | []=>some []
 | .tmp t::l=>match Zoo τ tmps objs l with
   | some r=>some (ZbE t tmps::r)
   | none=>none
 | .cell b t::l=>match ZbE b tmps with
   | .ref k 0=>match Zv k objs with
     | some (.box cs)=>match τ t with
       | some ti=>match ti.k.known with
         | true=>match ZlN ti.size cs with
           | some ds=>match Zfb ti.isAgg ds with
             | some v=>match Zoo τ tmps objs l with
               | some r=>some (v::r)
               | none=>none
             | none=>none
           | none=>none
         | false=>none
       | none=>none
     | _=>none
   | _=>none
def Zwd:List V→V
 | [v]=>v
 | l=>.tup l
def Zgl(τ:Zar)(res:List ResultVar)(s:St):Option (V×St):=match s with
 | ⟨nt,tmps,objs,nx,df,wr,di,mv⟩=>match ZhE df objs with
   | some objs'=>match Zoo τ tmps objs' res with
     | some vs=>some (Zwd vs,⟨nt,tmps,objs',nx,[],wr,ZmZ df++di,mv⟩)
     | none=>none
   | none=>none
def ZoY(tmps:Array Value):ResultVar→Sem Value
 | .tmp t=>pure (tmps.getD t undef)
 | .cell b t=>do loadVar t (← asAddr (tmps.getD b undef))
theorem ZkD(fn:Func)(tmps:Array Value):results fn tmps=(do let vs ← fn.results.mapM (ZoY tmps);pure (if h:vs.size=1 then vs[0] else .tuple vs)):=by
 rfl
theorem Zjw (hτ : Zbs P τ) {tmps : List (Nat × V)} {objs : Zat} {E : Env} {a : Act} (g : Z7 P E objs) (h6 : ∀ t, Rep P E (ZbE t tmps) (a.tmps.getD t undef)) : ∀ {l : List ResultVar} {vs : List V}, Zoo τ tmps objs l = some vs →
 ∃ cs:List Value,(l.mapM (ZoY a.tmps)).run P E.w=.ok cs E.w∧Zby P E vs cs
 | [],vs,h=>by simp only[Zoo] at h;cases h;exact⟨[],by simp,.nil⟩
 | .tmp t::l,vs,h=>by
   simp only[Zoo] at h
   split at h
   ·rename_i r h1
    cases h
    obtain⟨cs,h2,h3⟩:=Zjw hτ g h6 h1
    exact⟨a.tmps.getD t undef::cs,by simp only[List.mapM_cons,ZoY,Sem.run_bind,Sem.run_pure,Result.andThen_ok,h2],.cons (h6 t) h3⟩
   ·cases h
 | .cell b t::l,vs,h=>by
   simp only[Zoo] at h
   split at h
   ·rename_i k hb
    split at h
    ·rename_i cs hcs
     split at h
     ·rename_i ti hti
      split at h
      ·rename_i hk
       split at h
       ·rename_i ds hd1
        split at h
        ·rename_i v hd2
         split at h
         ·rename_i r hr
          cases h
          obtain⟨rfl,hd3⟩:=Zfd hd1
          obtain⟨L,hL,hat⟩:=g.at_ _ _ hcs
          obtain⟨vals,t',h4,h5⟩:=Zls hat
          obtain⟨h7,h8⟩:=h5.at_cells h4 0 ti.size
          rw[List.drop_zero] at h7
          have hb':=h6 b
          rw[hb] at hb'
          obtain⟨L',hL',e⟩:=Zhk hb'
          rw[hL] at hL';cases hL'
          have hl:=Zjp (hτ t ti hti) hk E.w L.b 0 _ (h7.1.trans hd3) h8
          obtain⟨cs',h2,h3⟩:=Zjw hτ g h6 hr
          have r1:=ZiV hd2 h7
          have hl':=hl r1.2
          refine⟨_,by simp only[List.mapM_cons,ZoY,e,asAddr,Sem.run_bind,Sem.run_pure,Result.andThen_ok,hl',h2],.cons r1.1 h3⟩
         ·cases h
        ·cases h
       ·cases h
      ·cases h
     ·cases h
    ·cases h
   ·cases h
theorem Zsg{E:Env}{vs:List V}{cs:List Value}(r:Zby P E vs cs):Rep P E (Zwd vs) (if h:cs.toArray.size=1 then cs.toArray[0] else .tuple cs.toArray):=by
 match vs,cs,r with
 | [],[],r=>exact .tup rfl (fun j hj=>by simp at hj)
 | [v],[c],r=>exact r.head
 | v::v'::vs,c::c'::cs,r =>
   rw[dif_neg (by simp)]
   exact .tup (by simpa using r.1) (fun j hj=>by have:=r.2 j hj;simpa[Array.getD_eq_getD_getElem?,List.getD_eq_getElem?_getD] using this)
 | [],_::_,r=>have:=r.1;simp at this
 | [_],[],r=>have:=r.1;simp at this
 | [_],_::_::_,r=>have:=r.1;simp at this
 | _::_::_,[],r=>have:=r.1;simp at this
 | _::_::_,[_],r=>have:=r.1;simp at this
def Zc7:Nat→List V→List (Nat×V)
 | _,[]=>[]
 | n,v::l=>(n,v)::Zc7 (n+1) l
theorem Zns:∀ (l:List V) (n t:Nat),ZbE t (Zc7 n l)=if n≤t then l.getD (t - n) .any else .any
 | [],n,t=>by simp[Zc7,ZbE]
 | v::l,n,t=>by
   rw[Zc7,Zah]
   split
   ·rename_i e;subst e;simp
   ·rename_i e
    rw[Zns l (n+1) t]
    by_cases h:n≤t
    ·rw[if_pos h,if_pos (by omega),show t - n=(t - (n+1))+1 from by omega];simp
    ·rw[if_neg h,if_neg (by omega)]
theorem ZeQ {E : Env} {objs : Zat} {nx nt : Nat} {args : List V} {cargs : Array Value} (g : Z7 P E objs) (hf : ∀ l, nx ≤ l → E.loc l = none) (r : Zby P E args cargs.toList) (hn : args.length ≤ nt) :
 Rel P ⟨E,objs⟩ ⟨nt,Zc7 0 args,objs,nx,[],[],[],[]⟩ { tmps:=cargs++Array.replicate (nt - cargs.size) undef,defers:=[] } E.w:=by
 have hsz:cargs.size=args.length:=by simpa using r.1
 refine⟨E,rfl,g,hf,.refl _ _ _,Nat.le_refl _,?_,rfl,fun t=>?_⟩
 ·simp[hsz];omega
 ·show Rep P E (ZbE t (Zc7 0 args)) _
  rw[Zns,if_pos (Nat.zero_le _),Nat.sub_zero]
  by_cases ht:t < args.length
  ·have:=r.2 t ht
   simp only[Array.getD_eq_getD_getElem?]
   rw[Array.getElem?_append_left (by omega)]
   simpa[List.getD_eq_getElem?_getD] using this
  ·rw[List.getD_eq_getElem?_getD,List.getElem?_eq_none (by omega)]
   exact .any _
structure Aft (P:Program) (E:Env) (objs:Zat) (s2:St) (E':Env):Prop where
 good:Z7 P E' s2.objs
 fresh:∀ l,s2.nx≤l→E'.loc l=none
 step:ZcH E objs E' s2.objs s2.mv
 drawn:E.w.drawn≤E'.w.drawn
theorem ZhD {fn : Func} {tmps : Array Value} {R : Ending → World → Prop} : ∀ {df : List Df} {ds : List Deferred} {objs objs' : Zat} {E : Env}, ZhE df objs = some objs' → Zd3 P E df ds → Z7 P E objs →
 (∀ E',Z7 P E' objs'→ZcH E objs E' objs' []→E.w.drawn≤E'.w.drawn→LeavesInM (fz none) 0 P fn tmps R [] .returning E'.w)→LeavesInM (fz none) 0 P fn tmps R ds .returning E.w
 | [],ds,objs,objs',E,h,hd,g,hk=>by
   cases h
   rw[show ds=[] from hd]
   exact hk E g (.refl _ _ _) (Nat.le_refl _)
 | .mark l::r,ds,objs,objs',E,h,⟨L,rest,h1,⟨K,hK,h2⟩,h3⟩,g,hk=>by
   simp only[ZhE] at h
   split at h
   ·rename_i ho
    obtain⟨K',hK',hat⟩:=g.at_ l _ ho
    rw[hK] at hK';cases hK'
    have hb:E.w.heap[L]?=some (.deferred (some [])):=by rw[← h2];exact hat
    have hlt:L < E.w.heap.size:=(Array.getElem?_eq_some_iff.1 hb).1
    have hgr:E.w.grownBy (E.w.putObj L (.deferred none)) (some L):=grownBy_putObj' _ _ _
    have hp:=Z7.put g (mv:=false) (o':=.dead) (L':=K) ho hK hgr (fun b e=>by cases e;exact⟨trivial,h2.symm⟩) (fun _=>rfl) trivial (fun h=>h.elim)
    have e:E.setL (E.w.putObj L (.deferred none)) l K=⟨E.w.putObj L (.deferred none),E.S,E.loc⟩:=by
     simp only[Env.setL]
     congr 1
     funext j
     split
     ·rename_i e;subst e;exact hK.symm
     ·rfl
    rw[e] at hp
    subst h1
    refine⟨by simp,.inl ⟨L,_,rfl,run_takeDeferred hb,?_⟩⟩
    have hx:Ext E ⟨E.w.putObj L (.deferred none),E.S,E.loc⟩ []:=by simpa[moved] using hp.2.ext
    exact ZhD (E:=⟨E.w.putObj L (.deferred none),E.S,E.loc⟩) h (h3.ext hx) hp.1 (fun E' g' st hd=>hk E' g' (by simpa[moved,edit] using hp.2.trans st) hd)
   ·cases h
 | .fn _ _::_,_,_,_,_,h,_,_,_=>by cases h
theorem ZgG (hτ : Zbs P τ) {cx : Cx} {fi : FI} {fn : Func} (hres : fn.results.toList = fi.res) {s s2 : St} {v : V} (h : Zgl τ fi.res s = some (v, s2)) {a : Act} {w : World} (hr : Rel P cx s a w) {R : Ending → World → Prop}
 (hk:∀ u E',Aft P cx.E cx.imp s2 E'→Rep P E' v u→R (.returned u) E'.w):LeavesInM (fz none) 0 P fn a.tmps R a.defers .returning w:=by
 obtain⟨nt,tmps,objs,nx,df,wr,di,mv⟩:=s
 unfold Zgl at h
 simp only at h
 split at h
 ·rename_i objs' hc
  split at h
  ·rename_i vs hvs
   cases h
   obtain⟨E,rfl,r⟩:=hr
   refine ZhD hc r.df r.good (fun E' g' st hd=>?_)
   have hrep:∀ t,Rep P E' (ZbE t tmps) (a.tmps.getD t undef):=fun t=>(r.rep t).mono st.ext
   obtain⟨cs,h13,h14⟩:=Zjw hτ g' hrep hvs
   refine⟨_,?_,hk _ E' ⟨g',fun l hl=>?_,by simpa using r.step.trans st,Nat.le_trans r.drawn hd⟩ (Zsg h14)⟩
   ·rw[ZkD,Array.mapM_eq_mapM_toList,hres]
    simp only[Sem.run_bind,Sem.run_map,h13,Result.andThen_ok,Sem.run_pure]
   ·have hn:Zv l objs'=none:=by
     have h1:Zv l objs=none:=by
      cases h:Zv l objs with
      | none=>rfl
      | some o=>obtain⟨L,hL,_⟩:=r.good.at_ l o h;rw[r.fresh l hl] at hL;cases hL
     exact closeM_none hc h1
    rw[st.dom l hn];exact r.fresh l hl
  ·cases h
 ·cases h
where
 closeM_none:∀ {df:List Df} {objs objs':Zat} {l:Nat},ZhE df objs=some objs'→Zv l objs=none→Zv l objs'=none
  | [],_,_,_,h,hn=>by cases h;exact hn
  | .mark k::r,objs,objs',l,h,hn=>by
    simp only[ZhE] at h
    split at h
    ·rename_i ho
     refine closeM_none h ?_
     rw[Zl,if_neg ?_]
     ·exact hn
     ·intro e;subst e;rw[hn] at ho;cases ho
    ·cases h
  | .fn _ _::_,_,_,_,h,_=>by cases h
def Zif(M:List Nat):List Df→Bool
 | []=>true
 | .mark l::r=>match Zek l M with
   | true=>false
   | false=>Zif M r
 | .fn _ _::_=>false
def Zlm(s s2:St):Option St:=match s,s2 with
 | ⟨nt,tmps,_,_,df,wr,di,mv⟩,⟨_,_,objs,nx,_,_,di2,mv2⟩=>match mv2 with
   | []=>some ⟨nt,tmps,objs,nx,df,wr,di2++di,mv⟩
   | l::r=>match Zif (l::r) df with
     | true=>some ⟨nt,ZcI (ZmG (l::r)) tmps,objs,nx,df,Zw7 (l::r) tmps++wr,di2++di,l::r++mv⟩
     | false=>none
theorem Zd3.marks{E E':Env}{M:List Nat}(hx:Ext E E' M):∀ {df:List Df} {ds:List Deferred},Zif M df=true→Zd3 P E df ds→Zd3 P E' df ds
 | [],_,_,h=>h
 | .mark l::r,_,hm,⟨L,rest,h1,⟨K,hK,h2⟩,h3⟩=>by
   simp only[Zif] at hm
   split at hm
   ·cases hm
   ·rename_i hne
    exact⟨L,rest,h1,⟨K,hx.loc l K (fun h=>by rw[ZbL.2 h] at hne;cases hne) hK,h2⟩,h3.marks hx hm⟩
 | .fn _ _::_,_,hm,_=>by cases hm
theorem ZjL{cx:Cx}{s s2 s3:St}{a:Act}{E E':Env}(r:ZcR P cx s a E)(h:Zlm s s2=some s3)(k:Aft P E s.objs s2 E'):ZcR P cx s3 a E':=by
 obtain⟨nt,tmps,objs,nx,df,wr,di,mv⟩:=s
 obtain⟨nt2,tmps2,objs2,nx2,df2,wr2,di2,mv2⟩:=s2
 unfold Zlm at h
 cases mv2 with
 | nil =>
   cases h
   have hx:Ext E E' []:=k.step.ext
   exact⟨k.good,k.fresh,r.step.trans k.step,Nat.le_trans r.drawn k.drawn,r.size,r.df.ext hx,fun t=>(r.rep t).mono hx⟩
 | cons l M =>
   simp only at h
   split at h
   ·rename_i hm
    cases h
    have hx:Ext E E' (l::M):=k.step.ext
    refine⟨k.good,k.fresh,r.step.trans k.step,Nat.le_trans r.drawn k.drawn,r.size,r.df.marks hx hm,fun t=>?_⟩
    show Rep P E' (ZbE t (ZcI _ tmps)) _
    rw[ZcD,ZcS]
    exact Zk9 hx (r.rep t)
   ·cases h
structure Zx9 (objs:Zat) (nx:Nat) (s2:St):Prop where
 nx:nx≤s2.nx
 obj:∀ l,l∉s2.di→Zv l s2.objs=Zv l objs
theorem Zp2{s0 s s2:St}{v:V}{res:List ResultVar}(h:Zgl τ res s=some (v,s2))(k:Inv s0 s):Zx9 s0.objs s0.nx s2:=by
 obtain⟨nt,tmps,objs,nx,df,wr,di,mv⟩:=s
 unfold Zgl at h
 simp only at h
 split at h
 ·rename_i objs' hc
  split at h
  ·cases h
   refine⟨k.nx,fun l hl=>?_⟩
   simp only[List.mem_append,not_or] at hl
   exact (closeM_get hc hl.1).trans (k.obj l hl.2)
  ·cases h
 ·cases h
where
 closeM_get:∀ {df:List Df} {objs objs':Zat} {l:Nat},ZhE df objs=some objs'→l∉ZmZ df→Zv l objs'=Zv l objs
  | [],_,_,_,h,_=>by cases h;rfl
  | .mark k::r,objs,objs',l,h,hn=>by
    simp only[ZhE] at h
    simp only[ZmZ,List.mem_cons,not_or] at hn
    split at h
    ·rw[closeM_get h hn.2,Zl,if_neg (Ne.symm hn.1)]
    ·cases h
  | .fn _ _::_,_,_,_,h,_=>by cases h
theorem Ziw{s s2 s3:St}(h:Zlm s s2=some s3)(k:Zx9 s.objs s.nx s2):Inv s s3:=by
 obtain⟨nt,tmps,objs,nx,df,wr,di,mv⟩:=s
 obtain⟨nt2,tmps2,objs2,nx2,df2,wr2,di2,mv2⟩:=s2
 unfold Zlm at h
 have ho:∀ l,l∉di2++di→Zv l objs2=Zv l objs:=fun l hl=>k.obj l fun hm=>hl (List.mem_append_left _ hm)
 cases mv2 with
 | nil =>
   cases h
   exact⟨rfl,k.nx,fun _ h=>h,fun l hl=>List.mem_append_right _ hl,fun _ h=>h,fun _ _=>rfl,ho,fun _=>rfl⟩
 | cons l M =>
   simp only at h
   split at h
   ·cases h
    exact⟨rfl,k.nx,fun t ht=>List.mem_append_right _ ht,fun l hl=>List.mem_append_right _ hl,fun _ h=>List.mem_append_right _ h,
     fun t ht=>Zl6 fun hm=>ht (List.mem_append_left _ hm),ho,fun _=>rfl⟩
   ·cases h
end
section
variable {P:Program}
def Zp1(l:Nat):List Nat→Nat→Option Nat
 | [],_=>none
 | k::r,i=>match Nat.beq k l with
   | true=>some i
   | false=>Zp1 l r (i+1)
theorem ZgN{l:Nat}:∀ {ks:List Nat} {n i:Nat},Zp1 l ks n=some i→n≤i∧ks[i - n]?=some l
 | [],_,_,h=>by cases h
 | k::r,n,i,h=>by
   simp only[Zp1] at h
   split at h
   ·rename_i e
    cases h
    exact⟨Nat.le_refl _,by simp[Nat.eq_of_beq_eq_true e]⟩
   ·obtain⟨h1,h2⟩:=ZgN h
    refine⟨by omega,?_⟩
    rw[show i - n=(i - (n+1))+1 from by omega]
    simpa using h2
theorem Znp{l:Nat}:∀ {ks:List Nat} {n:Nat},Zp1 l ks n=none→l∉ks
 | [],_,_=>by simp
 | k::r,n,h=>by
   simp only[Zp1] at h
   split at h
   ·cases h
   ·rename_i e
    simp only[List.mem_cons,not_or]
    exact⟨fun e'=>Nat.ne_of_beq_eq_false e e'.symm,Znp h⟩
theorem Zof{l i:Nat}{ks:List Nat}(hn:ks.Nodup)(h:ks[i]?=some l):Zp1 l ks 0=some i:=by
 cases e:Zp1 l ks 0 with
 | none=>exact absurd (List.mem_of_getElem? h) (Znp e)
 | some j =>
   obtain⟨_,h2⟩:=ZgN e
   rw[Nat.sub_zero] at h2
   have hi:=(List.getElem?_eq_some_iff.1 h).1
   have hj:=(List.getElem?_eq_some_iff.1 h2).1
   congr 1
   exact (List.getElem_inj hn).1 (by rw[(List.getElem?_eq_some_iff.1 h).2,(List.getElem?_eq_some_iff.1 h2).2])
def V.rekey(k:Nat):V→V
 | .ref _ o=>.ref k o
 | .rref _ i o=>.rref k i o
 | .osl _=>.osl k
 | .osp _ lo n=>.osp k lo n
 | .map _=>.map k
 | .yl _=>.yl k
 | .bsl _ n=>.bsl k n
 | v=>v
def unF(ks:List Nat)(v:V):V:=match v.key with
 | some l=>match Zp1 l ks 0 with
   | some i=>v.rekey i
   | none=>.any
 | none=>v
def rnF(ks:List Nat)(v:V):V:=match v.key with
 | some i=>match ks[i]? with
   | some l=>v.rekey l
   | none=>.any
 | none=>v
theorem ZmX{E E':Env}{v:V}{c:Value}{l k:Nat}(hk:v.key=some l)(h:∀ L,E.loc l=some L→E'.loc k=some L)(r:Rep P E v c):Rep P E' (v.rekey k) c:=by
 cases r<;>simp only[V.key,Option.some.injEq,reduceCtorEq] at hk<;>subst hk
 ·rename_i h1;exact .ref (h _ h1)
 ·rename_i h1;exact .rref (h _ h1)
 ·rename_i h1;exact .osl (h _ h1)
 ·rename_i h1 hp;exact .osp (h _ h1) hp
 ·rename_i h1;exact .map (h _ h1)
 ·rename_i h1;exact .yl (h _ h1)
 ·rename_i h1;exact .bsl (h _ h1)
theorem ZwX{E E':Env}{ks:List Nat}(hS:∀ b,E.S b→E'.S b∧E'.w.heap[b]?=E.w.heap[b]?)(hl:∀ i l,ks[i]?=some l→∀ L,E.loc l=some L→E'.loc i=some L){v:V}{c:Value}(r:Rep P E v c):Rep P E' (v.subst (unF ks)) c:=by
 refine Zcq hS (fun v c hr r=>?_) r
 unfold unF
 split
 ·rename_i l hk
  split
  ·rename_i i hi
   obtain⟨_,h2⟩:=ZgN hi
   exact ZmX hk (hl i l (by simpa using h2)) r
  ·exact .any _
 ·rename_i hk
  cases r<;>simp only[V.isRef,Bool.false_eq_true] at hr<;>simp only[V.key,reduceCtorEq] at hk
theorem Zwp{E E':Env}{ks:List Nat}(hS:∀ b,E.S b→E'.S b∧E'.w.heap[b]?=E.w.heap[b]?)(hl:∀ i l,ks[i]?=some l→∀ L,E.loc i=some L→E'.loc l=some L){v:V}{c:Value}(r:Rep P E v c):Rep P E' (v.subst (rnF ks)) c:=by
 refine Zcq hS (fun v c hr r=>?_) r
 unfold rnF
 split
 ·rename_i i hk
  split
  ·rename_i l hi
   exact ZmX hk (hl i l hi) r
  ·exact .any _
 ·rename_i hk
  cases r<;>simp only[V.isRef,Bool.false_eq_true] at hr<;>simp only[V.key,reduceCtorEq] at hk
structure ZqJ where
 α:Type
 β:Type
 rs:List Ty
 k:Nat
 vals:α→List V
 objs:β→Zat
 get:List V→Zat→Option (List Nat×α×β)
 back:Zat→Option β
 pre:α→β→Prop
 post:α→β→ZeI rs→β→Prop
 ch:List Nat
 mv:List Nat
structure ZqJ.Law (R:ZqJ):Prop where
 get:∀ vs os ks a b,R.get vs os=some (ks,a,b)→ZbR (unF ks) vs=R.vals a∧ks.length=R.k∧ks.Nodup ∧
  ∀ i l,ks[i]?=some l→∃ o,Zv l os=some o∧Zv i (R.objs b)=some (o.subst (unF ks))∧(i∉R.ch→(o.subst (unF ks)).subst (rnF ks)=o)
 dom:∀ b i o,Zv i (R.objs b)=some o→i < R.k
 back:∀ os b,R.back os=some b→∀ i,i < R.k→Zv i os=Zv i (R.objs b)
 same:∀ b b' i,i∉R.ch→Zv i (R.objs b')=Zv i (R.objs b)
 ch:∀ i∈R.ch,i < R.k
 mv:∀ i∈R.mv,i∈R.ch
def ZlA(ks:List Nat)(os:Zat):List Nat→Zat
 | []=>[]
 | i::r=>match ks[i]? with
   | some l=>match Zv i os with
     | some o=>(l,o.subst (rnF ks))::ZlA ks os r
     | none=>ZlA ks os r
   | none=>ZlA ks os r
def mvK(ks:List Nat):List Nat→List Nat
 | []=>[]
 | i::r=>match ks[i]? with
   | some l=>l::mvK ks r
   | none=>mvK ks r
def Zo1(M:List Nat)(objs:Zat):Zat:=match M with
 | []=>objs
 | l::r=>substO (ZmG (l::r)) objs
def ZbX(R:ZqJ)(ks:List Nat)(b:R.β)(objs:Zat):Zat:=ZlA ks (R.objs b) R.ch++Zo1 (mvK ks R.mv) objs
theorem Zfo{l:Nat}:∀ {a b:Zat},Zv l (a++b)=(match Zv l a with | some o=>some o | none=>Zv l b)
 | [],_=>rfl
 | (k,o)::r,b=>by
   rw[List.cons_append,Zl,Zl]
   split
   ·rfl
   ·exact Zfo
theorem ZfE{ks:List Nat}{os:Zat}{l:Nat}{o:Obj}:∀ {ch:List Nat},Zv l (ZlA ks os ch)=some o→∃ i∈ch,ks[i]?=some l∧∃ q,Zv i os=some q∧o=q.subst (rnF ks)
 | [],h=>by cases h
 | i::r,h=>by
   simp only[ZlA] at h
   have rec':Zv l (ZlA ks os r)=some o→∃ j∈i::r,ks[j]?=some l∧∃ q,Zv j os=some q∧o=q.subst (rnF ks):=fun h=>by
    obtain⟨j,h1,h2⟩:=ZfE h
    exact⟨j,List.mem_cons_of_mem _ h1,h2⟩
   split at h
   ·rename_i l' hl
    split at h
    ·rename_i q hq
     rw[Zl] at h
     split at h
     ·rename_i e;subst e;cases h
      exact⟨i,by simp,hl,q,hq,rfl⟩
     ·exact rec' h
    ·exact rec' h
   ·exact rec' h
theorem Zfr{ks:List Nat}{os:Zat}{l:Nat}:∀ {ch:List Nat},Zv l (ZlA ks os ch)=none→∀ i∈ch,ks[i]?=some l→Zv i os=none
 | [],_,i,hi,_=>by simp at hi
 | j::r,h,i,hi,hl=>by
   simp only[ZlA] at h
   rcases List.mem_cons.1 hi with rfl | hi
   ·rw[hl] at h
    simp only at h
    split at h
    ·rw[Zl,if_pos rfl] at h;cases h
    ·assumption
   ·split at h
    ·split at h
     ·rw[Zl] at h
      split at h
      ·cases h
      ·exact Zfr h i hi hl
     ·exact Zfr h i hi hl
    ·exact Zfr h i hi hl
theorem Zlb{ks:List Nat}{l:Nat}:∀ {mv:List Nat},l∈mvK ks mv↔∃ i∈mv,ks[i]?=some l
 | []=>by simp[mvK]
 | i::r=>by
   simp only[mvK]
   split
   ·rename_i k hk
    rw[List.mem_cons,Zlb (mv:=r)]
    constructor
    ·rintro (rfl | ⟨j,h1,h2⟩)
     ·exact⟨i,by simp,hk⟩
     ·exact⟨j,List.mem_cons_of_mem _ h1,h2⟩
    ·rintro⟨j,h1,h2⟩
     rcases List.mem_cons.1 h1 with rfl | h1
     ·rw[hk] at h2;cases h2;exact .inl rfl
     ·exact .inr ⟨j,h1,h2⟩
   ·rename_i hk
    rw[Zlb (mv:=r)]
    constructor
    ·rintro⟨j,h1,h2⟩;exact⟨j,List.mem_cons_of_mem _ h1,h2⟩
    ·rintro⟨j,h1,h2⟩
     rcases List.mem_cons.1 h1 with rfl | h1
     ·rw[hk] at h2;cases h2
     ·exact⟨j,h1,h2⟩
theorem Zfm{M:List Nat}{objs:Zat}{l:Nat}:Zv l (Zo1 M objs)=(Zv l objs).map fun q=>match M with | []=>q | m::r=>q.subst (ZmG (m::r)):=by
 cases M with
 | nil=>simp only[Zo1,Option.map_id_fun',id_eq]
 | cons m r=>simp only[Zo1,ZbS]
def ZmA(ks:List Nat)(E:Env):Env:=⟨E.w,E.S,fun i=>match ks[i]? with
 | some l=>E.loc l
 | none=>none⟩
def Zm3(ks:List Nat)(E E2:Env):Env:=⟨E2.w,E2.S,fun l=>match Zp1 l ks 0 with
 | some i=>E2.loc i
 | none=>E.loc l⟩
theorem Zst{E:Env}{ks:List Nat}{v:V}{c:Value}(r:Rep P E v c):Rep P (ZmA ks E) (v.subst (unF ks)) c :=
 ZwX (E:=E) (E':=ZmA ks E) (fun b h=>⟨h,rfl⟩) (fun i l h L hL=>by simp only[ZmA,h];exact hL) r
theorem ZmS {R : ZqJ} (hl : R.Law) {E : Env} {objs : Zat} {vs : List V} {ks : List Nat} {a : R.α} {b : R.β} (g : Z7 P E objs) (hg : R.get vs objs = some (ks, a, b)) :
 Z7 P (ZmA ks E) (R.objs b)∧(∀ l,R.k≤l→(ZmA ks E).loc l=none)∧(∀ {cs:List Value},Zby P E vs cs→Zby P (ZmA ks E) (R.vals a) cs):=by
 obtain⟨h1,h2,h3,h4⟩:=hl.get _ _ _ _ _ hg
 have hget:∀ i o,Zv i (R.objs b)=some o→∃ l q,ks[i]?=some l∧Zv l objs=some q∧o=q.subst (unF ks):=fun i o h=>by
  have hi:=hl.dom b i o h
  have hk:ks[i]?=some ks[i]:=List.getElem?_eq_getElem (by omega)
  obtain⟨q,k1,k2,_⟩:=h4 i _ hk
  rw[h] at k2;cases k2
  exact⟨_,q,hk,k1,rfl⟩
 have hloc:∀ i l,ks[i]?=some l→(ZmA ks E).loc i=E.loc l:=fun i l h=>by simp only[ZmA,h]
 refine⟨⟨fun i o h=>?_,fun c h=>?_,g.sl,g.tab,fun i j o o' L L' k1 k2 k3 k4 k5 k6 k7=>?_⟩,fun l h=>?_,fun {cs} r=>?_⟩
 ·obtain⟨l,q,e1,e2,rfl⟩:=hget i o h
  obtain⟨L,hL,ha⟩:=g.at_ l q e2
  exact⟨L,by rw[hloc i l e1];exact hL,ha.keepS (fun v c r=>Zst r) (fun b hb=>⟨hb,rfl⟩) (fun _=>rfl)⟩
 ·obtain⟨i,o,L,k1,k2,k3,k4⟩:=h
  obtain⟨l,q,e1,e2,rfl⟩:=hget i o k1
  rw[hloc i l e1] at k2
  exact g.ns c ⟨l,q,L,e2,k2,Obj.has_subst.1 k3,k4⟩
 ·obtain⟨l,q,e1,e2,rfl⟩:=hget i o k1
  obtain⟨l',q',f1,f2,rfl⟩:=hget j o' k2
  rw[hloc i l e1] at k3
  rw[hloc j l' f1] at k4
  have:=g.inj l l' q q' L L' e2 f2 k3 k4 (Obj.has_subst.1 k5) (Obj.has_subst.1 k6) k7
  subst this
  have x1:=Zof h3 e1
  rw[Zof h3 f1] at x1
  exact (Option.some.inj x1).symm
 ·simp only[ZmA]
  rw[List.getElem?_eq_none (by omega)]
 ·rw[← h1]
  exact reps_subst' (fun v c h=>Zst h) r
where
 reps_subst' {E E':Env} {f:V→V} (h:∀ v c,Rep P E v c→Rep P E' (v.subst f) c) {vs:List V} {cs:List Value} (r:Zby P E vs cs):Zby P E' (ZbR f vs) cs :=
  ⟨by rw[Zcc,List.length_map];exact r.1,fun j hj=>by
   rw[Zcc,List.length_map] at hj
   rw[ZbY hj];exact h _ _ (r.2 j hj)⟩
theorem Zrg {R : ZqJ} (hl : R.Law) {E E2 : Env} {objs objs2 : Zat} {vs : List V} {ks M : List Nat} {a : R.α} {b b' : R.β} (g : Z7 P E objs) (hg : R.get vs objs = some (ks, a, b)) (g2 : Z7 P E2 objs2)
 (st:ZcH (ZmA ks E) (R.objs b) E2 objs2 M) (hM:∀ i∈M,i∈R.mv) (hb:R.back objs2=some b') :
 Z7 P (Zm3 ks E E2) (ZbX R ks b' objs)∧ZcH E objs (Zm3 ks E E2) (ZbX R ks b' objs) (mvK ks R.mv):=by
 obtain⟨gl,_,_⟩:=ZmS hl g hg
 obtain⟨h1,h2,h3,h4⟩:=hl.get _ _ _ _ _ hg
 have hloc:∀ i l,ks[i]?=some l→(ZmA ks E).loc i=E.loc l:=fun i l h=>by simp only[ZmA,h]
 have hglo:∀ i l,ks[i]?=some l→(Zm3 ks E E2).loc l=E2.loc i:=fun i l h=>by simp only[Zm3,Zof h3 h]
 have hgln:∀ l,l∉ks→(Zm3 ks E E2).loc l=E.loc l:=fun l h=>by
  simp only[Zm3]
  split
  ·rename_i i hi
   obtain⟨_,k⟩:=ZgN hi
   exact absurd (List.mem_of_getElem? k) h
  ·rfl
 have hlt:∀ {i l:Nat},ks[i]?=some l→i < R.k:=fun h=>by have:=(List.getElem?_eq_some_iff.1 h).1;omega
 have hobj2:∀ i l,ks[i]?=some l→Zv i objs2=Zv i (R.objs b'):=fun i l h=>hl.back _ _ hb i (hlt h)
 have hex:∀ i l,ks[i]?=some l→∃ o,Zv i (R.objs b')=some o:=fun i l h=>by
  cases e:Zv i (R.objs b') with
  | some o=>exact⟨o,rfl⟩
  | none =>
    have:=st.keys i (by rw[hobj2 i l h,e])
    obtain⟨o,_,k,_⟩:=h4 i l h
    rw[k] at this;cases this
 have hlE:∀ i l,ks[i]?=some l→∃ o L,Zv l objs=some o∧E.loc l=some L:=fun i l h=>by
  obtain⟨o,k,_⟩:=h4 i l h
  obtain⟨L,hL,_⟩:=g.at_ l o k
  exact⟨o,L,k,hL⟩
 have hx:Ext E (Zm3 ks E E2) (mvK ks R.mv):=⟨fun c hc=>st.ext.S c hc,fun l L hn hL=>by
  by_cases hm:l∈ks
  ·obtain⟨i,hi⟩:=List.mem_iff_getElem?.1 hm
   rw[hglo i l hi]
   refine st.ext.loc i L (fun h=>hn (Zlb.2 ⟨i,hM i h,hi⟩)) ?_
   rw[hloc i l hi];exact hL
  ·rw[hgln l hm];exact hL⟩
 have hother:∀ l q L,l∉ks→Zv l objs=some q→E.loc l=some L→q.has L→¬ ZdI (ZmA ks E) (R.objs b) L.b:=fun l q L hn hq hL hh ⟨i,o,K,k1,k2,k3,k4⟩=>by
  have hi:=hl.dom b i o k1
  have hk:ks[i]?=some ks[i]:=List.getElem?_eq_getElem (by omega)
  obtain⟨q',e1,e2,_⟩:=h4 i _ hk
  rw[k1] at e2;cases e2
  rw[hloc i _ hk] at k2
  have:=g.inj _ l q' q K L e1 hq k2 hL (Obj.has_subst.1 k3) hh k4
  subst this
  exact hn (List.mem_of_getElem? hk)
 have hobjL:∀ l q L,Zv l objs=some q→E.loc l=some L→q.has L→L.b < E.w.heap.size:=fun l q L hq hL hh=>g.own_lt ⟨l,q,L,hq,hL,hh,rfl⟩
 have hcase : ∀ l o, Zv l (ZbX R ks b' objs) = some o → (∃ i q L, ks[i]? = some l ∧ Zv i objs2 = some q ∧ E2.loc i = some L ∧ (Zm3 ks E E2).loc l = some L ∧ (o.has L ↔ q.has L) ∧ ZaM P (Zm3 ks E E2) L o) ∨
  (l∉ks∧∃ q L,Zv l objs=some q∧E.loc l=some L∧(Zm3 ks E E2).loc l=some L∧(o.has L↔q.has L)∧ZaM P (Zm3 ks E E2) L o):=by
  intro l o h
  have hcall:∀ i q,ks[i]?=some l→Zv i objs2=some q→∃ L,E2.loc i=some L∧(Zm3 ks E E2).loc l=some L∧ZaM P (Zm3 ks E E2) L (q.subst (rnF ks)):=fun i q hi hq=>by
   obtain⟨L,hL,ha⟩:=g2.at_ i q hq
   refine⟨L,hL,by rw[hglo i l hi];exact hL,ha.keepS (fun v c r=>Zwp (E:=E2) (E':=Zm3 ks E E2) (fun b hb=>⟨hb,rfl⟩) (fun j m hj K hK=>by rw[hglo j m hj];exact hK) r) (fun b hb=>⟨hb,rfl⟩) (fun _=>rfl)⟩
  simp only[ZbX] at h
  rw[Zfo] at h
  split at h
  ·rename_i o' hn
   cases h
   obtain⟨i,hi,hk,q,hq,rfl⟩:=ZfE hn
   rw[← hobj2 i l hk] at hq
   obtain⟨L,k1,k2,k3⟩:=hcall i q hk hq
   exact .inl ⟨i,q,L,hk,hq,k1,k2,Obj.has_subst,k3⟩
  ·rename_i hn
   rw[Zfm,Option.map_eq_some_iff] at h
   obtain⟨q,hq,ho⟩:=h
   by_cases hm:l∈ks
   ·obtain⟨i,hi⟩:=List.mem_iff_getElem?.1 hm
    obtain⟨q',k1,k2,k3⟩:=h4 i l hi
    rw[hq] at k1;cases k1
    have hch:i∉R.ch:=fun hc=>by
     have:=Zfr hn i hc hi
     obtain⟨o',ho'⟩:=hex i l hi
     rw[this] at ho';cases ho'
    have k2':Zv i objs2=some (q.subst (unF ks)):=by rw[hobj2 i l hi,hl.same b b' i hch,k2]
    obtain⟨L,e1,e2,e3⟩:=hcall i _ hi k2'
    rw[k3 hch] at e3
    refine .inl ⟨i,_,L,hi,k2',e1,e2,?_,?_⟩
    ·rw[← ho]
     cases mvK ks R.mv with
     | nil=>exact Obj.has_subst.symm
     | cons m r=>exact Obj.has_subst.trans Obj.has_subst.symm
    ·rw[← ho]
     cases mvK ks R.mv with
     | nil=>exact e3
     | cons m r=>exact e3.keepS (fun v c r=>Zk9 (.refl _ _) r) (fun b hb=>⟨hb,rfl⟩) (fun _=>rfl)
   ·obtain⟨L,hL,ha⟩:=g.at_ l q hq
    have hb0:q.has L→(Zm3 ks E E2).w.heap[L.b]?=E.w.heap[L.b]?:=fun hh=>st.frame _ (hobjL l q L hq hL hh) (hother l q L hm hq hL hh)
    refine .inr ⟨hm,q,L,hq,hL,by rw[hgln l hm];exact hL,?_,?_⟩
    ·rw[← ho]
     cases mvK ks R.mv with
     | nil=>exact Iff.rfl
     | cons m r=>exact Obj.has_subst
    ·rw[← ho]
     revert hx
     cases mvK ks R.mv with
     | nil=>exact fun hx=>ha.keep hx hb0
     | cons m r=>exact fun hx=>ha.keepS (fun v c r=>Zk9 hx r) hx.S hb0
 have hownE:∀ c,ZdI (ZmA ks E) (R.objs b) c→ZdI E objs c:=fun c ⟨i,o,K,k1,k2,k3,k4⟩=>by
  have hi:=hl.dom b i o k1
  have hk:ks[i]?=some ks[i]:=List.getElem?_eq_getElem (by omega)
  obtain⟨q',e1,e2,_⟩:=h4 i _ hk
  rw[k1] at e2;cases e2
  rw[hloc i _ hk] at k2
  exact⟨_,q',K,e1,k2,Obj.has_subst.1 k3,k4⟩
 have hown:∀ c,ZdI (Zm3 ks E E2) (ZbX R ks b' objs) c→ZdI E2 objs2 c∨(ZdI E objs c∧¬ ZdI (ZmA ks E) (R.objs b) c):=fun c ⟨l,o,L,k1,k2,k3,k4⟩=>by
  rcases hcase l o k1 with ⟨i,q,K,e1,e2,e3,e4,e5,_⟩ | ⟨hm,q,K,e2,e3,e4,e5,_⟩
  ·rw[k2] at e4;cases e4
   exact .inl ⟨i,q,L,e2,e3,e5.1 k3,k4⟩
  ·rw[k2] at e4;cases e4
   exact .inr ⟨⟨l,q,L,e2,e3,e5.1 k3,k4⟩,by rw[← k4];exact hother l q L hm e2 e3 (e5.1 k3)⟩
 have hdis:∀ c,ZdI E2 objs2 c→ZdI E objs c→¬ ZdI (ZmA ks E) (R.objs b) c→False:=fun c k1 k2 k3=>by
  rcases st.own c k1 with h | h
  ·have:=g.own_lt k2
   have h:E.w.heap.size≤c:=h
   omega
  ·exact k3 h
 refine⟨⟨fun l o h=>?_,fun c h hs=>?_,g2.sl,g2.tab,fun l l' o o' L L' k1 k2 k3 k4 k5 k6 k7=>?_⟩,
  ⟨hx,st.os,st.tape,st.output,st.size,fun c hc hn=>st.frame c hc (fun h=>hn (hownE c h)),fun c h=>?_,fun c h=>?_,fun l h=>?_,fun l h=>?_⟩⟩
 ·rcases hcase l o h with ⟨i,q,L,e1,e2,e3,e4,e5,e6⟩ | ⟨hm,q,L,e2,e3,e4,e5,e6⟩
  ·exact⟨L,e4,e6⟩
  ·exact⟨L,e4,e6⟩
 ·rcases hown c h with h | ⟨h,hn⟩
  ·exact g2.ns c h hs
  ·rcases st.st c hs with k | k | k
   ·exact g.ns c h k
   ·have:=g.own_lt h
    have k:E.w.heap.size≤c:=k
    omega
   ·exact hn k
 ·rcases hcase l o k1 with ⟨i,q,K,e1,e2,e3,e4,e5,_⟩ | ⟨hm,q,K,e2,e3,e4,e5,_⟩
  ·rw[k3] at e4;cases e4
   rcases hcase l' o' k2 with ⟨i',q',K',f1,f2,f3,f4,f5,_⟩ | ⟨hm',q',K',f2,f3,f4,f5,_⟩
   ·rw[k4] at f4;cases f4
    have:=g2.inj i i' q q' L L' e2 f2 e3 f3 (e5.1 k5) (f5.1 k6) k7
    subst this
    rw[e1] at f1;cases f1;rfl
   ·rw[k4] at f4;cases f4
    exact (hdis L.b ⟨i,q,L,e2,e3,e5.1 k5,rfl⟩ ⟨l',q',L',f2,f3,f5.1 k6,k7.symm⟩ (by rw[k7];exact hother l' q' L' hm' f2 f3 (f5.1 k6))).elim
  ·rw[k3] at e4;cases e4
   rcases hcase l' o' k2 with ⟨i',q',K',f1,f2,f3,f4,f5,_⟩ | ⟨hm',q',K',f2,f3,f4,f5,_⟩
   ·rw[k4] at f4;cases f4
    exact (hdis L'.b ⟨i',q',L',f2,f3,f5.1 k6,rfl⟩ ⟨l,q,L,e2,e3,e5.1 k5,k7⟩ (by rw[← k7];exact hother l q L hm e2 e3 (e5.1 k5))).elim
   ·rw[k4] at f4;cases f4
    exact g.inj l l' q q' L L' e2 f2 e3 f3 (e5.1 k5) (f5.1 k6) k7
 ·rcases hown c h with h | ⟨h,_⟩
  ·exact (st.own c h).imp id (hownE c)
  ·exact .inr h
 ·rcases st.st c h with k | k | k
  ·exact .inl k
  ·exact .inr (.inl k)
  ·exact .inr (.inr (hownE c k))
 ·have hh:Zv l (ZbX R ks b' objs)=none:=h
  simp only[ZbX,Zfo] at hh
  split at hh
  ·cases hh
  ·rw[Zfm] at hh
   cases e:Zv l objs with
   | none=>rfl
   | some q=>rw[e] at hh;cases hh
 ·have hh:Zv l objs=none:=by
   simp only[ZbX,Zfo] at h
   split at h
   ·cases h
   ·rw[Zfm] at h
    cases e:Zv l objs with
    | none=>rfl
    | some q=>rw[e] at h;cases h
  refine hgln l fun hm=>?_
  obtain⟨i,hi⟩:=List.mem_iff_getElem?.1 hm
  obtain⟨o,L,k,_⟩:=hlE i l hi
  rw[hh] at k;cases k
theorem ZnY{R:ZqJ}(hl:R.Law){objs:Zat}{vs:List V}{ks:List Nat}{a:R.α}{b b':R.β}(hg:R.get vs objs=some (ks,a,b)){l:Nat}{o:Obj}(h:Zv l (ZbX R ks b' objs)=some o):∃ q,Zv l objs=some q:=by
 simp only[ZbX,Zfo] at h
 split at h
 ·rename_i o' hn
  obtain⟨i,_,hk,_⟩:=ZfE hn
  obtain⟨q,hq,_⟩:=(hl.get _ _ _ _ _ hg).2.2.2 i l hk
  exact⟨q,hq⟩
 ·rw[Zfm,Option.map_eq_some_iff] at h
  obtain⟨q,hq,_⟩:=h
  exact⟨q,hq⟩
def Obj.hit(M:List Nat):Obj→Bool
 | .box cs | .vrow _ _ cs _=>Ztk M cs
 | .lrec ..=>true
 | _=>false
def Zw5(M:List Nat):Zat→List Nat
 | []=>[]
 | (k,o)::r=>match o.hit M with
   | true=>k::Zw5 M r
   | false=>Zw5 M r
theorem ZvE{M:List Nat}{o:Obj}(h:o.hit M=false):o.subst (ZmG M)=o:=by
 cases o with
 | box cs=>simp only[Obj.hit] at h;simp only[Obj.subst,ZcC h]
 | vrow t xs cs m=>simp only[Obj.hit] at h;simp only[Obj.subst,ZcC h]
 | lrec=>cases h
 | _=>rfl
theorem Zk4{M:List Nat}{l:Nat}:∀ {objs:Zat},l∉Zw5 M objs→Zv l (substO (ZmG M) objs)=Zv l objs
 | [],_=>rfl
 | (k,o)::r,h=>by
   simp only[Zw5] at h
   simp only[substO,Zl]
   split at h
   ·simp only[List.mem_cons,not_or] at h
    rw[if_neg (Ne.symm h.1),if_neg (Ne.symm h.1),Zk4 h.2]
   ·rename_i h0
    rw[ZvE h0,Zk4 h]
def ZqY(ks:List Nat):List Nat→List Nat
 | []=>[]
 | i::r=>match ks[i]? with
   | some l=>l::ZqY ks r
   | none=>ZqY ks r
def Zu7(R:ZqJ)(ks:List Nat)(objs:Zat):List Nat:=ZqY ks R.ch++(match mvK ks R.mv with
 | []=>[]
 | l::r=>Zw5 (l::r) objs)
theorem Zpc{ks:List Nat}:∀ {ch:List Nat},ZqY ks ch=mvK ks ch
 | []=>rfl
 | i::r=>by simp only[ZqY,mvK,Zpc (ch:=r)]
theorem Zrq{R:ZqJ}{ks:List Nat}{b':R.β}{objs:Zat}{l:Nat}(h:l∉Zu7 R ks objs):Zv l (ZbX R ks b' objs)=Zv l objs:=by
 simp only[Zu7,List.mem_append,not_or] at h
 obtain⟨h1,h2⟩:=h
 rw[Zpc] at h1
 simp only[ZbX,Zfo]
 split
 ·rename_i o hn
  obtain⟨i,hi,hk,_⟩:=ZfE hn
  exact absurd (Zlb.2 ⟨i,hi,hk⟩) h1
 ·revert h2
  cases mvK ks R.mv with
  | nil=>exact fun _=>rfl
  | cons m r=>exact fun h2=>Zk4 h2
theorem ZoZ{s s2 s3:St}(h:Zlm s s2=some s3):∀ l∈s2.mv,l∈s3.mv:=by
 obtain⟨nt,tmps,objs,nx,df,wr,di,mv⟩:=s
 obtain⟨nt2,tmps2,objs2,nx2,df2,wr2,di2,mv2⟩:=s2
 unfold Zlm at h
 cases mv2 with
 | nil=>cases h;exact fun l hl=>absurd hl (by simp)
 | cons l M =>
   simp only at h
   split at h
   ·cases h;exact fun k hk=>List.mem_append_left _ hk
   ·cases h
end
section
variable {P:Program} {τ:Zar} {κ:Z1} {E:Env} {objs:Zat}
def ZbU(i:Int):List Int:=(Lib.itoa i).map fun b=>(b.toNat:Int)
def Zfy{α:Type}(f:α→α→Int)(l:List α):Prop:=l.Pairwise fun a b=>¬ f b a < 0
inductive Sp where
 | appInt
 | sort (T:Ty) (c:Nat) (pre:T.den→T.den→Prop) (f:T.den→T.den→Int)
 | self (R:ZqJ)
def Zn8(P:Program)(g:FuncId)(T:Ty)(xs:List T.den)(args:List Value)(mv:Bool)(R:List T.den→Prop)(v:Nat→V):Prop :=
 ∀ (E:Env) (objs:Zat) (l:Nat) (L:Loc),Z7 P E objs→Zv l objs=some (.row T xs)→E.loc l=some L →
  Calls P g (L.v::args).toArray E.w fun e w2=>∃ u E' ys,e=.returned u∧E'.w=w2∧R ys∧Z7 P E' (edit objs (some (l,.row T ys,mv)))∧ZcH E objs E' (edit objs (some (l,.row T ys,mv))) (moved (some (l,.row T ys,mv)))∧E.w.drawn≤w2.drawn∧Rep P E' (v l) u
def ZqB(i:Int)(bs:List Int):Prop:=Zm .i64 i∧bs.length+21≤140737488355328
def Zrn{α:Type}(pre:α→α→Prop)(xs:List α):Prop:=xs.length < 4611686018427387904∧∀ a∈xs,∀ b∈xs,pre a b
def Sp.Ok(P:Program)(g:FuncId):Sp→Prop
 | .appInt=>ZbT P g∧∀ (bs:List (Ty.int .u8).den) (i:Int),ZqB i bs→Zn8 P g (.int .u8) bs [.int .i64 i,.int .i64 10] true (fun ys=>ys=bs++ZbU i) .osl
 | .sort T c pre f=>ZbT P g∧∀ xs:List T.den,Zrn pre xs→Zn8 P g T xs [.func (.func c) #[] #[]] false (fun ys=>xs.Perm ys∧Zfy f ys) fun _=>.tup []
 | .self R=>R.Law∧ZbT P g∧∀ (E:Env) (objs:Zat) (vs:List V) (ks:List Nat) (a:R.α) (b:R.β),Z7 P E objs→R.get vs objs=some (ks,a,b)→R.pre a b→∀ cs:List Value,Zby P E vs cs →
   Calls P g cs.toArray E.w fun e w2=>∃ u E' r b',e=.returned u∧E'.w=w2∧R.post a b r b'∧Z7 P E' (ZbX R ks b' objs)∧ZcH E objs E' (ZbX R ks b' objs) (mvK ks R.mv)∧E.w.drawn≤w2.drawn∧Rep P E' (Zbo R.rs r) u
def Zx7(R:ZqJ)(ks:List Nat)(b:R.β)(s:St)(k:St→Prop):Prop:=match Zlm s ⟨0,[],ZbX R ks b s.objs,s.nx,[],[],Zu7 R ks s.objs,mvK ks R.mv⟩ with
 | some s3=>k s3
 | none=>False
def ZpK(s:St)(l:Nat)(o:Obj)(mv:Bool)(k:St→Prop):Prop:=match ZuB s.nx s.df (some (l,o,mv)) with
 | true=>k (s.edit (some (l,o,mv)))
 | false=>False
def spW:Sp→List V→St→(V→St→Prop)→Prop
 | .appInt,args,s,k=>match args with
   | [.osl l,.d (.int .i64) i,.d (.int .i64) (.ofNat b)]=>match Nat.beq b 10 with
     | true=>match Zv l s.objs with
       | some (.row (.int .u8) bs)=>ZqB i bs∧ZpK s l (.row (.int .u8) (bs++ZbU i)) true (k (.osl l))
       | _=>False
     | false=>False
   | _=>False
 | .sort T c pre f,args,s,k=>match args with
   | [.osl l,.fn (.func g) [] []]=>match Nat.beq g c with
     | true=>match Zv l s.objs with
       | some (.row T' xs)=>if h:T'=T then Zrn pre (h▸xs)∧∀ ys:List T.den,((h▸xs:List T.den).Perm ys∧Zfy f ys)→ZpK s l (.row T ys) false (k (.tup [])) else False
       | _=>False
     | false=>False
   | _=>False
 | .self R,args,s,k=>match R.get args s.objs with
   | some (ks,a,b)=>R.pre a b∧∀ (r:ZeI R.rs) (b':R.β),R.post a b r b'→Zx7 R ks b' s (k (Zbo R.rs r))
   | none=>False
inductive FX where
 | fi (f:FI)
 | sp (s:Sp)
def FX.Ok(P:Program)(g:FuncId):FX→Prop
 | .fi f=>f.Ok P g
 | .sp s=>s.Ok P g
theorem Znc {cx : Cx} {s : St} {a : Act} {T : Ty} {xs : List T.den} {l : Nat} {mv : Bool} {k : V → St → Prop} {vf : Nat → V} {g : FuncId} {args : List Value} {Rr : List T.den → Prop} (hc : Zn8 P g T xs args mv Rr vf) (ho : Zv l s.objs = some (.row T xs)) (r : ZcR P cx s a E)
 (hk:∀ ys,Rr ys→ZpK s l (.row T ys) mv (k (vf l))) {c:Value} (rc:Rep P E (.osl l) c) :
 ∀ R:Ending→World→Prop,(∀ u v s3 E',Inv s s3→k v s3→ZcR P cx s3 a E'→Rep P E' v u→(∀ l L,l∉s3.mv→E.loc l=some L→E'.loc l=some L)→R (.returned u) E'.w)→CallsIn (fz none) 0 P g (c::args).toArray E.w R:=by
 intro R hR
 cases rc with
 | osl hL =>
   rename_i L
   refine Zia (Calls.mono (hc E s.objs l L r.good ho hL) ?_)
   rintro e w2 ⟨u,E',ys,rfl,rfl,hy,g',st,hd,hu⟩
   have h:=hk ys hy
   unfold ZpK at h
   split at h
   ·rename_i hed
    refine hR u (vf l) _ E' (Inv.edit s _) h (ZcR.edit r hed hd g' st) hu (fun l' L' hl' hL'=>st.ext.loc l' L' (fun hm=>hl' ?_) hL')
    obtain⟨nt,tmps,objs,nx,df,wr,di,m⟩:=s
    cases mv with
    | false=>simp[moved] at hm
    | true =>
      simp only[moved,List.mem_singleton] at hm
      subst hm
      simp[St.edit,St.subst]
   ·exact h.elim
theorem Zgz{k:IntKind}{n:Int}{c:Value}(r:Rep P E (.d (.int k) n) c):c=.int k n:=by
 cases r with | d h=>exact (List.cons.inj (show [c]=[Value.int k n] from h)).1
theorem Zwf {sp : Sp} {g : FuncId} (hok : sp.Ok P g) {args : List V} {s : St} {k : V → St → Prop} (h : spW sp args s k) {cx : Cx} {a : Act} (r : ZcR P cx s a E) {cs : List Value} (ra : Zby P E args cs) :
 ZbT P g∧∀ R:Ending→World→Prop,(∀ u v s3 E',Inv s s3→k v s3→ZcR P cx s3 a E'→Rep P E' v u→(∀ l L,l∉s3.mv→E.loc l=some L→E'.loc l=some L)→R (.returned u) E'.w)→CallsIn (fz none) 0 P g cs.toArray E.w R:=by
 cases sp with
 | appInt =>
   obtain⟨hc,hok⟩:=hok
   refine⟨hc,?_⟩
   simp only[spW] at h
   split at h
   ·rename_i l i b
    split at h
    ·rename_i hb
     have hb:=Nat.eq_of_beq_eq_true hb
     subst hb
     split at h
     ·rename_i bs ho
      obtain⟨h1,h2⟩:=h
      match cs,ra with
      | [c,d,e],ra =>
        have r1:=ra.head
        have e2:=Zgz ra.tail.head
        have e3:=Zgz ra.tail.tail.head
        subst e2 e3
        exact Znc (hok bs i h1) ho r (fun ys hy=>by subst hy;exact h2) r1
      | [],ra=>exact absurd ra.1 (by simp)
      | [_],ra=>exact absurd ra.1 (by simp)
      | [_,_],ra=>exact absurd ra.1 (by simp)
      | _::_::_::_::_,ra=>exact absurd ra.1 (by simp)
     ·exact h.elim
    ·exact h.elim
   ·exact h.elim
 | sort T c pre f =>
   obtain⟨hc,hok⟩:=hok
   refine⟨hc,?_⟩
   simp only[spW] at h
   split at h
   ·rename_i l g2
    split at h
    ·rename_i hb
     have hb:=Nat.eq_of_beq_eq_true hb
     subst hb
     split at h
     ·rename_i T' xs ho
      split at h
      ·rename_i hT
       subst hT
       obtain⟨h1,h2⟩:=h
       match cs,ra with
       | [c,d],ra =>
         have r1:=ra.head
         have e2:d=.func (.func g2) #[] #[]:=by
          obtain⟨p,q,rfl,k1,k2⟩:=ZkR ra.tail.head
          have:p=#[]:=by have:=k1.1;simpa using this
          subst this
          have:q=#[]:=by have:=k2.1;simpa using this
          subst this;rfl
         subst e2
         exact Znc (hok xs h1) ho r (fun ys hy=>h2 ys hy) r1
       | [],ra=>exact absurd ra.1 (by simp)
       | [_],ra=>exact absurd ra.1 (by simp)
       | _::_::_::_,ra=>exact absurd ra.1 (by simp)
      ·exact h.elim
     ·exact h.elim
    ·exact h.elim
   ·exact h.elim
 | self R =>
   obtain⟨hlaw,hc,hok⟩:=hok
   refine⟨hc,?_⟩
   simp only[spW] at h
   split at h
   ·rename_i ks a' b hg
    obtain⟨h1,h2⟩:=h
    intro R0 hR
    refine Zia (Calls.mono (hok E s.objs args ks a' b r.good hg h1 cs ra) ?_)
    rintro e w2 ⟨u,E',r',b',rfl,rfl,hp,g',st,hd,hu⟩
    have h3:=h2 r' b' hp
    unfold Zx7 at h3
    split at h3
    ·rename_i s3 hb
     refine hR u _ s3 E' (Ziw hb ⟨Nat.le_refl _,fun l hl=>Zrq hl⟩) h3 (ZjL r hb ⟨g',fun l hl=>?_,st,hd⟩) hu (fun l L hl hL=>st.ext.loc l L (fun hm=>hl (ZoZ hb l hm)) hL)
     have hn:Zv l (ZbX R ks b' s.objs)=none:=by
      cases e:Zv l (ZbX R ks b' s.objs) with
      | none=>rfl
      | some o =>
        obtain⟨q,hq⟩:=ZnY hlaw hg e
        obtain⟨L,hL,_⟩:=r.good.at_ l q hq
        rw[r.fresh l hl] at hL;cases hL
     rw[st.dom l hn];exact r.fresh l hl
    ·exact h3.elim
   ·exact h.elim
end
section
variable {P:Program} {τ:Zar} {κ:Z1} {φ:Nat→Option FX}
inductive Gh where
 | own (t:Nat) (T:Ty)
 | ownc (l j:Nat) (T:Ty)
 | frz (t:Nat)
 | frzc (l j:Nat)
 | frzl (l:Nat)
 | zero (t:Nat)
 | part (t:Nat)
 | cases (t j n:Nat)
 | data (t:Nat) (T:Ty)
 | opn (l:Nat)
 | cls (l:Nat)
 | dne (l:Nat)
 | ren (n k:Nat)
 | nxt (n:Nat)
inductive An where
 | mk (gs:List (Nat×List Gh)) (lps:List (Nat×LA)) (jns:List (Nat×LA)) (un:List (Nat×Nat)) (cs:List (Nat×An))
def An.none:An:=.mk [] [] [] [] []
def Zr2{α:Type}(n:Nat):List (Nat×α)→Option α
 | []=>.none
 | (m,x)::r=>match Nat.beq m n with
   | true=>some x
   | false=>Zr2 n r
def An.gs:An→Nat→List Gh
 | .mk g _ _ _ _,n=>match Zr2 n g with
   | some l=>l
   | .none=>[]
def An.lp:An→Nat→Option LA
 | .mk _ l _ _ _,n=>Zr2 n l
def An.jn:An→Nat→Option LA
 | .mk _ _ l _ _,n=>Zr2 n l
def An.un:An→Nat→Option Nat
 | .mk _ _ _ l _,n=>Zr2 n l
def An.call:An→Nat→An
 | .mk _ _ _ _ l,n=>match Zr2 n l with
   | some a=>a
   | .none=>An.none
def ZxK(l:Nat)(Y:List (Nat×An)):An:=match Zr2 l Y with
 | some a=>a
 | .none=>An.none
abbrev ZiQ:=An→List (Nat×An)→Bool→Code→St→(Exit→St→Prop)→Prop
def Zct(P:Program)(run:ZiQ):Prop:=∀ (A:An) (Y:List (Nat×An)) (r:Option Nat) (c:Code) (s:St) (k:Exit→St→Prop) (cx:Cx) (R:ZjV),run A Y r.isSome c s k→∀ a w,Rel P cx s a w →
 (∀ e s' a' w',Inv s s'→k e s'→Rel P cx s' a' w'→R e a' w')→c.wpIn (fz r) 0 P R a w
def Zj4:Exit→Bool
 | .normal=>true
 | .ret=>true
 | _=>false
def Zuq(τ:Zar)(φ:Nat→Option FX)(run:ZiQ)(A:An)(Y:List (Nat×An))(f:V)(args:List V)(s:St)(k:V→St→Prop):Prop:=match f with
 | .fn (.func g) fst caps=>match φ g with
   | .none=>False
   | some (.sp sp)=>spW sp (fst++(args++caps)) s k
   | some (.fi ⟨nt,res,code⟩)=>match fst++(args++caps) with
     | vs=>match Nat.ble vs.length nt with
       | false=>False
       | true=>match s with
         | ⟨nt0,tmps,objs,nx,df,wr,di,mv⟩=>run A Y false code ⟨nt,Zc7 0 vs,objs,nx,[],[],[],[]⟩ (fun e s1=>match Zj4 e with
           | true=>match Zgl τ res s1 with
             | .none=>False
             | some (v,s2)=>match Zlm ⟨nt0,tmps,objs,nx,df,wr,di,mv⟩ s2 with
               | .none=>False
               | some s3=>k v s3
           | false=>False)
 | _=>False
theorem Zph (hτ : Zbs P τ) (hφ : ∀ g fi, φ g = some fi → fi.Ok P g) {run : ZiQ} (hrun : Zct P run) {A : An} {Y : List (Nat × An)} {f : V} {args : List V} {s : St} {k : V → St → Prop} (h : Zuq τ φ run A Y f args s k) {cx : Cx} {a : Act} {E : Env}
 (r:ZcR P cx s a E) {c:Value} {cs:List Value} (rf:Rep P E f c) (ra:Zby P E args cs) :
 ∃ g p q,c=.func (.func g) p q∧ZbT P g∧∀ R:Ending→World→Prop,(∀ u v s3 E',Inv s s3→k v s3→ZcR P cx s3 a E'→Rep P E' v u→(∀ l L,l∉s3.mv→E.loc l=some L→E'.loc l=some L)→R (.returned u) E'.w)→CallsIn (fz none) 0 P g (p++cs.toArray++q) E.w R:=by
 unfold Zuq at h
 split at h
 ·rename_i g fst caps
  split at h
  ·exact h.elim
  ·rename_i sp hg
   obtain⟨p,q,rfl,rp,rq⟩:=ZkR rf
   have rs:Zby P E (fst++(args++caps)) (p++cs.toArray++q).toList:=by
    have:=rp.append (ra.append rq)
    simpa using this
   obtain⟨h1,h2⟩:=Zwf (hφ g _ hg) h r rs
   exact⟨g,p,q,rfl,h1,fun R hR=>by have:=h2 R hR;rwa [Array.toArray_toList] at this⟩
  ·rename_i nt res code hg
   have hok:FI.Ok P g ⟨nt,res,code⟩:=hφ g _ hg
   obtain⟨fn,h1,h2,h3,h4,h5⟩:=id hok
   obtain⟨p,q,rfl,rp,rq⟩:=ZkR rf
   refine⟨g,p,q,rfl,hok.call,fun R hR=>?_⟩
   simp only at h
   split at h
   ·exact h.elim
   ·rename_i hlen
    obtain⟨nt0,tmps,objs,nx,df,wr,di,mv⟩:=s
    simp only at h h3 h4
    have rs:Zby P E (fst++(args++caps)) (p++cs.toArray++q).toList:=by
     have:=rp.append (ra.append rq)
     simpa using this
    have hrel:=ZeQ (nt:=nt) r.good r.fresh rs (Nat.le_of_ble_eq_true hlen)
    refine callsIn_of_wp_marks h1 h2 trivial ?_
    rw[h3]
    refine hrun A Y none code _ _ ⟨E,objs⟩ _ h _ E.w hrel (fun e s1 a1 w1 hi hk hr1=>?_)
    have fin:Zj4 e=true→LeavesInM (fz none) 0 P fn a1.tmps R a1.defers .returning w1:=fun he=>by
     rw[he] at hk
     simp only at hk
     split at hk
     ·exact hk.elim
     ·rename_i v s2 hf
      split at hk
      ·exact hk.elim
      ·rename_i s3 hb
       refine ZgG hτ (fi:=⟨nt,res,code⟩) h4 hf hr1 (fun u E' haft hu=>?_)
       exact hR u v s3 E' (Ziw hb (Zp2 (s0:=⟨nt,Zc7 0 (fst++(args++caps)),objs,nx,[],[],[],[]⟩) hf hi)) hk (ZjL r hb haft) hu (fun l L hl hL=>haft.step.ext.loc l L (fun hm=>hl (ZoZ hb l hm)) hL)
    cases e with
    | normal=>exact fin rfl
    | ret=>exact fin rfl
    | _=>exact hk.elim
 ·exact h.elim
def ZwT(nt:Nat):List Nat→List V→Option (List (Nat×V))
 | [],vs=>match vs with
   | []=>some []
   | _=>.none
 | p::ps,vs=>match vs with
   | v::r=>match Nat.blt p nt with
     | true=>match ZwT nt ps r with
       | some l=>some (l++[(p,v)])
       | .none=>.none
     | false=>.none
   | []=>.none
def ZxT:Exit→Option RJ
 | .normal=>some .no
 | .ret=>some .ret
 | .exit i=>some (.exit i)
 | _=>.none
def RJ.isNo:RJ→Bool
 | .no=>true
 | _=>false
def RJ.st:RJ→LoopState
 | .no=>.ready
 | _=>.done
def Zxn(l:Nat)(di1 di3:List Nat)(j:RJ)(nt:Nat)(tmps:List (Nat×V))(ps:List Nat)(a b:Code)(nt4:Nat)(tmps4:List (Nat×V))(ps4:List Nat)(a4 b4:Code):Obj×List Nat:=match Zek l di1 with
 | true=>(.lrec nt4 tmps4 ps4 a4 b4 j.st j,l::(di3++di1))
 | false=>match Zek l di3 with
   | true=>(.lrec nt4 tmps4 ps4 a4 b4 j.st j,l::(di3++di1))
   | false=>match j with
     | .no=>(.lrec nt tmps ps a b .ready .no,di3++di1)
     | j=>(.lrec nt4 tmps4 ps4 a4 b4 j.st j,l::(di3++di1))
def Zq4(run:ZiQ)(Y:List (Nat×An))(l:Nat)(args:List V)(s:St)(k:V→St→Prop):Prop:=match s with
 | ⟨nt0,tmps0,objs,nx,df,wr,di,mv⟩=>match Zv l objs with
   | some (.lrec nt tmps ps assign body .ready .no)=>match ZwT nt ps args with
     | .none=>False
     | some pa=>match ZxK l Y with
       | A=>run A Y true assign ⟨nt,pa++tmps,objs,nx,[],[],[],[]⟩ (fun e s1=>match e with
         | .normal=>match s1 with
           | ⟨nt1,tmps1,objs1,nx1,df1,wr1,di1,mv1⟩=>match Zek l mv1 with
             | true=>False
             | false=>match Zv l objs1 with
               | some (.lrec nt2 tmps2 ps2 a2 b2 .ready j2)=>run A Y true body ⟨nt1,tmps1,(l,.lrec nt2 tmps2 ps2 a2 b2 .busy j2)::objs1,nx1,df1,[],[],mv1⟩ (fun e s2=>match ZxT e with
                 | .none=>False
                 | some j=>match s2 with
                   | ⟨_,_,objs3,nx3,_,_,di3,mv3⟩=>match Zek l mv3 with
                     | true=>False
                     | false=>match Zv l objs3 with
                       | some (.lrec nt4 tmps4 ps4 a4 b4 _ _)=>match Zxn l di1 di3 j nt tmps ps assign body nt4 tmps4 ps4 a4 b4 with
                         | (o4,di4)=>match Zlm ⟨nt0,tmps0,objs,nx,df,wr,di,mv⟩ ⟨0,[],(l,o4)::objs3,nx3,[],[],di4,mv3⟩ with
                           | .none=>False
                           | some s3=>k (.d .bool j.isNo) s3
                       | _=>False)
               | _=>False
         | _=>False)
   | _=>False
theorem Z7.lrec {E : Env} {objs : Zat} (g : Z7 P E objs) {l : Nat} {L : Loc} {nt : Nat} {tmps : List (Nat × V)} {ps : List Nat} {a b : Code} {st st' : LoopState} {j j' : RJ} (ho : Zv l objs = some (.lrec nt tmps ps a b st j)) (hL : E.loc l = some L) :
 ∃ r:Loop,E.w.heap[L.b]?=some (.loop r)∧r.tmps.size=nt∧(∀ t,Rep P E (ZbE t tmps) (r.tmps.getD t undef))∧r.params.toList=ps∧r.assign=a∧r.body=b∧r.state=st∧r.pending=j.code ∧
  ∃ E',E'.w=E.w.putObj L.b (.loop { r with state:=st',pending:=j'.code })∧E'.S=E.S∧E'.loc=E.loc∧Z7 P E' ((l,.lrec nt tmps ps a b st' j')::objs)∧ZcH E objs E' ((l,.lrec nt tmps ps a b st' j')::objs) []:=by
 obtain⟨K,hK,hat⟩:=g.at_ l _ ho
 rw[hL] at hK;cases hK
 obtain⟨r,h1,h2,h3,h4,h5,h6,h7,h8⟩:=hat
 refine⟨r,h1,h2,h3,h4,h5,h6,h7,h8,?_⟩
 have hlt:L.b < E.w.heap.size:=(Array.getElem?_eq_some_iff.1 h1).1
 have hgr:E.w.grownBy (E.w.putObj L.b (.loop { r with state:=st',pending:=j'.code })) (some L.b):=grownBy_putObj' _ _ _
 have e:E.setL (E.w.putObj L.b (.loop { r with state:=st',pending:=j'.code })) l L=⟨E.w.putObj L.b (.loop { r with state:=st',pending:=j'.code }),E.S,E.loc⟩:=by
  simp only[Env.setL]
  congr 1
  funext j
  split
  ·rename_i e;subst e;exact hL.symm
  ·rfl
 have hx:Ext E (E.setL (E.w.putObj L.b (.loop { r with state:=st',pending:=j'.code })) l L) []:=Zf1 g ho hL hgr (fun b e=>by cases e;exact⟨trivial,rfl⟩) (fun _=>rfl)
 have hp := Z7.put g (mv := false) (o' := .lrec nt tmps ps a b st' j') (L' := L) ho hL hgr (fun b e => by cases e; exact ⟨trivial, rfl⟩) (fun _ => rfl)
  ⟨{ r with state:=st',pending:=j'.code },World.putObj_heap_same hlt,h2,fun t=>(h3 t).mono hx,h4,h5,h6,rfl,rfl⟩ (fun _=>.inl ⟨trivial,rfl⟩)
 rw[e] at hp
 exact⟨⟨E.w.putObj L.b (.loop { r with state:=st',pending:=j'.code }),E.S,E.loc⟩,rfl,rfl,rfl,hp.1,by simpa[moved,edit] using hp.2⟩
theorem ZqU {nt : Nat} {E : Env} {tmps : List (Nat × V)} : ∀ {ps : List Nat} {vs : List V} {pa : List (Nat × V)} {cs : List Value} {ta : Array Value}, ZwT nt ps vs = some pa → Zby P E vs cs → ta.size = nt → (∀ t, Rep P E (ZbE t tmps) (ta.getD t undef)) →
 ps.length=cs.length∧((ps.zip cs).foldl (fun t (p,v)=>t.setIfInBounds p v) ta).size=nt∧∀ t,Rep P E (ZbE t (pa++tmps)) (((ps.zip cs).foldl (fun t (p,v)=>t.setIfInBounds p v) ta).getD t undef)
 | [],vs,pa,cs,ta,h,r,hs,ht=>by
   simp only[ZwT] at h
   split at h
   ·cases h
    have:cs=[]:=List.eq_nil_of_length_eq_zero (by simpa using r.1)
    subst this
    exact⟨rfl,hs,ht⟩
   ·cases h
 | p::ps,vs,pa,cs,ta,h,r,hs,ht=>by
   simp only[ZwT] at h
   split at h
   ·rename_i v rest
    split at h
    ·rename_i hp
     split at h
     ·rename_i l hl
      cases h
      have hp:p < nt:=Nat.le_of_ble_eq_true hp
      match cs,r with
      | [],r=>exact absurd r.1 (by simp)
      | c::cs,r =>
        have ih:=ZqU (tmps:=(p,v)::tmps) (ta:=ta.setIfInBounds p c) hl r.tail (by simpa using hs) (fun t=>by
         rw[Zah]
         simp only[Array.getD_eq_getD_getElem?,Array.getElem?_setIfInBounds]
         split
         ·rename_i e
          subst e
          simp[show p < ta.size from by omega]
          exact r.head
         ·have:=ht t
          rwa [Array.getD_eq_getD_getElem?] at this)
        refine⟨by simp[ih.1],ih.2.1,fun t=>?_⟩
        have:=ih.2.2 t
        simpa using this
     ·cases h
    ·cases h
   ·cases h
theorem ZvH{j:RJ}:j.code.isNone=j.isNo:=by cases j<;>rfl
theorem Zru {run : ZiQ} (hrun : Zct P run) {Y : List (Nat × An)} {l : Nat} {args : List V} {s : St} {k : V → St → Prop} (h : Zq4 run Y l args s k) {cx : Cx} {a : Act} {E : Env}
 (r:ZcR P cx s a E) {c:Value} {cs:Array Value} (rl:Rep P E (.yl l) c) (ra:Zby P E args cs.toList) (ro:Option Nat) :
 ∃ (b fn:Nat) (tmps:Array Value) (assign body:Code),c=.func (.yield b) #[] #[]∧(Instr.yield b cs).run P E.w=.ok (.round b fn tmps assign body) E.w∧∀ R:Ending→World→Prop,
  (∀ u v s3 E',Inv s s3→k v s3→ZcR P cx s3 a E'→Rep P E' v u→R (.returned u) E'.w)→RoundIn (fz ro) 0 P b fn tmps assign body E.w R:=by
 obtain⟨nt0,tmps0,objs,nx,df,wr,di,mv⟩:=s
 unfold Zq4 at h
 simp only at h
 split at h
 ·rename_i nt tmps ps assign body ho
  split at h
  ·exact h.elim
  ·rename_i pa hpa
   cases rl with
   | yl hL =>
     rename_i L
     obtain⟨K,hK,hat⟩:=r.good.at_ l _ ho
     rw[hL] at hK;cases hK
     obtain⟨rc,h1,h2,h3,h4,h5,h6,h7,h8⟩:=hat
     obtain⟨z1,z2,z3⟩:=ZqU hpa ra h2 h3
     have hsz:cs.size=rc.params.size:=by
      have:rc.params.toList.length=cs.toList.length:=by rw[h4];exact z1
      simpa using this.symm
     refine⟨L.b,rc.fn,_,rc.assign,rc.body,rfl,run_yield h1 hsz,fun R hR=>?_⟩
     refine roundIn_of_wpIn trivial ?_
     rw[h5]
     have hstart:Rel P ⟨E,objs⟩ ⟨nt,pa++tmps,objs,nx,[],[],[],[]⟩ { tmps:=(rc.params.zip cs).foldl (fun tmps (t,a)=>tmps.setIfInBounds t a) rc.tmps,defers:=[] } E.w:=by
      have e:(rc.params.zip cs).foldl (fun (tmps:Array Value) (x:Nat×Value)=>tmps.setIfInBounds x.1 x.2) rc.tmps=(ps.zip cs.toList).foldl (fun (t:Array Value) (x:Nat×Value)=>t.setIfInBounds x.1 x.2) rc.tmps:=by
       rw[← Array.foldl_toList,Array.toList_zip,h4]
      refine⟨E,rfl,r.good,r.fresh,.refl _ _ _,Nat.le_refl _,?_,rfl,fun t=>?_⟩
      ·show ((rc.params.zip cs).foldl (fun (tmps:Array Value) (x:Nat×Value)=>tmps.setIfInBounds x.1 x.2) rc.tmps).size=nt
       rw[e];exact z2
      ·show Rep P E (ZbE t (pa++tmps)) (((rc.params.zip cs).foldl (fun (tmps:Array Value) (x:Nat×Value)=>tmps.setIfInBounds x.1 x.2) rc.tmps).getD t undef)
       rw[e];exact z3 t
     refine hrun _ Y (some L.b) assign _ _ ⟨E,objs⟩ _ h _ E.w hstart (fun e s1 a1 w1 hi1 hk1 hr1=>?_)
     cases e<;>try (exact hk1.elim)
     obtain⟨nt1,tmps1,objs1,nx1,df1,wr1,di1,mv1⟩:=s1
     simp only at hk1
     split at hk1
     ·exact hk1.elim
     ·rename_i hm1
      split at hk1
      ·rename_i nt2 tmps2 ps2 a2 b2 j2 ho1
       obtain⟨E1,rfl,r1⟩:=hr1
       have nm:∀ {M:List Nat},Zek l M=false→l∉M:=fun h hm=>by rw[ZbL.2 hm] at h;cases h
       have hL1:E1.loc l=some L:=r1.step.ext.loc l L (nm hm1) hL
       obtain⟨q,q1,q2,q3,q4,q5,q6,q7,q8,E2,e1,e2,e3,g2,s2⟩:=Z7.lrec (st':=.busy) (j':=j2) r1.good ho1 hL1
       have hw2:E1.w.putObj L.b (.loop { q with state:=.busy })=E2.w:=by
        rw[e1];congr 2;rw[← q8]
       refine⟨E2.w,by rw[← hw2];exact run_beginRound q1 q7,?_⟩
       rw[h6]
       have hmid:Rel P ⟨E,objs⟩ ⟨nt1,tmps1,(l,.lrec nt2 tmps2 ps2 a2 b2 .busy j2)::objs1,nx1,df1,[],[],mv1⟩ a1 E2.w :=
        ⟨E2,rfl,g2,fun j hj=>by rw[e3];exact r1.fresh j hj,r1.step.trans s2,by rw[e1];exact r1.drawn,r1.size,r1.df.ext s2.ext,fun t=>(r1.rep t).mono s2.ext⟩
       refine hrun _ Y (some L.b) body _ _ ⟨E,objs⟩ _ hk1 _ _ hmid (fun e s4 a3 w3 hi2 hk2 hr2=>?_)
       obtain⟨ntz,tmpsz,objs3,nx3,dfz,wrz,di3,mv3⟩:=s4
       have fin:∀ j:RJ,ZxT e=some j→∃ v w',(Instr.endRound L.b j.code).run P w3=.ok v w'∧R (.returned v) w':=by
        intro j hj
        rw[hj] at hk2
        simp only at hk2
        split at hk2
        ·exact hk2.elim
        ·rename_i hm3
         split at hk2
         ·rename_i nt4 tmps4 ps4 a4 b4 _ _ ho3
          generalize hrec:Zxn l di1 di3 j nt tmps ps assign body nt4 tmps4 ps4 a4 b4=od at hk2
          obtain⟨o4,di4⟩:=od
          simp only at hk2
          split at hk2
          ·exact hk2.elim
          ·rename_i s3 hb
           obtain⟨E3,rfl,r3⟩:=hr2
           have hL3:E3.loc l=some L:=r3.step.ext.loc l L (nm hm3) hL
           obtain⟨p,p1,p2,p3,p4,p5,p6,p7,p8,E4,f1,f2,f3,g4,st4⟩:=Z7.lrec (st':=j.st) (j':=j) r3.good ho3 hL3
           have hw4:E3.w.putObj L.b (.loop { p with state:=if j.code.isNone then .ready else .done,pending:=j.code })=E4.w:=by
            rw[f1];congr 2;cases j<;>rfl
           refine⟨.bool j.isNo,E4.w,by rw[← hw4,← ZvH];exact run_endRound j.code p1,?_⟩
           have hnx:nx≤nx3:=by
            have h1:nx≤nx1:=hi1.nx
            have h2:nx1≤nx3:=hi2.nx
            exact Nat.le_trans h1 h2
           have hoth:∀ l',l'≠l→l'∉di3→l'∉di1→Zv l' objs3=Zv l' objs:=fun l' hne h3 h1=>by
            have k1:=hi2.obj l' h3
            have k2:=hi1.obj l' h1
            simp only at k1 k2
            rw[k1,Zl,if_neg (Ne.symm hne),k2]
           have hcase:(o4=.lrec nt4 tmps4 ps4 a4 b4 j.st j∧l∈di4∧(∀ l',l'∉di4→l'≠l∧l'∉di3∧l'∉di1))∨(o4=.lrec nt4 tmps4 ps4 a4 b4 j.st j∧o4=.lrec nt tmps ps assign body .ready .no∧∀ l',l'∉di4→l'∉di3∧l'∉di1):=by
            have hd1:o4=.lrec nt4 tmps4 ps4 a4 b4 j.st j→di4=l::(di3++di1)→(o4=.lrec nt4 tmps4 ps4 a4 b4 j.st j∧l∈di4∧(∀ l',l'∉di4→l'≠l∧l'∉di3∧l'∉di1)):=fun e1 e2=>by
             subst e2
             refine⟨e1,by simp,fun l' hl'=>?_⟩
             simp only[List.mem_cons,List.mem_append,not_or] at hl'
             exact hl'
            unfold Zxn at hrec
            split at hrec
            ·cases hrec;exact .inl (hd1 rfl rfl)
            ·rename_i hn1
             split at hrec
             ·cases hrec;exact .inl (hd1 rfl rfl)
             ·rename_i hn3
              split at hrec
              ·cases hrec
               have k1:=hi2.obj l (nm hn3)
               have k2:=hi1.obj l (nm hn1)
               simp only at k1 k2
               rw[Zl,if_pos rfl,ho3] at k1
               rw[ho,ho1] at k2
               cases k1
               cases k2
               exact .inr ⟨rfl,rfl,fun l' hl'=>by simp only[List.mem_append,not_or] at hl';exact hl'⟩
              ·cases hrec;exact .inl (hd1 rfl rfl)
           have ho4:o4=.lrec nt4 tmps4 ps4 a4 b4 j.st j:=hcase.elim (fun h=>h.1) (fun h=>h.1)
           refine hR _ _ s3 E4 (Ziw hb ⟨hnx,fun l' hl'=>?_⟩) hk2 (ZjL r hb ⟨by rw[ho4];exact g4,fun j hj=>by rw[f3];exact r3.fresh j hj,by rw[ho4];exact r3.step.trans st4,by rw[f1];exact r3.drawn⟩) (.mk_bool _)
           show Zv l' ((l,o4)::objs3)=Zv l' objs
           rw[Zl]
           rcases hcase with ⟨_,_,h⟩ | ⟨_,h1,h⟩
           ·have:=h l' hl'
            rw[if_neg (Ne.symm this.1)]
            exact hoth l' this.1 this.2.1 this.2.2
           ·have:=h l' hl'
            by_cases e:l=l'
            ·subst e;rw[if_pos rfl,h1,ho]
            ·rw[if_neg e];exact hoth l' (Ne.symm e) this.1 this.2
         ·exact hk2.elim
       cases e with
       | normal=>exact fin .no rfl
       | ret=>exact fin .ret rfl
       | exit i=>exact fin (.exit i) rfl
       | _=>exact hk2.elim
      ·exact hk1.elim
 ·exact h.elim
end
section
variable {P:Program} {τ:Zar} {κ:Z1} {φ:Nat→Option FX}
theorem ZcH.swap {E0 E : Env} {imp objs objs' : Zat} {M : List Nat} (h : ZcH E0 imp E objs M)
 (tr:∀ l o,Zv l objs'=some o→∃ o1 L,Zv l objs=some o1∧E.loc l=some L∧E.loc l=some L∧(∀ L,o.has L→o1.has L)∧(ZaM P E L o1→ZaM P E L o)) (hn:∀ l,Zv l objs'=none→Zv l objs=none):ZcH E0 imp E objs' M :=
 ⟨h.ext,h.os,h.tape,h.output,h.size,h.frame,fun b hb=>h.own b (Zlj (P:=P) tr hb),h.st,fun l hl=>h.keys l (hn l hl),fun l hl=>h.dom l (hn l hl)⟩
def ZdT(v:V):Nat→List V→List V
 | _,[]=>[]
 | 0,_::r=>v::r
 | n+1,u::r=>u::ZdT v n r
theorem Zhs{v:V}:∀ {n:Nat} {l:List V},(ZdT v n l).length=l.length
 | _,[]=>by cases ‹Nat›<;>rfl
 | 0,_::_=>rfl
 | n+1,_::r=>by simp only[ZdT,List.length_cons,Zhs]
theorem ZkU{v:V}:∀ {n:Nat} {l:List V} (j:Nat),j < l.length→(ZdT v n l).getD j .any=if j=n then v else l.getD j .any
 | n,[],j,h=>by simp at h
 | 0,u::r,0,_=>by simp[ZdT]
 | 0,u::r,j+1,_=>by simp[ZdT]
 | n+1,u::r,0,_=>by simp[ZdT]
 | n+1,u::r,j+1,h=>by
   simp only[ZdT,List.getD_cons_succ]
   rw[ZkU j (by simpa using h)]
   by_cases e:j=n
   ·simp[e]
   ·rw[if_neg e,if_neg (by omega)]
def Zvm(n k:Nat)(v:V):V:=match v with
 | .osl j=>match Nat.beq j n with
   | true=>.osl k
   | false=>v
 | v=>Zhq n v
def redo(l:Nat)(o:Obj)(s:St):St:=match s with
 | ⟨nt,tmps,objs,nx,df,wr,di,mv⟩=>⟨nt,tmps,(l,o)::objs,nx,df,wr,l::di,mv⟩
def ghost1:Gh→St→Option St
 | .opn _,_=>none
 | .nxt n,s=>match s with
   | ⟨nt,tmps,objs,nx,df,wr,di,mv⟩=>match Nat.ble nx n with
     | true=>some ⟨nt,tmps,objs,n,df,wr,di,mv⟩
     | false=>none
 | .cls l,s=>match Zv l s.objs with
   | some (.vrow T xs [v] m)=>match Zmm (.sl T) [v] with
     | some y=>some (redo l (.vrow T (xs++[y]) [] m) s)
     | none=>none
   | _=>none
 | .dne l,s=>match Zv l s.objs with
   | some (.vrow T xs [] m)=>some (redo l (.row (.sl T) (xs++List.replicate m [])) s)
   | _=>none
 | .ren n k,s=>match Zv n s.objs with
   | some (.row T ys)=>match Zv k s.objs with
     | some .dead=>match Nat.beq n k with
       | true=>none
       | false=>match ZuB s.nx s.df (some (k,.row T ys,true)) with
         | true=>some ((redo n .dead (s.edit (some (k,.row T ys,true)))).subst n (Zvm n k))
         | false=>none
     | _=>none
   | _=>none
 | .own t T,s=>match s with
   | ⟨nt,tmps,objs,nx,df,wr,di,mv⟩=>match ZbE t tmps with
     | .nils=>match Nat.blt 0 T.size with
       | true=>some ⟨nt,(t,.osl nx)::tmps,(nx,.row T [])::objs,nx+1,df,t::wr,nx::di,mv⟩
       | false=>none
     | .osl _=>some ⟨nt,tmps,objs,nx,df,wr,di,mv⟩
     | .osp ..=>some ⟨nt,tmps,objs,nx,df,wr,di,mv⟩
     | _=>none
 | .ownc l j T,s=>match s with
   | ⟨nt,tmps,objs,nx,df,wr,di,mv⟩=>match Zv l objs with
     | some (.box cs)=>match cs.getD j .any with
       | .nils=>match Nat.blt 0 T.size with
         | true=>some ⟨nt,tmps,(l,.box (ZdT (.osl nx) j cs))::(nx,.row T [])::objs,nx+1,df,wr,l::nx::di,mv⟩
         | false=>none
       | .osl _=>some ⟨nt,tmps,objs,nx,df,wr,di,mv⟩
       | _=>none
     | _=>none
 | .frz t,s=>some (frzT t 5 s)
 | .frzl l,s=>some (s.freeze l)
 | .zero t,s=>match ZbE t s.tmps with
   | .osp l lo n=>match Nat.beq lo 0&&Nat.beq n 0 with
     | true=>match Zv l s.objs with
       | some (.row T xs)=>match ZuB s.nx s.df (some (l,.row T [],true)) with
         | true=>match s.edit (some (l,.row T [],true)) with
           | ⟨nt,tmps,objs,nx,df,wr,di,mv⟩=>some ⟨nt,(t,.osl l)::tmps,objs,nx,df,t::wr,di,mv⟩
         | false=>none
       | _=>none
     | false=>none
   | .osl _=>some s
   | .nils=>some s
   | _=>none
 | .part _,_=>none
 | .cases ..,_=>none
 | .frzc l j,s=>match Zv l s.objs with
   | some (.box cs)=>match (cs.getD j .any).fk with
     | some k=>some (s.freeze k)
     | none=>some s
   | _=>none
 | .data t T,s=>match s with
   | ⟨nt,tmps,objs,nx,df,wr,di,mv⟩=>match getD T (ZbE t tmps) with
     | some x=>some ⟨nt,(t,ZqK T x)::tmps,objs,nx,df,t::wr,di,mv⟩
     | none=>none
theorem Zlr {E : Env} {objs : Zat} (g : Z7 P E objs) {nx : Nat} (hf : E.loc nx = none) {T : Ty} (hT : 0 < T.size) {c : Value} (r : Rep P E .nils c) :
 ∃ E',E'.w=E.w∧(∀ l,l≠nx→E'.loc l=E.loc l)∧Z7 P E' ((nx,.row T [])::objs)∧ZcH E objs E' ((nx,.row T [])::objs) []∧Rep P E' (.osl nx) c:=by
 cases r with
 | nils a =>
   refine⟨E.setL E.w nx ⟨0,a,0,0,T.size⟩,rfl,fun l h=>ZaB _ _ _ h,?_⟩
   have hp:=g.push (w:=E.w) (l:=nx) (L:=⟨0,a,0,0,T.size⟩) (o:=.row T []) hf ⟨rfl,rfl,rfl,Nat.le_refl _,fun _ _ _=>rfl⟩ ⟨rfl,hT,rfl,(0:Nat),[],rfl,.inl ⟨rfl,rfl⟩⟩ (fun h=>absurd rfl h)
   exact⟨hp.1,hp.2,.osl (ZP _ _ _ _)⟩
theorem Zih{E:Env}{tmps:List (Nat×V)}{a:Act}{t0:Nat}{v:V}(h:∀ t,Rep P E (ZbE t tmps) (a.tmps.getD t undef))(hv:Rep P E v (a.tmps.getD t0 undef))(t:Nat):Rep P E (ZbE t ((t0,v)::tmps)) (a.tmps.getD t undef):=by
 rw[Zah]
 split
 ·rename_i e;subst e;exact hv
 ·exact h t
theorem Zum {E : Env} {objs : Zat} (g : Z7 P E objs) {l : Nat} {T : Ty} {xs : List T.den} (ho : Zv l objs = some (.row T xs)) {c : Value} (r : Rep P E (.osp l 0 0) c) :
 ∃ E',E'.w=E.w∧Z7 P E' (edit objs (some (l,.row T [],true)))∧ZcH E objs E' (edit objs (some (l,.row T [],true))) [l]∧Rep P E' (.osl l) c:=by
 obtain⟨L,hL,a,rfl,ha⟩:=Zdu r
 obtain⟨K,hK,hat⟩:=g.at_ l _ ho
 rw[hL] at hK;cases hK
 have hp:=Z7.put g (mv:=true) (o':=.row T []) (L':=⟨L.b,a,0,L.cap,L.esz⟩) (w:=E.w) (row:=none) ho hL ⟨rfl,rfl,rfl,Nat.le_refl _,fun _ _ _=>rfl⟩ (fun b hb=>by cases hb) (fun h=>by cases h) (by
  obtain⟨h1,h2,h3,e,cs,h4,h5⟩:=hat
  refine⟨h1,h2,rfl,e,[],rfl,?_⟩
  rcases h5 with ⟨h6,h7⟩ | ⟨cur,h6,h7,h8,h9,h10,h11,h12⟩
  ·exact .inl ⟨h6,rfl⟩
  ·refine .inr ⟨cur,?_,h7,Nat.zero_le _,h9,h10,h11,by simp⟩
   have:=ha (by omega)
   simp only[this,h6,Nat.zero_mul]
   rfl) (fun hh=>.inl ⟨hh,rfl⟩)
 refine⟨E.setL E.w l ⟨L.b,a,0,L.cap,L.esz⟩,rfl,hp.1,hp.2,?_⟩
 have:Value.slice a 0 (L.cap - 0)=(⟨L.b,a,0,L.cap,L.esz⟩:Loc).v:=rfl
 rw[this]
 exact .osl (ZP _ _ _ _)
theorem ZnR{cx:Cx}{s:St}{a:Act}{E:Env}{l:Nat}{o o':Obj}(ho:Zv l s.objs=some o)(hh:∀ L,o'.has L→o.has L)(ha:∀ L,ZaM P E L o→ZaM P E L o')(r:ZcR P cx s a E):ZcR P cx (redo l o' s) a E:=by
 obtain⟨nt,tmps,objs,nx,df,wr,di,mv⟩:=s
 have ho:Zv l objs=some o:=ho
 have tr:∀ l' o1,Zv l' ((l,o')::objs)=some o1→∃ o2 L,Zv l' objs=some o2∧E.loc l'=some L∧E.loc l'=some L∧(∀ L,o1.has L→o2.has L)∧(ZaM P E L o2→ZaM P E L o1):=fun l' o1 h1=>by
  rw[Zl] at h1
  split at h1
  ·rename_i e
   subst e
   cases h1
   obtain⟨L,hL,_⟩:=r.good.at_ l o ho
   exact⟨o,L,ho,hL,hL,hh,ha L⟩
  ·obtain⟨L,hL,_⟩:=r.good.at_ l' o1 h1
   exact⟨o1,L,h1,hL,hL,fun _ h=>h,fun h=>h⟩
 exact⟨r.good.sub rfl rfl tr,r.fresh,r.step.swap tr (fun l' hl'=>(ZaJ hl').2),r.drawn,r.size,r.df,r.rep⟩
theorem Inv.redo{l:Nat}{o:Obj}{s:St}:Inv s (redo l o s):=by
 obtain⟨nt,tmps,objs,nx,df,wr,di,mv⟩:=s
 exact⟨rfl,Nat.le_refl _,fun _ h=>h,fun _ h=>List.mem_cons_of_mem _ h,fun _ h=>h,fun _ _=>rfl,fun k hk=>by
  have hk:k∉l::di:=hk
  simp only[List.mem_cons,not_or] at hk
  show Zv k ((l,o)::objs)=_
  rw[Zl,if_neg (Ne.symm hk.1)],fun _=>rfl⟩
theorem Zw6{E:Env}{L:Loc}{T:Ty}{xs:List (List T.den)}{v:V}{m:Nat}{y:List T.den}(hy:Zmm (.sl T) [v]=some y)(h:ZaM P E L (.vrow T xs [v] m)):ZaM P E L (.vrow T (xs++[y]) [] m):=by
 obtain⟨h1,h2,h3,e,cs,h4,h5⟩:=h
 have hlen:L.len=(xs++[y]).length+([]:List V).length+m:=by simp only[List.length_append,List.length_cons,List.length_nil] at h3 ⊢;omega
 rcases h5 with h5 | ⟨cur,h5,h6,h7,h8,h9,h10,h11,h12,h13⟩
 ·have:=h5.2;simp at h3;omega
 ·have hlt:xs.length < cur.size:=by simp at h3;omega
  have hc:ZbD E.w E.S (.sl T) y [cur[xs.length]]:=Zcg hy ⟨rfl,fun j hj=>by
   obtain rfl:j=0:=by simp at hj;exact hj
   have:=h12 0 (by simp)
   rw[Array.getD_eq_getD_getElem?,Nat.add_zero,Array.getElem?_eq_getElem hlt] at this
   exact this⟩
  refine⟨h1,Nat.zero_le _,hlen,e,cs++[cur[xs.length]],h4.append ⟨[cur[xs.length]],[],rfl,hc,rfl⟩,.inr ⟨cur,h5,h6,h7,h8,h9,h10,?_,fun j hj=>by simp at hj,fun i hi=>h13 i (by simpa using hi)⟩⟩
  rw[← h11,List.length_append,List.length_cons,List.length_nil,Nat.zero_add,List.take_add_one,Array.getElem?_toList,Array.getElem?_eq_getElem hlt]
  rfl
theorem Znw{w:World}{S:Nat→Prop}{T:Ty}:∀ m:Nat,Z3 w S (.sl T) (List.replicate m []) (List.replicate m (.slice none 0 0))
 | 0=>rfl
 | m+1=>⟨[.slice none 0 0],List.replicate m (.slice none 0 0),by rw[List.replicate_succ];rfl,⟨none,0,rfl,⟨Nat.le_refl _,Nat.zero_le _⟩,fun h=>absurd rfl h⟩,Znw m⟩
theorem ZwL{E:Env}{L:Loc}{T:Ty}{xs:List (List T.den)}{m:Nat}(h:ZaM P E L (.vrow T xs [] m)):ZaM P E L (.row (.sl T) (xs++List.replicate m [])):=by
 obtain⟨h1,h2,h3,e,cs,h4,h5⟩:=h
 have hlen:L.len=(xs++List.replicate m ([]:List T.den)).length:=by simp only[List.length_append,List.length_replicate,List.length_nil] at h3 ⊢;omega
 refine⟨h1,Nat.zero_lt_one,hlen,e,_,h4.append (Znw m),?_⟩
 rcases h5 with ⟨h5,h6⟩ | ⟨cur,h5,h6,h7,h8,h9,h10,h11,h12,h13⟩
 ·exact .inl ⟨h5,List.eq_nil_of_length_eq_zero (by rw[← hlen];exact h6)⟩
 ·refine .inr ⟨cur,h5,h6,by rw[← hlen];exact h7,h8,h9,by rw[h10];exact (Nat.mul_one _).symm,?_⟩
  rw[← hlen,show (Ty.sl T).size=1 from rfl,Nat.mul_one,← h11]
  have h3:L.len=xs.length+m:=by simpa using h3
  have hcl:(cur.toList.take xs.length).length=xs.length:=by simp only[List.length_take,Array.length_toList];omega
  apply List.ext_getElem?
  intro j
  rw[List.getElem?_take]
  split
  ·rename_i hj
   rcases Nat.lt_or_ge j xs.length with h | h
   ·rw[List.getElem?_append_left (by omega),List.getElem?_take,if_pos h]
   ·rw[List.getElem?_append_right (by omega),hcl,List.getElem?_replicate,if_pos (by omega),Array.getElem?_toList]
    exact h13 j (by simpa using h) hj
  ·rw[List.getElem?_eq_none]
   rw[List.length_append,hcl,List.length_replicate];omega
theorem ZwF {cx : Cx} {s : St} {a : Act} {E : Env} {n k : Nat} {T : Ty} {ys : List T.den} (hn : Zv n s.objs = some (.row T ys)) (hk : Zv k s.objs = some .dead) (hne : n ≠ k) (hed : ZuB s.nx s.df (some (k, .row T ys, true)) = true) (r : ZcR P cx s a E) :
 ∃ E',E'.w=E.w∧ZcR P cx ((redo n .dead (s.edit (some (k,.row T ys,true)))).subst n (Zvm n k)) a E':=by
 obtain⟨nt,tmps,objs,nx,df,wr,di,mv⟩:=s
 have hn:Zv n objs=some (.row T ys):=hn
 have hk:Zv k objs=some .dead:=hk
 obtain⟨L,hL,hat⟩:=r.good.at_ n _ hn
 obtain⟨K,hK,_⟩:=r.good.at_ k _ hk
 have hEn:(E.setL E.w k L).loc n=some L:=by rw[ZaB _ _ _ hne];exact hL
 have hx:Ext E (E.setL E.w k L) [k]:=⟨fun b hb=>⟨hb,rfl⟩,fun j M hj hM=>by rw[ZaB _ _ _ (by simpa using hj)];exact hM⟩
 have hget:∀ l o,Zv l ((n,.dead)::(k,.row T ys)::substO (Zhq k) objs)=some o→(l=n∧o=.dead)∨(l=k∧o=.row T ys)∨(l≠n∧l≠k∧∃ q,Zv l objs=some q∧o=q.subst (Zhq k)):=fun l o h=>by
  rw[Zl] at h
  split at h
  ·rename_i e;cases h;exact .inl ⟨e.symm,rfl⟩
  ·rename_i e1
   rw[Zl] at h
   split at h
   ·rename_i e;cases h;exact .inr (.inl ⟨e.symm,rfl⟩)
   ·rename_i e2
    rw[ZbS,Option.map_eq_some_iff] at h
    obtain⟨q,hq,rfl⟩:=h
    exact .inr (.inr ⟨Ne.symm e1,Ne.symm e2,q,hq,rfl⟩)
 have old:∀ l o M,Zv l ((n,.dead)::(k,.row T ys)::substO (Zhq k) objs)=some o→(E.setL E.w k L).loc l=some M→o.has M→l≠n∧∃ l' o',Zv l' objs=some o'∧E.loc l'=some M∧o'.has M∧l'=(if l=k then n else l):=fun l o M h1 h2 h3=>by
  rcases hget l o h1 with ⟨rfl,rfl⟩ | ⟨rfl,rfl⟩ | ⟨e1,e2,q,hq,rfl⟩
  ·exact h3.elim
  ·rw[ZP] at h2;cases h2
   exact⟨Ne.symm hne,n,_,hn,hL,h3,(if_pos rfl).symm⟩
  ·rw[ZaB _ _ _ e2] at h2
   exact⟨e1,l,q,hq,h2,Obj.has_subst.1 h3,(if_neg e2).symm⟩
 have ownb:∀ b,ZdI (E.setL E.w k L) ((n,.dead)::(k,.row T ys)::substO (Zhq k) objs) b→ZdI E objs b:=fun b ⟨l,o,M,h1,h2,h3,h4⟩=>by
  obtain⟨_,l',o',k1,k2,k3,_⟩:=old l o M h1 h2 h3
  exact⟨l',o',M,k1,k2,k3,h4⟩
 have none2:∀ l,Zv l ((n,.dead)::(k,.row T ys)::substO (Zhq k) objs)=none→l≠k∧Zv l objs=none:=fun l h=>by
  obtain⟨_,h⟩:=ZaJ h
  obtain⟨h1,h⟩:=ZaJ h
  rw[ZbS] at h
  exact⟨h1,by simpa using h⟩
 have g1:Z7 P (E.setL E.w k L) ((n,.dead)::(k,.row T ys)::substO (Zhq k) objs):=by
  refine⟨fun l o h=>?_,fun b h=>r.good.ns b (ownb b h),r.good.sl,r.good.tab,fun i j p q M M' h1 h2 h3 h4 h5 h6 h7=>?_⟩
  ·rcases hget l o h with ⟨rfl,rfl⟩ | ⟨rfl,rfl⟩ | ⟨e1,e2,q,hq,rfl⟩
   ·exact⟨L,hEn,trivial⟩
   ·exact⟨L,ZP _ _ _ _,hat⟩
   ·obtain⟨M,hM,ha⟩:=r.good.at_ l q hq
    exact⟨M,by rw[ZaB _ _ _ e2];exact hM,ha.keepS (fun v c h=>ZiF hx h) (fun b hb=>⟨hb,rfl⟩) (fun _=>rfl)⟩
  ·obtain⟨n1,i',p',k1,k2,k3,k4⟩:=old i p M h1 h3 h5
   obtain⟨n2,j',q',m1,m2,m3,m4⟩:=old j q M' h2 h4 h6
   have:=r.good.inj i' j' p' q' M M' k1 m1 k2 m2 k3 m3 h7
   rw[k4,m4] at this
   by_cases e1:i=k
   ·by_cases e2:j=k
    ·rw[e1,e2]
    ·rw[if_pos e1,if_neg e2] at this;exact absurd this.symm n2
   ·by_cases e2:j=k
    ·rw[if_neg e1,if_pos e2] at this;exact absurd this n1
    ·rw[if_neg e1,if_neg e2] at this;exact this
 have st1:ZcH E objs (E.setL E.w k L) ((n,.dead)::(k,.row T ys)::substO (Zhq k) objs) [k] :=
  ⟨hx,rfl,rfl,rfl,Nat.le_refl _,fun _ _ _=>rfl,fun b hb=>.inr (ownb b hb),fun b hb=>.inl hb,fun l hl=>(none2 l hl).2,fun l hl=>ZaB _ _ _ (none2 l hl).1⟩
 have hkx:k < nx:=Nat.lt_of_not_le fun hle=>by rw[r.fresh k hle] at hK;cases hK
 have hbump:Zs5 k nx=nx:=by
  unfold Zs5
  split
  ·rename_i e;have:=Nat.eq_of_beq_eq_true e;omega
  ·rfl
 have hm:Zkd k df=false:=by
  simp only[ZuB] at hed
  split at hed
  ·simpa using hed
  ·cases hed
 have r1:ZcR P cx (redo n .dead (St.edit ⟨nt,tmps,objs,nx,df,wr,di,mv⟩ (some (k,.row T ys,true)))) a (E.setL E.w k L):=by
  refine⟨g1,fun j hj=>?_,r.step.trans st1,r.drawn,r.size,r.df.moved hx hm,fun t=>?_⟩
  ·have hj:Zs5 k nx≤j:=hj
   rw[hbump] at hj
   rw[ZaB _ _ _ (by omega)];exact r.fresh j hj
  ·show Rep P _ (ZbE t (ZcI (Zhq k) tmps)) _
   rw[ZcD,ZcS]
   exact ZiF hx (r.rep t)
 have hf:∀ v c,v.isRef=true→Rep P (E.setL E.w k L) v c→Rep P (E.setL E.w k L) (Zvm n k v) c:=fun v c _ h=>by
  have hi:Rep P (E.setL E.w k L) (Zhq n v) c:=by
   unfold Zhq
   split
   ·split
    ·exact .any _
    ·exact h
   ·exact h
  unfold Zvm
  split
  ·rename_i j
   split
   ·rename_i e
    have e:=Nat.eq_of_beq_eq_true e
    subst e
    obtain⟨M,hM,rfl⟩:=Zcf h
    rw[hEn] at hM;cases hM
    exact .osl (ZP _ _ _ _)
   ·exact h
  ·exact hi
 exact⟨E.setL E.w k L,rfl,r1.subst hf rfl rfl (fun _ h=>h) (r1.good.substO hf) (r1.step.substO (f:=Zvm n k))⟩
theorem ZvW{n k:Nat}(v:V)(hr:v.isRef=true)(h:v.has n=false):Zvm n k v=v:=by
 cases v<;>simp only[V.isRef,Bool.false_eq_true] at hr<;>simp only[V.has] at h<;>simp only[Zvm,Zhq,V.key,h]
theorem Zno{cx:Cx}:∀ {gh:Gh} {s s':St},ghost1 gh s=some s'→Wk P cx s s'
 | .opn _,s,s',h=>by cases h
 | .nxt n,s,s',h=>by
   obtain⟨nt,tmps,objs,nx,df,wr,di,mv⟩:=s
   simp only[ghost1] at h
   split at h
   ·rename_i hn
    cases h
    have hn:=Nat.le_of_ble_eq_true hn
    rintro a w ⟨E,e,r⟩
    exact⟨E,e,r.good,fun l hl=>r.fresh l (Nat.le_trans hn hl),r.step,r.drawn,r.size,r.df,r.rep⟩
   ·cases h
 | .cls l,s,s',h=>by
   simp only[ghost1] at h
   split at h
   ·rename_i T xs v m ho
    split at h
    ·rename_i y hy
     cases h
     rintro a w ⟨E,rfl,r⟩
     exact⟨E,rfl,ZnR ho (fun _ h=>h) (fun _ h=>Zw6 hy h) r⟩
    ·cases h
   ·cases h
 | .dne l,s,s',h=>by
   simp only[ghost1] at h
   split at h
   ·rename_i T xs m ho
    cases h
    rintro a w ⟨E,rfl,r⟩
    exact⟨E,rfl,ZnR ho (fun _ h=>h) (fun _ h=>ZwL h) r⟩
   ·cases h
 | .ren n k,s,s',h=>by
   simp only[ghost1] at h
   split at h
   ·rename_i T ys hn
    split at h
    ·rename_i hk
     split at h
     ·cases h
     ·rename_i hne
      split at h
      ·rename_i hed
       cases h
       rintro a w ⟨E,rfl,r⟩
       obtain⟨E',e1,r1⟩:=ZwF hn hk (Nat.ne_of_beq_eq_false hne) hed r
       exact⟨E',e1,r1⟩
      ·cases h
    ·cases h
   ·cases h
 | .own t T,s,s',h=>by
   obtain⟨nt,tmps,objs,nx,df,wr,di,mv⟩:=s
   simp only[ghost1] at h
   split at h
   ·rename_i hv
    split at h
    ·rename_i hT
     cases h
     rintro a w ⟨E,rfl,r⟩
     have rv:=r.rep t
     rw[show ZbE t (St.mk nt tmps objs nx df wr di mv).tmps=.nils from hv] at rv
     obtain⟨E',e1,e2,g,st,rr⟩:=Zlr r.good (r.fresh nx (Nat.le_refl _)) (Nat.le_of_ble_eq_true hT) rv
     exact⟨E',e1,g,fun l hl=>by have:nx+1≤l:=hl;rw[e2 l (by omega)];exact r.fresh l (by show nx≤l;omega),r.step.trans st,by rw[e1];exact r.drawn,r.size,r.df.ext st.ext,Zih (fun t=>(r.rep t).mono st.ext) rr⟩
    ·cases h
   ·cases h;exact .refl _
   ·cases h;exact .refl _
   ·cases h
 | .ownc l j T,s,s',h=>by
   obtain⟨nt,tmps,objs,nx,df,wr,di,mv⟩:=s
   simp only[ghost1] at h
   split at h
   ·rename_i cs hcs
    split at h
    ·rename_i hv
     split at h
     ·rename_i hT
      cases h
      rintro a w ⟨E,rfl,r⟩
      obtain⟨L,hL,vals,t,k1,k2,k3⟩:=r.good.at_ l _ hcs
      by_cases hj:j < cs.length
      ·have rv:=k3 j hj
       rw[hv] at rv
       obtain⟨E',e1,e2,g,st,rr⟩:=Zlr r.good (r.fresh nx (Nat.le_refl _)) (Nat.le_of_ble_eq_true hT) rv
       have hne:l≠nx:=fun e=>by subst e;rw[r.fresh l (Nat.le_refl _)] at hL;cases hL
       have hL':E'.loc l=some L:=by rw[e2 l hne];exact hL
       have ho1:Zv l ((nx,Obj.row T [])::objs)=some (.box cs):=by rw[Zl,if_neg (Ne.symm hne)];exact hcs
       have tr:∀ l' o,Zv l' ((l,Obj.box (ZdT (.osl nx) j cs))::(nx,.row T [])::objs)=some o→∃ o1 L,Zv l' ((nx,Obj.row T [])::objs)=some o1∧E'.loc l'=some L∧E'.loc l'=some L∧(∀ L,o.has L→o1.has L)∧(ZaM P E' L o1→ZaM P E' L o):=by
        intro l' o ho
        rw[Zl] at ho
        split at ho
        ·rename_i e
         subst e
         cases ho
         refine⟨_,L,ho1,hL',hL',fun _ _=>trivial,fun hat=>?_⟩
         obtain⟨vals2,t2,m1,m2,m3⟩:=hat
         have hvals:vals2=vals:=by
          rw[e1,k1] at m1;cases m1;rfl
         subst hvals
         refine⟨vals2,t2,m1,by rw[Zhs];exact m2,fun i hi=>?_⟩
         rw[Zhs] at hi
         rw[ZkU i hi]
         split
         ·rename_i e;subst e;exact rr
         ·exact m3 i hi
        ·obtain⟨L1,h1,h2⟩:=g.at_ l' o ho
         exact⟨o,L1,ho,h1,h1,fun _ h=>h,fun h=>h⟩
       refine⟨E',e1,g.sub rfl rfl tr,fun l hl=>by have:nx+1≤l:=hl;rw[e2 l (by omega)];exact r.fresh l (by show nx≤l;omega),(r.step.trans st).swap tr (fun l' hl'=>(ZaJ hl').2),by rw[e1];exact r.drawn,r.size,r.df.ext st.ext,fun t=>(r.rep t).mono st.ext⟩
      ·rw[List.getD_eq_getElem?_getD,List.getElem?_eq_none (by omega)] at hv
       cases hv
     ·cases h
    ·cases h;exact .refl _
    ·cases h
   ·cases h
 | .frz t,s,s',h=>by cases h;exact Zob t 5 s
 | .frzl l,s,s',h=>by cases h;exact Ze8 l
 | .zero t,s,s',h=>by
   simp only[ghost1] at h
   split at h
   ·rename_i l lo n hv
    split at h
    ·rename_i hz
     simp only[Bool.and_eq_true] at hz
     have h1:=Nat.eq_of_beq_eq_true hz.1
     have h2:=Nat.eq_of_beq_eq_true hz.2
     subst h1 h2
     split at h
     ·rename_i T xs ho
      split at h
      ·rename_i hed
       rintro a w ⟨E,rfl,r⟩
       have rv:=r.rep t
       rw[hv] at rv
       obtain⟨E',e1,g,st,rr⟩:=Zum r.good ho rv
       have r2:=ZcR.edit r hed (by rw[e1];exact Nat.le_refl _) g st
       revert h r2
       generalize s.edit (some (l,.row T [],true))=s2
       intro h r2
       obtain⟨nt,tmps,objs,nx,df,wr,di,mv⟩:=s2
       cases h
       exact⟨E',e1,r2.good,r2.fresh,r2.step,r2.drawn,r2.size,r2.df,Zih r2.rep rr⟩
      ·cases h
     ·cases h
    ·cases h
   ·cases h;exact .refl _
   ·cases h;exact .refl _
   ·cases h
 | .frzc l j,s,s',h=>by
   simp only[ghost1] at h
   split at h
   ·split at h
    ·cases h;exact Ze8 _
    ·cases h;exact .refl _
   ·cases h
 | .data t T,s,s',h=>by
   obtain⟨nt,tmps,objs,nx,df,wr,di,mv⟩:=s
   simp only[ghost1] at h
   split at h
   ·rename_i x hx
    cases h
    rintro a w ⟨E,rfl,r⟩
    exact⟨E,rfl,r.good,r.fresh,r.step,r.drawn,r.size,r.df,Zih r.rep (Zh5 (lo:=E.loc) (ZdV hx (r.rep t)))⟩
   ·cases h
theorem Inv.ghost1:∀ {gh:Gh} {s s':St},ghost1 gh s=some s'→Inv s s'
 | .opn _,s,s',h=>by cases h
 | .nxt n,s,s',h=>by
   obtain⟨nt,tmps,objs,nx,df,wr,di,mv⟩:=s
   simp only[YtgpdnmfpgkkgcaaGreatDoor.ghost1] at h
   split at h
   ·rename_i hn
    cases h
    exact⟨rfl,Nat.le_of_ble_eq_true hn,fun _ h=>h,fun _ h=>h,fun _ h=>h,fun _ _=>rfl,fun _ _=>rfl,fun _=>rfl⟩
   ·cases h
 | .cls l,s,s',h=>by
   simp only[YtgpdnmfpgkkgcaaGreatDoor.ghost1] at h
   split at h
   ·split at h
    ·cases h;exact Inv.redo
    ·cases h
   ·cases h
 | .dne l,s,s',h=>by
   simp only[YtgpdnmfpgkkgcaaGreatDoor.ghost1] at h
   split at h
   ·cases h;exact Inv.redo
   ·cases h
 | .ren n k,s,s',h=>by
   simp only[YtgpdnmfpgkkgcaaGreatDoor.ghost1] at h
   split at h
   ·split at h
    ·split at h
     ·cases h
     ·split at h
      ·cases h
       exact ((Inv.edit s _).trans Inv.redo).trans (Inv.subst ZvW)
      ·cases h
    ·cases h
   ·cases h
 | .own t T,s,s',h=>by
   obtain⟨nt,tmps,objs,nx,df,wr,di,mv⟩:=s
   simp only[YtgpdnmfpgkkgcaaGreatDoor.ghost1] at h
   split at h
   ·split at h
    ·cases h
     exact⟨rfl,Nat.le_succ _,fun _ h=>List.mem_cons_of_mem _ h,fun _ h=>List.mem_cons_of_mem _ h,fun _ h=>h,fun u hu=>by
      simp only[List.mem_cons,not_or] at hu
      simp only;rw[Zah,if_neg (Ne.symm hu.1)],fun k hk=>by
      simp only[List.mem_cons,not_or] at hk
      simp only;rw[Zl,if_neg (Ne.symm hk.1)],fun _=>rfl⟩
    ·cases h
   ·cases h;exact .refl _
   ·cases h;exact .refl _
   ·cases h
 | .ownc l j T,s,s',h=>by
   obtain⟨nt,tmps,objs,nx,df,wr,di,mv⟩:=s
   simp only[YtgpdnmfpgkkgcaaGreatDoor.ghost1] at h
   split at h
   ·split at h
    ·split at h
     ·cases h
      exact⟨rfl,Nat.le_succ _,fun _ h=>h,fun _ h=>List.mem_cons_of_mem _ (List.mem_cons_of_mem _ h),fun _ h=>h,fun _ _=>rfl,fun k hk=>by
       simp only[List.mem_cons,not_or] at hk
       simp only;rw[Zl,if_neg (Ne.symm hk.1),Zl,if_neg (Ne.symm hk.2.1)],fun _=>rfl⟩
     ·cases h
    ·cases h;exact .refl _
    ·cases h
   ·cases h
 | .frz t,s,s',h=>by cases h;exact Inv.frzT t 5 s
 | .frzl l,s,s',h=>by cases h;exact Inv.freeze l s
 | .zero t,s,s',h=>by
   simp only[YtgpdnmfpgkkgcaaGreatDoor.ghost1] at h
   split at h
   ·rename_i l lo n hv
    split at h
    ·split at h
     ·rename_i T xs ho
      split at h
      ·have hi:=Inv.edit s (some (l,.row T [],true))
       revert h hi
       generalize s.edit (some (l,.row T [],true))=s2
       intro h hi
       refine hi.trans ?_
       obtain⟨nt,tmps,objs,nx,df,wr,di,mv⟩:=s2
       cases h
       exact⟨rfl,Nat.le_refl _,fun _ h=>List.mem_cons_of_mem _ h,fun _ h=>h,fun _ h=>h,fun u hu=>by
        simp only[List.mem_cons,not_or] at hu
        simp only;rw[Zah,if_neg (Ne.symm hu.1)],fun _ _=>rfl,fun _=>rfl⟩
      ·cases h
     ·cases h
    ·cases h
   ·cases h;exact .refl _
   ·cases h;exact .refl _
   ·cases h
 | .frzc l j,s,s',h=>by
   simp only[YtgpdnmfpgkkgcaaGreatDoor.ghost1] at h
   split at h
   ·split at h
    ·cases h;exact Inv.freeze _ _
    ·cases h;exact .refl _
   ·cases h
 | .data t T,s,s',h=>by
   obtain⟨nt,tmps,objs,nx,df,wr,di,mv⟩:=s
   simp only[YtgpdnmfpgkkgcaaGreatDoor.ghost1] at h
   split at h
   ·cases h
    exact⟨rfl,Nat.le_refl _,fun _ h=>List.mem_cons_of_mem _ h,fun _ h=>h,fun _ h=>h,fun u hu=>by
     simp only[List.mem_cons,not_or] at hu
     simp only;rw[Zah,if_neg (Ne.symm hu.1)],fun _ _=>rfl,fun _=>rfl⟩
   ·cases h
theorem ZsN {E : Env} {objs : Zat} (g : Z7 P E objs) {l lo n : Nat} {T : Ty} {xs : List T.den} (ho : Zv l objs = some (.row T xs)) (hlen : lo + n ≤ xs.length) {c : Value} (r : Rep P E (.osp l lo n) c) {L : Loc} (hL : E.loc l = some L) :
 Rep P (E.still L.b ((Obj.row T xs).has L)) (.d (.sl T) ((xs.drop lo).take n)) c:=by
 obtain⟨K,hK,a,rfl,ha⟩:=Zdu r
 rw[hL] at hK;cases hK
 have h0:=ZiI g ho hL rfl (v:=.osl l) rfl (.osl hL)
 simp only[frz,Nat.beq_refl] at h0
 have h1:ZbD (E.still L.b ((Obj.row T xs).has L)).w (E.still L.b ((Obj.row T xs).has L)).S (.sl T) xs [L.v]:=ZhH h0
 obtain⟨hesz,hpos,hl,_⟩:L.esz=T.size∧0 < T.size∧L.len=xs.length∧xs.length≤L.cap:=by
  obtain⟨M,hM,hat⟩:=g.at_ l _ ho
  rw[hL] at hM;cases hM
  have:=ZnJ hat
  exact⟨hat.1,hat.2.1,hat.2.2.1,this⟩
 rw[Loc.v,hl] at h1
 have h2:=ZkO h1 hpos lo (lo+n) (by omega) hlen
 have e:(xs.take (lo+n)).drop lo=(xs.drop lo).take n:=by rw[List.drop_take];congr 1;omega
 rw[e] at h2
 by_cases hn:n=0
 ·subst hn
  rw[List.take_zero]
  exact .d ⟨a,L.cap - lo,rfl,⟨by simp,by obtain⟨_,cap',hc,hcap,_⟩:=h1;simp only[List.cons.injEq,Value.slice.injEq,and_true] at hc;show L.cap - lo≤maxLen;omega⟩,fun h=>absurd rfl h⟩
 ·have hne:L.cap≠lo:=by omega
  rw[if_neg hne,← hesz,← ha hne,show lo+n - lo=n from by omega] at h2
  exact .d h2
def ghosts:List Gh→St→Option St
 | [],s=>some s
 | g::r,s=>match ghost1 g s with
   | some s'=>ghosts r s'
   | none=>none
theorem Zna{cx:Cx}:∀ {l:List Gh} {s s':St},ghosts l s=some s'→Wk P cx s s'
 | [],s,s',h=>by cases h;exact .refl _
 | g::r,s,s',h=>by
   simp only[ghosts] at h
   split at h
   ·rename_i h1;exact (Zno h1).trans (Zna h)
   ·cases h
theorem Inv.ghosts:∀ {l:List Gh} {s s':St},ghosts l s=some s'→Inv s s'
 | [],s,s',h=>by cases h;exact .refl _
 | g::r,s,s',h=>by
   simp only[YtgpdnmfpgkkgcaaGreatDoor.ghosts] at h
   split at h
   ·rename_i h1;exact (Inv.ghost1 h1).trans (Inv.ghosts h)
   ·cases h
def ZpE(f:Nat→Prop)(i:Int)(m:Nat):Nat→Prop
 | 0=>False
 | c+1=>cond (decide (i=Int.ofNat m)) (f m) (ZpE f i (m+1) c)
theorem ZkN{f:Nat→Prop}{i:Int}:∀ {c m:Nat},ZpE f i m c→∃ k:Nat,i=Int.ofNat k∧f k
 | 0,m,h=>h.elim
 | c+1,m,h=>by
   simp only[ZpE] at h
   by_cases e:i=Int.ofNat m
   ·rw[decide_eq_true e] at h;exact⟨m,e,h⟩
   ·rw[decide_eq_false e] at h;exact ZkN h
theorem Zjj{v:V}:∀ {j:Nat} {cs:List V},j < cs.length→cs.getD j .any=v→ZdT v j cs=cs
 | _,[],h,_=>by simp at h
 | 0,x::r,_,e=>by simp at e;simp[ZdT,e]
 | j+1,x::r,h,e=>by simp[ZdT,Zjj (by simpa using h) (by simpa using e)]
def Zdq:List Gh→St→(St→Prop)→Prop
 | [],s,k=>k s
 | .part t::r,s,k=>match ZbE t s.tmps with
   | .osp l lo n=>match Zv l s.objs with
     | some (.row T xs)=>lo+n≤xs.length∧(match s.freeze l with
       | ⟨nt,tmps,objs,nx,df,wr,di,mv⟩=>Zdq r ⟨nt,(t,.d (.sl T) ((xs.drop lo).take n))::tmps,objs,nx,df,t::wr,di,mv⟩ k)
     | _=>False
   | _=>Zdq r s k
 | .cases t j n::r,s,k=>match ZbE t s.tmps with
   | .ref l _=>match Zv l s.objs with
     | some (.box cs)=>match cs.getD j .any with
       | .d (.int ik) i=>ZpE (fun m=>match s with
         | ⟨nt,tmps,objs,nx,df,wr,di,mv⟩=>Zdq r ⟨nt,tmps,(l,.box (ZdT (.d (.int ik) (Int.ofNat m)) j cs))::objs,nx,df,wr,l::di,mv⟩ k) i 0 n
       | _=>False
     | _=>False
   | _=>False
 | .opn l::r,s,k=>match s with
   | ⟨nt,tmps,objs,nx,df,wr,di,mv⟩=>match Zv l objs with
     | some (.vrow T xs [] m)=>match Nat.blt 0 T.size with
       | true=>0 < m∧Zdq r ⟨nt,tmps,(l,.vrow T xs [.osl nx] (m - 1))::(nx,.row T [])::objs,nx+1,df,wr,l::nx::di,mv⟩ k
       | false=>False
     | _=>False
 | g::r,s,k=>match ghost1 g s with
   | some s'=>Zdq r s' k
   | none=>False
theorem ZwD {cx : Cx} {nt : Nat} {tmps : List (Nat × V)} {objs : Zat} {nx : Nat} {df : List Df} {wr di mv : List Nat} {a : Act} {E : Env} {l : Nat} {T : Ty} {xs : List (List T.den)} {m : Nat} (ho : Zv l objs = some (.vrow T xs [] m)) (hT : 0 < T.size) (hm : 0 < m)
 (r:ZcR P cx ⟨nt,tmps,objs,nx,df,wr,di,mv⟩ a E):∃ E',E'.w=E.w∧ZcR P cx ⟨nt,tmps,(l,.vrow T xs [.osl nx] (m - 1))::(nx,.row T [])::objs,nx+1,df,wr,l::nx::di,mv⟩ a E':=by
 obtain⟨E',e1,e2,g,st,rr⟩:=Zlr (T:=T) r.good (r.fresh nx (Nat.le_refl _)) hT (.nils none)
 obtain⟨L,hL,_⟩:=r.good.at_ l _ ho
 have hne:nx≠l:=fun e=>by rw[← e,r.fresh nx (Nat.le_refl _)] at hL;cases hL
 have r1:ZcR P cx ⟨nt,tmps,(nx,.row T [])::objs,nx+1,df,wr,nx::di,mv⟩ a E' :=
  ⟨g,fun j hj=>by have:nx+1≤j:=hj;rw[e2 j (by omega)];exact r.fresh j (by show nx≤j;omega),r.step.trans st,by rw[e1];exact r.drawn,r.size,r.df.ext st.ext,fun t=>(r.rep t).mono st.ext⟩
 refine⟨E',e1,ZnR (l:=l) (o:=.vrow T xs [] m) (o':=.vrow T xs [.osl nx] (m - 1)) (by show Zv l ((nx,.row T [])::objs)=_;rw[Zl,if_neg hne];exact ho) (fun _ h=>h) (fun K h=>?_) r1⟩
 obtain⟨h1,h2,h3,e,cs,h4,h5⟩:=h
 have hlen:K.len=xs.length+[V.osl nx].length+(m - 1):=by simp only[List.length_cons,List.length_nil] at h3 ⊢;omega
 refine⟨h1,Nat.le_refl _,hlen,e,cs,h4,?_⟩
 rcases h5 with ⟨h5,h6⟩ | ⟨cur,h5,h6,h7,h8,h9,h10,h11,h12,h13⟩
 ·simp at h3;omega
 ·refine .inr ⟨cur,h5,h6,h7,h8,h9,h10,h11,fun j hj=>?_,fun i hi=>h13 i (by simp only[List.length_cons,List.length_nil] at hi ⊢;omega)⟩
  obtain rfl:j=0:=by simp at hj;exact hj
  have:=h13 xs.length (by simp) (by simp at h3;omega)
  rw[Array.getD_eq_getD_getElem?,Nat.add_zero,this]
  exact rr
theorem Zdm{cx:Cx}:∀ {l:List Gh} {s:St} {k:St→Prop} {a:Act} {w:World},Zdq l s k→Rel P cx s a w→∃ s',Inv s s'∧Rel P cx s' a w∧k s'
 | [],s,k,a,w,h,r=>⟨s,.refl s,r,h⟩
 | g::l,s,k,a,w,h,r=>by
   have plain:(match ghost1 g s with | some s'=>Zdq l s' k | none=>False)→∃ s',Inv s s'∧Rel P cx s' a w∧k s':=fun h=>by
    split at h
    ·rename_i s1 h1
     obtain⟨s',i1,r1,k1⟩:=Zdm h (Zno h1 a w r)
     exact⟨s',(Inv.ghost1 h1).trans i1,r1,k1⟩
    ·exact h.elim
   cases g with
   | part t =>
     simp only[Zdq] at h
     split at h
     ·rename_i o lo n hv
      split at h
      ·rename_i T xs ho
       obtain⟨hlen,h⟩:=h
       obtain⟨E,rfl,r1⟩:=r
       have rv:=r1.rep t
       rw[hv] at rv
       obtain⟨L,hL,_⟩:=r1.good.at_ o _ ho
       have hd:=ZsN r1.good ho hlen rv hL
       have hst:∃ E',E'.w=E.w∧(∀ v c,v.fk=none→Rep P (E.still L.b ((Obj.row T xs).has L)) v c→Rep P E' v c)∧ZcR P cx (s.freeze o) a E':=by
        have hw:=Zkg (P:=P) (cx:=cx) o ho hL r1
        exact⟨E.still L.b ((Obj.row T xs).has L),rfl,fun v c hk hr=>hr,hw⟩
       obtain⟨E',e1,e2,r2⟩:=hst
       have hi:=Inv.freeze o s
       revert h r2 hi
       generalize s.freeze o=s2
       intro h r2 hi
       obtain⟨nt,tmps,objs,nx,df,wr,di,mv⟩:=s2
       simp only at h
       have r3:Rel P cx ⟨nt,(t,.d (.sl T) ((xs.drop lo).take n))::tmps,objs,nx,df,t::wr,di,mv⟩ a E.w :=
        ⟨E',e1,r2.good,r2.fresh,r2.step,r2.drawn,r2.size,r2.df,Zih r2.rep (e2 _ _ rfl hd)⟩
       obtain⟨s',i1,r4,k1⟩:=Zdm h r3
       refine⟨s',(hi.trans ?_).trans i1,r4,k1⟩
       exact⟨rfl,Nat.le_refl _,fun _ h=>List.mem_cons_of_mem _ h,fun _ h=>h,fun _ h=>h,fun u hu=>by
        simp only[List.mem_cons,not_or] at hu
        simp only;rw[Zah,if_neg (Ne.symm hu.1)],fun _ _=>rfl,fun _=>rfl⟩
      ·exact h.elim
     ·exact Zdm h r
   | cases t j n =>
     simp only[Zdq] at h
     split at h
     ·rename_i o off hlk
      split at h
      ·rename_i cs ho
       split at h
       ·rename_i ik i hv
        obtain⟨m,e,h⟩:=ZkN h
        obtain⟨E,rfl,r1⟩:=r
        obtain⟨nt,tmps,objs,nx,df,wr,di,mv⟩:=s
        simp only at h ho
        have hj:j < cs.length:=by
         refine Nat.lt_of_not_le fun hle=>?_
         rw[List.getD_eq_getElem?_getD,List.getElem?_eq_none hle] at hv;cases hv
        have e':i=Int.ofNat m:=e
        rw[Zjj hj (by rw[hv,e'])] at h
        have hob:∀ l',Zv l' ((o,Obj.box cs)::objs)=Zv l' objs:=fun l'=>by
         rw[Zl]
         split
         ·rename_i e;rw[← e];exact ho.symm
         ·rfl
        have tr:∀ l' o1,Zv l' ((o,Obj.box cs)::objs)=some o1→∃ o2 L,Zv l' objs=some o2∧E.loc l'=some L∧E.loc l'=some L∧(∀ L,o1.has L→o2.has L)∧(ZaM P E L o2→ZaM P E L o1):=fun l' o1 h1=>by
         rw[hob] at h1
         obtain⟨L,hL,_⟩:=r1.good.at_ l' o1 h1
         exact⟨o1,L,h1,hL,hL,fun _ h=>h,fun h=>h⟩
        have r2:Rel P cx ⟨nt,tmps,(o,.box cs)::objs,nx,df,wr,o::di,mv⟩ a E.w :=
         ⟨E,rfl,r1.good.sub rfl rfl tr,r1.fresh,r1.step.swap tr (fun l' hl'=>by rw[hob] at hl';exact hl'),r1.drawn,r1.size,r1.df,r1.rep⟩
        obtain⟨s',i1,r4,k1⟩:=Zdm h r2
        refine⟨s',Inv.trans ?_ i1,r4,k1⟩
        exact⟨rfl,Nat.le_refl _,fun _ h=>h,fun _ h=>List.mem_cons_of_mem _ h,fun _ h=>h,fun _ _=>rfl,fun k _=>hob k,fun _=>rfl⟩
       ·exact h.elim
      ·exact h.elim
     ·exact h.elim
   | opn l =>
     obtain⟨nt,tmps,objs,nx,df,wr,di,mv⟩:=s
     simp only[Zdq] at h
     split at h
     ·rename_i T xs m ho
      split at h
      ·rename_i hT
       obtain⟨E,rfl,r1⟩:=r
       obtain⟨E',e1,r2⟩:=ZwD ho (Nat.le_of_ble_eq_true hT) h.1 r1
       obtain⟨s',i1,r4,k1⟩:=Zdm h.2 (e1▸⟨E',rfl,r2⟩:Rel P cx _ a E.w)
       refine⟨s',Inv.trans ?_ i1,r4,k1⟩
       exact⟨rfl,Nat.le_succ _,fun _ h=>h,fun _ h=>List.mem_cons_of_mem _ (List.mem_cons_of_mem _ h),fun _ h=>h,fun _ _=>rfl,fun k hk=>by
        have hk:k∉l::nx::di:=hk
        simp only[List.mem_cons,not_or] at hk
        show Zv k (_::_::objs)=_
        rw[Zl,if_neg (Ne.symm hk.1),Zl,if_neg (Ne.symm hk.2.1)],fun _=>rfl⟩
      ·exact h.elim
     ·exact h.elim
   | _=>exact plain h
def Zvw:Option Nat→Nat
 | some d=>d
 | none=>9999
def Zv2(dst:Option Nat)(k:St→Prop)(v:V)(s:St):Prop:=match s.setT dst v with
 | some s'=>k s'
 | none=>False
def Zxj(i:Int)(k:V→Prop):Nat→List V→Prop
 | _,[]=>False
 | _,[v]=>k v
 | j,v::u::r=>cond (decide (i=(j:Int))) (k v) (Zxj i k (j+1) (u::r))
def ZuP(τ:Zar)(t:TypeId)(x ix:V)(k:V→Prop):Prop:=match τ t with
 | some ⟨.arr n e,_,_,_,_⟩=>match x with
   | .agg cs=>match ix with
     | .d (.int _) i=>match τ e with
       | some ei=>match Nat.beq cs.length n&&Nat.beq ei.size 1&&!ei.isAgg&&ei.k.known with
         | true=>(0≤i∧i < (n:Int))∧Zxj i k 0 cs
         | false=>False
       | none=>False
     | _=>False
   | _=>False
 | _=>False
def ZxB(os:Zat):V→Option Prop
 | .d (.sl T) l=>some (l=([]:List T.den))
 | .nils=>some True
 | .osl l=>match Zv l os with
   | some (.row T xs)=>some (xs=[])
   | _=>none
 | _=>none
def Zya(τ:Zar)(op:BinOp)(t:TypeId)(os:Zat)(x:V)(c:Value)(k:V→Prop):Prop:=match τ t with
 | some ⟨.sl _,_,_,_,_⟩=>match c with
   | .slice none 0 0=>match ZxB os x with
     | some p=>match op with
       | .eql=>∀ b:Bool,(b=true→p)→k (.d .bool b)
       | .neq=>∀ b:Bool,(b=true→p)→k (.d .bool (!b))
       | _=>False
     | none=>False
   | _=>False
 | _=>False
def xW(τ:Zar)(φ:Nat→Option FX)(run:ZiQ)(A:An)(Y:List (Nat×An)):XT:=fun o s k=>match o with
 | ⟨dst,op,_,_,_,_⟩=>match op with
   | .call { callee:=.value x,args,.. }=>match evV s.tmps x with
     | .yl l=>Zq4 run Y l (Zb4 s.tmps args.toList) s (Zv2 dst k)
     | f=>Zuq τ φ run (A.call (Zvw dst)) Y f (Zb4 s.tmps args.toList) s (Zv2 dst k)
   | .index t x i=>ZuP τ t (evV s.tmps x) (evV s.tmps i) fun v=>Zv2 dst k v s
   | .binOp op t x (.const c) _=>Zya τ op t s.objs (evV s.tmps x) c fun v=>Zv2 dst k v s
   | _=>False
theorem ZpC{i:Int}{k:V→Prop}:∀ {j:Nat} {cs:List V},Zxj i k j cs→(j:Int)≤i→i < (j:Int)+cs.length→∃ (n:Nat) (v:V),cs[n]?=some v∧i=(j:Int)+n∧k v
 | _,[],h,_,_=>h.elim
 | j,[v],h,h1,h2=>⟨0,v,rfl,by simp at h2;omega,h⟩
 | j,v::u::r,h,h1,h2=>by
   simp only[Zxj] at h
   by_cases e:i=(j:Int)
   ·rw[decide_eq_true e] at h
    exact⟨0,v,rfl,by omega,h⟩
   ·rw[decide_eq_false e] at h
    simp only[List.length_cons] at h2
    obtain⟨n,w,a1,a2,a3⟩:=ZpC (j:=j+1) h (by omega) (by simp only[List.length_cons];omega)
    exact⟨n+1,w,by simpa using a1,by omega,a3⟩
theorem Zjs {cx : Cx} {s s1 : St} {dst : Option Nat} {k : St → Prop} {v : V} {u : Value} {a : Act} {E' : Env} {next : Act → World → Prop} (hn : ∀ s' a' w', Inv s s' → k s' → Rel P cx s' a' w' → next a' w') (hi : Inv s s1) (hk : Zv2 dst k v s1) (r : ZcR P cx s1 a E') (rv : Rep P E' v u) :
 next (a.put dst u) E'.w:=by
 unfold Zv2 at hk
 split at hk
 ·rename_i s' hs
  exact hn s' _ _ (hi.trans (Inv.setT hs)) hk ⟨E',rfl,ZcR.setT r hs rv⟩
 ·exact hk.elim
theorem Zvg{E:Env}{objs:Zat}(g:Z7 P E objs){x:V}{p:Prop}(h:ZxB objs x=some p){c:Value}(r:Rep P E x c):∃ a n cap,c=.slice a n cap∧(a.isNone=true→p):=by
 unfold ZxB at h
 split at h
 ·rename_i T l
  cases h
  obtain⟨a,cap,hc,_,hl⟩:=ZhH r
  refine⟨a,_,cap,(List.cons.inj hc).1,fun hn=>?_⟩
  apply Classical.byContradiction
  intro hne
  obtain⟨b,off,ha,_⟩:=hl hne
  rw[ha] at hn;cases hn
 ·cases h
  cases r with | nils a=>exact⟨a,0,0,rfl,fun _=>trivial⟩
 ·rename_i l
  split at h
  ·rename_i T xs ho
   cases h
   obtain⟨L,hL,rfl⟩:=Zcf r
   obtain⟨K,hK,hat⟩:=g.at_ l _ ho
   rw[hL] at hK;cases hK
   obtain⟨_,_,_,_,_,_,⟨_,h⟩ | ⟨cur,h,_⟩⟩:=hat
   ·exact⟨_,_,_,rfl,fun _=>h⟩
   ·exact⟨_,_,_,rfl,fun hn=>by rw[h] at hn;cases hn⟩
  ·cases h
 ·cases h
theorem ZnS{t e:TypeId}(h:P.underlying t=some (.slice e))(a:Option Addr)(n c:Nat)(w:World):(Op.equal t (.slice a n c) (.slice none 0 0)).run P w=.ok a.isNone w :=
 Zln fun d=>by cases a<;>simp only[Op.equalIn,Sem.run_bind,run_underlying h,Result.andThen_ok,Sem.run_pure,Option.isNone]
theorem Zv8(hτ:Zbs P τ)(hφ:∀ g fi,φ g=some fi→fi.Ok P g){run:ZiQ}(hrun:Zct P run){A:An}{Y:List (Nat×An)}{r:Option Nat}{cx:Cx}:XOk P r cx (xW τ φ run A Y):=by
 intro o s k a w next Q hg h hr hn
 obtain⟨dst,op,ty,po,af,guard⟩:=o
 obtain⟨E,rfl,r1⟩:=hr
 unfold xW at h
 simp only at h
 split at h
 ·rename_i x args tys
  have ra:Zby P E (Zb4 s.tmps args.toList) (args.toList.map a.eval):=ZcB fun y _=>Zen r1.rep y
  have rx:=Zen r1.rep x
  split at h
  ·rename_i l hx
   rw[hx] at rx
   obtain⟨b,fn,tm,as,bo,e1,e2,e3⟩:=Zru (cs:=args.map a.eval) hrun h r1 rx (by simpa using ra) r
   refine⟨fun _ _=>trivial,?_⟩
   rw[Oper.semAt_eq _ _ _ (fun c=>by simp)]
   have hrun':(execOp a.eval ⟨dst,.call { callee:=.value x,args,argTypes:=tys },ty,po,af,guard⟩).run P E.w=.ok (.round b fn tm as bo) E.w:=by
    simp[execOp,resolve,e1,Deferred.ofValue,invoke,e2]
   rw[hrun',Oper.uponIn_round]
   exact⟨fun h=>by simp[fz,Fence.wide] at h,e3 _ fun u v s3 E' hi hk hr' hv=>Zjs hn hi hk hr' hv⟩
  ·rename_i hx
   obtain⟨g,p,q,e1,e2,e3⟩:=Zph hτ hφ hrun h r1 rx ra
   refine⟨fun _ _=>trivial,?_⟩
   rw[Oper.semAt_eq _ _ _ (fun c=>by simp),Zlf (o:=⟨dst,.call { callee:=.value x,args,argTypes:=tys },ty,po,af,guard⟩) rfl e2 e1,Oper.uponIn_enter]
   refine⟨fun h=>by simp[fz,Fence.wide] at h,?_⟩
   have:(args.toList.map a.eval).toArray=args.map a.eval:=Array.ext' (by rw[Array.toList_map])
   rw[this] at e3
   exact e3 _ fun u v s3 E' hi hk hr' hv _=>Zjs hn hi hk hr' hv
 ·rename_i t x i
  unfold ZuP at h
  split at h
  ·rename_i n e sz by_ ze co hti
   split at h
   ·rename_i cs hx
    split at h
    ·rename_i k' ii hii
     split at h
     ·rename_i ei hei
      split at h
      ·rename_i hc
       obtain⟨⟨h0,h1⟩,h2⟩:=h
       simp only[Bool.and_eq_true] at hc
       have hlen:cs.length=n:=Nat.eq_of_beq_eq_true hc.1.1.1
       obtain⟨m,v,m1,m2,m3⟩:=ZpC (j:=0) h2 (by simpa using h0) (by rw[hlen];simpa using h1)
       have rx:=Zen r1.rep x
       have ri:=Zen r1.rep i
       rw[hx] at rx
       rw[hii] at ri
       have hm:m < n:=by rw[← hlen];exact (List.getElem?_eq_some_iff.1 m1).1
       have he:Zgq τ t (.agg cs) (.d (.int k') (Int.ofNat m))=some ⟨none,v,none⟩:=by
        have hb:Nat.blt m n=true:=Nat.ble_eq_true_of_le hm
        simp only[Zgq,hti,hei,hb,hc.1.1.2,hc.1.2,hc.2,Bool.and_self,m1]
       have ri':Rep P E (.d (.int k') (Int.ofNat m)) (a.eval i):=by
        have:ii=Int.ofNat m:=by simpa using m2
        rw[this] at ri;exact ri
       have:=Zi3 hτ he r1.good rx ri'
       have hran:Ran P ⟨dst,.index t x i,ty,po,af,guard⟩ a.eval E s.objs ⟨none,v,none⟩:=this.ran rfl
       refine hran.did (by simp) next Q (fun E' u g' st hd hv=>?_)
       exact Zjs hn (.refl s) m3 (ZcR.edit (ed:=none) r1 rfl hd g' st) hv
      ·exact h.elim
     ·exact h.elim
    ·exact h.elim
   ·exact h.elim
  ·exact h.elim
 ·rename_i bop t x c yt
  unfold Zya at h
  split at h
  ·rename_i e sz by_ ze co hti
   split at h
   ·split at h
    ·rename_i p hp
     have ht:P.underlying t=some (.slice e):=(hτ t _ hti).kind
     obtain⟨a',n,cap,hx,hnil⟩:=Zvg r1.good hp (Zen r1.rep x)
     have heq:=ZnS (P:=P) ht a' n cap E.w
     have hgd:∀ op,(eqGuard op t x (.const (.slice none 0 0)) (.slice a' n cap) (.slice none 0 0)).run P E.w=.ok () E.w:=fun op=>ZcV _ _ _ _ rfl (by simp) _
     split at h
     ·have hran:Ran P ⟨dst,.binOp .eql t x (.const (.slice none 0 0)) yt,ty,po,af,guard⟩ a.eval E s.objs ⟨none,.d .bool a'.isNone,none⟩ :=
       (ZdH.same (s:=do eqGuard .eql t x (.const (.slice none 0 0)) (a.eval x) (.slice none 0 0);Go.binOp .eql t (a.eval x) (.slice none 0 0)) r1.good (v:=.bool a'.isNone) (by
        rw[hx];simp only[Sem.run_bind];rw[hgd];simp only[Result.andThen_ok,Go.binOp,Sem.run_bind,heq,Sem.run_pure]) (.mk_bool _)).ran rfl
      refine hran.did (by simp) next Q (fun E' u g' st hd hv=>?_)
      exact Zjs hn (.refl s) (h a'.isNone hnil) (ZcR.edit (ed:=none) r1 rfl hd g' st) hv
     ·have hran:Ran P ⟨dst,.binOp .neq t x (.const (.slice none 0 0)) yt,ty,po,af,guard⟩ a.eval E s.objs ⟨none,.d .bool (!a'.isNone),none⟩ :=
       (ZdH.same (s:=do eqGuard .neq t x (.const (.slice none 0 0)) (a.eval x) (.slice none 0 0);Go.binOp .neq t (a.eval x) (.slice none 0 0)) r1.good (v:=.bool (!a'.isNone)) (by
        rw[hx];simp only[Sem.run_bind];rw[hgd];simp only[Result.andThen_ok,Go.binOp,Sem.run_bind,heq,Sem.run_pure]) (.mk_bool _)).ran rfl
      refine hran.did (by simp) next Q (fun E' u g' st hd hv=>?_)
      exact Zjs hn (.refl s) (h a'.isNone hnil) (ZcR.edit (ed:=none) r1 rfl hd g' st) hv
     ·exact h.elim
    ·exact h.elim
   ·exact h.elim
  ·exact h.elim
 ·exact h.elim
end
section
variable {P:Program} {τ:Zar} {κ:Z1} {φ:Nat→Option FX}
def Lp{σ:Type}(body:σ→(σ→Prop)→Prop)(x:σ):Prop:=∀ R:σ→Prop,(∀ y,body y R→R y)→R x
def Zod{σ:Type}(K:σ→Prop)(body:(σ→Prop)→Prop):Prop:=body K
def Zdh:Code→Option Nat
 | .region id _ _=>some id
 | .seq a b=>match Zdh a with
   | some n=>some n
   | none=>Zdh b
 | .cond _ a b=>match Zdh a with
   | some n=>some n
   | none=>Zdh b
 | .block _ c=>Zdh c
 | .loop c=>Zdh c
 | .scope c=>Zdh c
 | .rangeFunc _ _ a _=>Zdh a
 | _=>none
def An.join(A:An)(d:Code):Option LA:=match Zdh d with
 | some n=>A.jn n
 | .none=>.none
def St.add(s:St)(la:LA)(s0:St):St:=match la,s0,s with
 | ⟨vs,es,an,dd⟩,⟨_,_,_,_,_,wr0,di0,_⟩,⟨nt,tmps,objs,nx,df,wr,di,mv⟩=>⟨nt,tmps,objs,nx,df,wr++(an++(LA.tmps vs++wr0)),di++(ZfI vs++dd++di0),mv⟩
theorem ZnZ{cx:Cx}{la:LA}{s0 s:St}{a:Act}{w:World}(h:Rel P cx s a w):Rel P cx (s.add la s0) a w:=by
 obtain⟨E,e,r⟩:=h
 cases la;cases s0;cases s
 exact⟨E,e,r.good,r.fresh,r.step,r.drawn,r.size,r.df,r.rep⟩
theorem Zro{cx:Cx}{s:St}{a:Act}{w:World}(h:Rel P cx s a w):Rel P cx s.clr a w:=by
 obtain⟨E,e,r⟩:=h
 cases s
 exact⟨E,e,r.good,r.fresh,r.step,r.drawn,r.size,r.df,r.rep⟩
theorem ZwB{s:St}:s.clr.mv=s.mv:=by cases s;rfl
theorem Zrm{la:LA}{s:St}{y:Zd6 la.vs}:∀ l∈s.mv,l∈(head la s y).mv:=by
 cases la;cases s
 exact fun l hl=>List.mem_append_right _ hl
theorem Zn0{la:LA}{s0 s:St}(h:Hd la s0 s)(hm:∀ l∈s0.mv,l∈s.mv):Inv s0 (s.add la s0):=by
 obtain⟨vs,es,an,dd⟩:=la
 obtain⟨nt0,tmps0,objs0,nx0,df0,wr0,di0,mv0⟩:=s0
 obtain⟨nt,tmps,objs,nx,df,wr,di,mv⟩:=s
 refine⟨h.nt,h.nx,fun t ht=>?_,fun l hl=>?_,hm,fun t ht=>?_,fun l hl=>?_,fun hn=>?_⟩
 ·show t∈wr++(an++(LA.tmps vs++wr0))
  simp only[List.mem_append];exact .inr (.inr (.inr ht))
 ·show l∈di++(ZfI vs++dd++di0)
  simp only[List.mem_append];exact .inr (.inr hl)
 ·have ht:t∉wr++(an++(LA.tmps vs++wr0)):=ht
  simp only[List.mem_append,not_or] at ht
  exact h.tmp t ht.1 ht.2.1 ht.2.2.1
 ·have hl:l∉di++(ZfI vs++dd++di0):=hl
  simp only[List.mem_append,not_or] at hl
  exact h.obj l hl.1 (by show l∉ZfI vs++dd;simp only[List.mem_append,not_or];exact hl.2.1)
 ·have hn:nt0∉wr++(an++(LA.tmps vs++wr0)):=hn
  simp only[List.mem_append,not_or] at hn
  exact h.df hn.1
def unW(body:St→(Exit→St→Prop)→Prop):Nat→St→(Exit→St→Prop)→Prop
 | 0,_,_=>False
 | n+1,s,k=>body s (fun e s'=>match e with
   | .normal=>unW body n s' k
   | e=>k e s')
abbrev DT:=XT→List Oper→St→(St→Prop)→Prop
def DOk(P:Program)(D:DT):Prop:=∀ (X:XT) (id:Nat) (ops:Array Oper) (s:St) (k:St→Prop) (cx:Cx) (r:Option Nat) (R:ZjV),XOk P r cx X→D X ops.toList s k→∀ a w,Rel P cx s a w→(∀ s' a' w',Inv s s'→k s'→Rel P cx s' a' w'→R .normal a' w') →
 (Code.region id ops true).wpIn (fz r) 0 P R a w
def ZqT(l:Nat)(k:Exit→St→Prop)(s:St):Prop:=match s with
 | ⟨nt,tmps,objs,nx,df,wr,di,mv⟩=>match Zek l mv with
   | true=>False
   | false=>match Zv l objs with
     | some (.lrec _ _ _ _ _ st j)=>match st with
       | .busy=>False
       | _=>match j with
         | .no=>k .normal ⟨nt,tmps,(l,.dead)::objs,nx,df,wr,l::di,mv⟩
         | .ret=>k .ret ⟨nt,tmps,(l,.dead)::objs,nx,df,wr,l::di,mv⟩
         | .exit i=>k (.exit i) ⟨nt,tmps,(l,.dead)::objs,nx,df,wr,l::di,mv⟩
     | _=>False
def Zem(τ:Zar)(κ:Z1)(φ:Nat→Option FX)(D:DT)(run:ZiQ)(A:An)(Y:List (Nat×An))(ro:Bool):Nat→Code→St→(Exit→St→Prop)→Prop
 | _,.skip,s,k=>k .normal s
 | _,.label _,s,k=>k .normal s
 | _,.ret,s,k=>k .ret s
 | _,.exit i,s,k=>k (.exit i) s
 | _, .region id ops dr, s, k => Zdq (A.gs id) s (fun s1 => match ops.toList with
  | l=>match dr with
    | false=>Zmj τ κ (xW τ φ run A Y) l l [] s1 (fun s'=>k .normal s')
    | true=>D (xW τ φ run A Y) l s1 (fun s'=>k .normal s'))
 | b,.seq c d,s,k=>match A.join d with
   | none=>Zem τ κ φ D run A Y ro b c s (fun e s'=>match e with
     | .normal=>Zem τ κ φ D run A Y ro b d s' k
     | e=>k e s')
   | some la=>Zod (fun y=>Zem τ κ φ D run A Y ro b d ((head la s y).add la s) k) (fun J=>Zem τ κ φ D run A Y ro b c s.clr (fun e s'=>match e with
     | .normal=>match back la s s' with
       | some y=>J y
       | none=>False
     | e=>k e (s'.add la s)))
 | b,.cond x c d,s,k=>match evV s.tmps x with
   | .d .bool v=>cond v (Zem τ κ φ D run A Y ro b c s k) (Zem τ κ φ D run A Y ro b d s k)
   | _=>False
 | b,.block id c,s,k=>Zem τ κ φ D run A Y ro id c s (fun e s'=>match e with
   | .exit i=>match Nat.beq i id with
     | true=>k .normal s'
     | false=>k (.exit i) s'
   | e=>k e s')
 | b,.scope c,s,k=>Zem τ κ φ D run A Y ro b c s (fun e s'=>match e with
   | .goto _=>False
   | e=>k e s')
 | b,.loop c,s,k=>match ghosts (A.gs (1000+b)) s with
   | none=>False
   | some s=>match A.lp b with
     | none=>match A.un b with
       | some n=>unW (fun s k=>Zem τ κ φ D run A Y ro b c s k) n s k
       | none=>False
     | some la=>match frzVs la.vs s with
       | s0=>match back la s0 s0.clr with
         | none=>False
         | some y0=>Lp (fun y R=>Zem τ κ φ D run A Y ro b c (head la s0 y) (fun e s'=>match e with
           | .normal=>match back la s0 s' with
             | some y'=>R y'
             | none=>False
           | e=>k e (s'.add la s0))) y0
 | b,.rangeFunc g ps assign body,s,k=>match ro with
   | true=>False
   | false=>match s with
     | ⟨nt, tmps, objs, nx, df, wr, di, mv⟩ => Zuq τ φ run (A.call (5000 + b)) ((nx + 1, A) :: Y) (evV tmps g) [.yl (nx + 1)]
      ⟨nt,tmps,(nx+1,.lrec nt tmps ps.toList assign body .ready .no)::(nx,.dfb)::objs,nx+2,.mark nx::df,nt::wr,(nx+1)::nx::di,mv⟩ (fun _ s'=>ZqT (nx+1) k s')
 | _,_,_,_=>False
theorem ZgU (fn : FuncId) (tmps : Array Value) (ps : Array Tmp) (assign body : Code) (w : World) :
 (Instr.enterLoop fn tmps ps assign body (fz none).round).run P w =
  .ok (w.heap.size+1,[{ target:=.collected w.heap.size,args:=#[] }])
   ((w.alloc (.deferred (some []))).alloc (.loop { state:=.ready,pending:=none,fn,tmps,params:=ps,assign,body,defers:=w.heap.size })) :=
 run_enterLoop_outer fn tmps ps assign body
theorem Zo5(w:World)(o:Go.Obj):(w.alloc o).heap[w.heap.size]?=some o:=World.alloc_heap_new w o
theorem ZnQ {cx : Cx} {s : St} {a : Act} {E : Env} (r : ZcR P cx s a E) (fn : FuncId) (ps : Array Tmp) (assign body : Code) :
 ∃ E2,E2.w=(E.w.alloc (.deferred (some []))).alloc (.loop { state:=.ready,pending:=none,fn,tmps:=a.tmps,params:=ps,assign,body,defers:=E.w.heap.size })∧Ext E E2 []∧E2.loc (s.nx+1)=some { b:=E.w.heap.size+1 } ∧
  ZcR P cx ⟨s.nt,s.tmps,(s.nx+1,.lrec s.nt s.tmps ps.toList assign body .ready .no)::(s.nx,.dfb)::s.objs,s.nx+2,.mark s.nx::s.df,s.nt::s.wr,(s.nx+1)::s.nx::s.di,s.mv⟩
   { a with defers:={ target:=.collected E.w.heap.size,args:=#[] }::a.defers } E2:=by
 have hf0:=r.fresh s.nx (Nat.le_refl _)
 have p1:=Z7.push r.good (w:=E.w.alloc (.deferred (some []))) (l:=s.nx) (L:={ b:=E.w.heap.size }) (o:=.dfb) hf0 (World.grownBy_alloc E.w _ none) (Zo5 E.w _) (fun _=>Nat.le_refl _)
 have hf1:(E.setL (E.w.alloc (.deferred (some []))) s.nx { b:=E.w.heap.size }).loc (s.nx+1)=none:=by
  rw[ZaB _ _ _ (by omega)];exact r.fresh _ (by omega)
 generalize hE1:E.setL (E.w.alloc (.deferred (some []))) s.nx { b:=E.w.heap.size }=E1 at p1 hf1
 have hw1:E1.w=E.w.alloc (.deferred (some [])):=by rw[← hE1];rfl
 have hsz:E1.w.heap.size=E.w.heap.size+1:=by rw[hw1];simp
 have hx1:Ext E E1 []:=p1.2.ext
 have hgr:=World.grownBy_alloc E1.w (.loop { state:=.ready,pending:=none,fn,tmps:=a.tmps,params:=ps,assign,body,defers:=E.w.heap.size }) none
 have hx2:=Zgx p1.1 { b:=E1.w.heap.size } hf1 hgr
 have p2:=Z7.push p1.1 (w:=E1.w.alloc (.loop { state:=.ready,pending:=none,fn,tmps:=a.tmps,params:=ps,assign,body,defers:=E.w.heap.size })) (l:=s.nx+1) (L:={ b:=E1.w.heap.size })
  (o:=.lrec s.nt s.tmps ps.toList assign body .ready .no) hf1 hgr
  ⟨_,Zo5 E1.w _,r.size,fun t=>((r.rep t).mono hx1).mono hx2,rfl,rfl,rfl,rfl,rfl⟩ (fun _=>Nat.le_refl _)
 refine⟨_,by rw[← hw1];rfl,?_,by rw[ZP,hsz],p2.1,fun l hl=>?_,(r.step.trans p1.2).trans p2.2,by show cx.E.w.drawn≤(E1.w.alloc _).drawn;rw[hw1];exact r.drawn,r.size,?_,fun t=>((r.rep t).mono hx1).mono hx2⟩
 ·simpa using hx1.trans hx2
 ·have hl:s.nx+2≤l:=hl
  rw[ZaB _ _ _ (by omega),← hE1,ZaB _ _ _ (by omega)]
  exact r.fresh l (by omega)
 ·exact⟨_,_,rfl,⟨_,by rw[ZaB _ _ _ (by omega),← hE1];exact ZP _ _ _ _,rfl⟩,(r.df.ext hx1).ext hx2⟩
theorem ZrN {l : Nat} {k : Exit → St → Prop} {cx : Cx} {s : St} {a : Act} {E : Env} {b : Nat} {R : ZjV} (h : ZqT l k s) (r : ZcR P cx s a E) (hl : l ∉ s.mv → E.loc l = some { b := b })
 (hk:∀ e s' a' w',Inv s s'→k e s'→Rel P cx s' a' w'→R e a' w'):rangePost (fz none) 0 P b R a (.returned undef) E.w:=by
 obtain⟨nt,tmps,objs,nx,df,wr,di,mv⟩:=s
 unfold ZqT at h
 simp only at h
 split at h
 ·exact h.elim
 ·rename_i hm
  have hL:=hl (fun hmem=>by rw[ZbL.2 hmem] at hm;cases hm)
  split at h
  ·rename_i nt1 tmps1 ps1 as1 bo1 st j ho
   obtain⟨K,hK,hat⟩:=r.good.at_ l _ ho
   rw[hL] at hK;cases hK
   obtain⟨q,q1,q2,q3,q4,q5,q6,q7,q8⟩:=hat
   have hlt:b < E.w.heap.size:=(Array.getElem?_eq_some_iff.1 q1).1
   have hgr:E.w.grownBy (E.w.putObj b (.loop { q with state:=.exhausted })) (some b):=grownBy_putObj' _ _ _
   have hp:=Z7.put r.good (mv:=false) (o':=.dead) (L':={ b:=b }) ho hL hgr (fun b' e=>by cases e;exact⟨trivial,rfl⟩) (fun _=>rfl) trivial (fun h=>h.elim)
   have hbusy:st≠.busy→q.state≠.busy:=fun h e=>h (q7▸e)
   have hrel:Rel P cx ⟨nt,tmps,(l,.dead)::objs,nx,df,wr,l::di,mv⟩ a (E.w.putObj b (.loop { q with state:=.exhausted })):=by
    refine⟨_,rfl,hp.1,fun k hk=>?_,r.step.trans hp.2,r.drawn,r.size,r.df.ext hp.2.ext,fun t=>(r.rep t).mono hp.2.ext⟩
    by_cases e:k=l
    ·subst e
     have:=r.fresh k hk
     rw[hL] at this;cases this
    ·rw[ZaB _ _ _ e];exact r.fresh k hk
   have hinv:Inv ⟨nt,tmps,objs,nx,df,wr,di,mv⟩ ⟨nt,tmps,(l,.dead)::objs,nx,df,wr,l::di,mv⟩ :=
    ⟨rfl,Nat.le_refl _,fun _ h=>h,fun _ h=>List.mem_cons_of_mem _ h,fun _ h=>h,fun _ _=>rfl,fun k hk=>by
     simp only[List.mem_cons,not_or] at hk
     simp only;rw[Zl,if_neg (Ne.symm hk.1)],fun _=>rfl⟩
   split at h
   ·exact h.elim
   ·rename_i hst
    refine⟨j.code,_,by rw[← q8];exact run_endLoop q1 (hbusy fun e=>hst e),?_⟩
    cases j with
    | no=>exact hk _ _ _ _ hinv h hrel
    | ret=>exact wpIn_ret (hk _ _ _ _ hinv h hrel)
    | exit i=>exact wpIn_exit (hk _ _ _ _ hinv h hrel)
  ·exact h.elim
end
end Go.Proofs.YtgpdnmfpgkkgcaaGreatDoor
