/- Part of a proof that a law of the program holds for every input: what the functions answer, in plain Lean. No conditions. -/
import Derived.Below
import Derived.Carry
import Derived.ChangeOld
import Derived.LaidMore
import Derived.Lib.LaidTab
import Derived.OpenShut
import Derived.ProofKit
import Derived.ShutString
import Derived.SizedLaws
import Derived.Stop.Joined
import Derived.WalkKit
import Derived.Test.YtgpdnmfpgkkgcaaGreatDoorP14
namespace Go.Proofs.YtgpdnmfpgkkgcaaGreatDoor
open Go
set_option linter.unusedVariables false
abbrev Zs3:Ty:=.pair (.int .i64) (.pair (.int .i64) (.pair (.sl (.int .i64)) (.int .i64)))
def asD(T:Ty):V→Option (List T.den)
 | .d (.sl t) l=>if h:t=T then some (h▸l) else none
 | _=>none
theorem ZwZ{T:Ty}{v:V}{l:List T.den}(h:asD T v=some l):v=.d (.sl T) l:=by
 unfold asD at h
 split at h
 ·split at h
  ·rename_i e;subst e;cases h;rfl
  ·cases h
 ·cases h
theorem Ztn{k:IntKind}{v:V}{n:Int}(h:ZpR k [v]=some n):v=.d (.int k) n:=by
 unfold ZpR at h
 split at h
 ·rename_i k' m e
  cases e
  split at h
  ·rename_i e2;have:=ZlF e2;subst this;cases h;rfl
  ·cases h
 ·cases h
def Zsb(g:Nat)(vs:List V)(os:Zat):Option (List Nat×(Ty.den (.sl Zs3)×Int)×(ByteArray→Option Bool)):=match vs with
 | [p,n,.ref a 0,.ref b 0]=>match asD Zs3 p with
   | some p=>match ZpR .i64 [n] with
     | some n=>match Zv a os with
       | some (.box [.map m])=>match Zv b os with
         | some (.box [.fn (.func h) [] [.ref c 0,.ref d 0]])=>match Nat.beq h g&&(Nat.beq c a&&Nat.beq d b) with
           | true=>match Zv m os with
             | some (.smap .bool f)=>some ([a,b,m],(p,n),f)
             | _=>none
           | false=>none
         | _=>none
       | _=>none
     | none=>none
   | none=>none
 | _=>none
def Zoe(g:Nat)(os:Zat):Option (ByteArray→Option Bool):=match Zv 0 os with
 | some (.box [.map 2])=>match Zv 1 os with
   | some (.box [.fn (.func h) [] [.ref 0 0,.ref 1 0]])=>match Nat.beq h g with
     | true=>match Zv 2 os with
       | some (.smap .bool f)=>some f
       | _=>none
     | false=>none
   | _=>none
 | _=>none
def Zrw(g:Nat)(pre:Ty.den (.sl Zs3)×Int→(ByteArray→Option Bool)→Prop)(post:Ty.den (.sl Zs3)×Int→(ByteArray→Option Bool)→Bool×Int→(ByteArray→Option Bool)→Prop):ZqJ :=
 ⟨Ty.den (.sl Zs3)×Int,ByteArray→Option Bool,[.bool,.int .i64],3,fun a=>[.d (.sl Zs3) a.1,.d (.int .i64) a.2,.ref 0 0,.ref 1 0],fun f=>[(0,.box [.map 2]),(1,.box [.fn (.func g) [] [.ref 0 0,.ref 1 0]]),(2,.smap .bool f)],
  Zsb g,Zoe g,pre,post,[2,0],[2]⟩
theorem Zmg(g:Nat)(pre:Ty.den (.sl Zs3)×Int→(ByteArray→Option Bool)→Prop)(post:Ty.den (.sl Zs3)×Int→(ByteArray→Option Bool)→Bool×Int→(ByteArray→Option Bool)→Prop):(Zrw g pre post).Law where
 get:=by
  intro vs os ks a b h
  change Zsb g vs os=some (ks,a,b) at h
  unfold Zsb at h
  split at h
  ·rename_i p n A B
   split at h
   ·rename_i p' hp
    split at h
    ·rename_i n' hn
     split at h
     ·rename_i m hA
      split at h
      ·rename_i h' c d hB
       split at h
       ·rename_i hE
        split at h
        ·rename_i f hM
         cases h
         have hp:=ZwZ hp
         have hn:=Ztn hn
         subst hp hn
         rw[Bool.and_eq_true,Bool.and_eq_true] at hE
         obtain⟨e1,e2,e3⟩:=hE
         have e1:=Nat.eq_of_beq_eq_true e1
         have e2:=Nat.eq_of_beq_eq_true e2
         have e3:=Nat.eq_of_beq_eq_true e3
         subst e1 e2 e3
         have n1:c≠d:=fun e=>by subst e;rw[hA] at hB;cases hB
         have n2:m≠c:=fun e=>by subst e;rw[hA] at hM;cases hM
         have n3:m≠d:=fun e=>by subst e;rw[hB] at hM;cases hM
         have nb:∀ {x y:Nat},x≠y→Nat.beq x y=false:=fun {x y} h=>by
          cases e:Nat.beq x y with
          | false=>rfl
          | true=>exact absurd (Nat.eq_of_beq_eq_true e) h
         have b1:=nb n1
         have b2:=nb n2.symm
         have b3:=nb n3.symm
         refine⟨?_,rfl,by simp[n1,n2.symm,n3.symm],?_⟩
         ·simp[ZbR,V.subst,unF,V.key,Zp1,V.rekey,Zrw,b1]
         ·intro i l hl
          match i,hl with
          | 0,hl =>
            cases hl
            refine⟨_,hA,?_,fun h=>absurd (show 0∈[2,0] by decide) h⟩
            simp[Obj.subst,ZbR,V.subst,unF,V.key,Zp1,V.rekey,Zrw,Zv,b2,b3]
          | 1,hl =>
            cases hl
            refine⟨_,hB,?_,fun _=>?_⟩
            ·simp[Obj.subst,ZbR,V.subst,unF,V.key,Zp1,V.rekey,Zrw,Zv,b1]
            ·simp[Obj.subst,ZbR,V.subst,unF,rnF,V.key,Zp1,V.rekey,b1]
          | 2,hl =>
            cases hl
            refine⟨_,hM,rfl,fun h=>absurd (show 2∈[2,0] by decide) h⟩
          | k+3,hl=>cases hl
        ·cases h
       ·cases h
      ·cases h
     ·cases h
    ·cases h
   ·cases h
  ·cases h
 dom:=by
  intro b i o h
  show i < 3
  match i with
  | 0 | 1 | 2=>decide
  | k+3=>cases h
 back:=by
  intro os b h
  change Zoe g os=some b at h
  unfold Zoe at h
  split at h
  ·rename_i h0
   split at h
   ·rename_i h' h1
    split at h
    ·rename_i hE
     split at h
     ·rename_i f h2
      cases h
      have:=Nat.eq_of_beq_eq_true hE
      subst this
      intro i hi
      match i,hi with
      | 0,_=>exact h0
      | 1,_=>exact h1
      | 2,_=>exact h2
     ·cases h
    ·cases h
   ·cases h
  ·cases h
 same:=by
  intro b b' i hi
  match i,hi with
  | 0,hi=>exact absurd (show 0∈[2,0] by decide) hi
  | 1,_=>rfl
  | 2,hi=>exact absurd (show 2∈[2,0] by decide) hi
  | k+3,_=>rfl
 ch:=show ∀ i∈[2,0],i < 3 by decide
 mv:=show ∀ i∈[2],i∈[2,0] by decide
theorem ZtE(a:Ty.den (.sl Zs3)×Int)(b:ByteArray→Option Bool):¬ Zeu 0 a b:=fun h=>by
 have h1:(0:Int)≤a.2:=h.1.1.2.2.1
 have h2:a.2 < ((0:Nat):Int):=h.2
 omega
theorem Zup(a:Ty.den (.sl Zs3)×Int)(b:ByteArray→Option Bool)(h:ZkA a b):∃ N,Zeu N a b:=⟨a.2.toNat+1,h,by omega⟩
theorem Zs.none(x:List Zc×Int×Unit):¬ Zs.preN 0 x:=fun h=>by
 have h1:(0:Int)≤x.2.1:=h.1.2.2.1
 have h2:x.2.1 < ((0:Nat):Int):=h.2
 omega
theorem Zs.some_(x:List Zc×Int×Unit)(h:Zs.pre x):∃ N,Zs.preN N x:=⟨x.2.1.toNat+1,h,by omega⟩
end Go.Proofs.YtgpdnmfpgkkgcaaGreatDoor
namespace Go.Proofs.YtgpdnmfpgkkgcaaGreatDoor
open Go Go.ChangeAt Go.ChangeShapes Go.RowKit Go.WideShapes
set_option linter.unusedVariables false
section
def Wf:(T:Ty)→T.den→Prop
 | .int k,n=>(Lit.int k n).wf=true
 | .bool,_=>True
 | .str,s=>ByteArray.size s≤maxLen
 | .sl T,l=>List.length (α:=T.den) l≤maxLen∧∀ x∈(l:List T.den),Wf T x
 | .pair a b,x=>Wf a x.1∧Wf b x.2
 | .unit,_=>True
def Zqm(P:Program)(F:TypeId→Ty→Prop):Nat→List Field→Ty→Prop
 | o,[f],T=>f.offset=o∧P.cellsOf f.type=T.size∧F f.type T
 | o,f::fs,.pair A B=>f.offset=o∧P.cellsOf f.type=A.size∧F f.type A∧Zqm P F (o+A.size) fs B
 | _,_,_=>False
def FitT(P:Program):Nat→TypeId→Ty→Prop
 | 0,_,_=>False
 | n+1,t,T=>(match T with
   | .int k=>P.underlying t=some (.int k)
   | .bool=>P.underlying t=some .bool
   | .str=>P.underlying t=some .string
   | .sl T=>∃ e,P.underlying t=some (.slice e)∧P.cellsOf e=T.size∧0 < T.size∧FitT P n e T
   | _=>False)∨∃ fs,P.underlying t=some (.struct fs)∧P.cellsOf t=T.size∧Zqm P (FitT P n) 0 fs.toList T
section
variable {H:Type} {enc:TypeId×Value→H} {P:Program} {W:World} {held:Bool}
abbrev ZuQ(W:World):Nat→Prop:=fun b=>b < W.heap.size
theorem Zq8{α:Type}{p:Nat→α→Prop}:∀ n:Nat,(∀ i,i < n→∃ y,p i y)→∃ l:List α,l.length=n∧∀ i y,l[i]?=some y→p i y
 | 0,_=>⟨[],rfl,fun i y h=>by simp at h⟩
 | n+1,h=>by
   obtain⟨l,hl,hp⟩:=Zq8 n fun i hi=>h i (by omega)
   obtain⟨y,hy⟩:=h n (by omega)
   refine⟨l++[y],by simp[hl],fun i z hz=>?_⟩
   by_cases e:i < l.length
   ·rw[List.getElem?_append_left e] at hz;exact hp i z hz
   ·rw[List.getElem?_append_right (by omega)] at hz
    have:i=l.length:=by
     have:=(List.getElem?_eq_some_iff.1 hz).1
     simp at this;omega
    subst this
    simp at hz
    subst hz
    rw[hl];exact hy
theorem Zwt {F : TypeId → Ty → Prop} {m : Nat} (hF : ∀ t T, F t T → ∀ cs x, DataW.trod enc P W 0 (fun _ => true) held m t cs = some x → ∃ y : T.den, ZbD W (ZuQ W) T y cs ∧ Wf T y) :
 ∀ {fs:List Field} {o:Nat} {T:Ty} {cs:List Value},Zqm P F o fs T→(∀ f∈fs,∃ x,DataW.trod enc P W 0 (fun _=>true) held m f.type ((cs.drop f.offset).take (P.cellsOf f.type))=some x)→cs.length=o+T.size →
  ∃ y:T.den,ZbD W (ZuQ W) T y (cs.drop o)∧Wf T y
 | [],o,T,cs,h,_,_=>by unfold Zqm at h;exact h.elim
 | [f],o,T,cs,h,hx,hl=>by
   have h':f.offset=o∧P.cellsOf f.type=T.size∧F f.type T:=by unfold Zqm at h;exact h
   obtain⟨h1,h2,h3⟩:=h'
   obtain⟨x,hx⟩:=hx f (by simp)
   rw[h1,h2,List.take_of_length_le (by rw[List.length_drop];omega)] at hx
   exact hF _ _ h3 _ _ hx
 | f::g::fs,o,T,cs,h,hx,hl=>by
   cases T<;>unfold Zqm at h<;>try exact h.elim
   rename_i A B
   obtain⟨h1,h2,h3,h4⟩:=h
   have hl':cs.length=o+A.size+B.size:=by rw[hl];simp only[Ty.size];omega
   obtain⟨b,hb,hwb⟩:=Zwt hF (cs:=cs) h4 (fun f hf=>hx f (by simp[List.mem_cons.1 hf])) hl'
   obtain⟨x,hx⟩:=hx f (by simp)
   rw[h1,h2] at hx
   obtain⟨a,ha,hwa⟩:=hF _ _ h3 _ _ hx
   refine⟨(a,b),⟨_,_,?_,ha,hb⟩,hwa,hwb⟩
   rw[← List.drop_drop,List.take_append_drop]
theorem Zo7{base:Nat}{a:Addr}{n:Nat}{cs:List Value}(h:W.cells? base a n=some cs)(hn:0 < n):a.spot=none∧a.block < W.heap.size∧cs.length=n∧∀ j u,cs[j]?=some u→W.cell? ⟨a.block,a.off+j,none⟩=some u:=by
 obtain⟨_,hl,hc⟩:=World.cells?_some h
 have h0:=hc 0 hn
 rw[List.getElem?_eq_getElem (by omega:0 < cs.length)] at h0
 simp only[Addr.add,if_true,World.cell?] at h0
 have hs:a.spot=none∧a.block < W.heap.size:=by
  split at h0
  ·rename_i hb
   refine⟨?_,(Array.getElem?_eq_some_iff.1 hb).1⟩
   split at h0
   ·cases h0
   ·rename_i hs;simpa using hs
  ·cases h0
 refine⟨hs.1,hs.2,hl,fun j u hj=>?_⟩
 have hjl:j < n:=by rw[← hl];exact (List.getElem?_eq_some_iff.1 hj).1
 rw[← hj,← hc j hjl]
 obtain⟨b,off,sp⟩:=a
 simp only at hs
 rw[hs.1]
 unfold Addr.add
 split
 ·rename_i e;subst e;rfl
 ·rfl
theorem Zs1:∀ (n:Nat) {t:TypeId} {T:Ty},FitT P n t T→∀ (fuel:Nat) (cs:List Value) (x:DataW H×List MemPlace),DataW.trod enc P W 0 (fun _=>true) held fuel t cs=some x→∃ y:T.den,ZbD W (ZuQ W) T y cs∧Wf T y
 | 0,_,_,h,_,_,_,_=>h.elim
 | n+1,t,T,h,fuel,cs,x,hx=>by
   unfold FitT at h
   rcases h with h | ⟨fs,h1,h2,h3⟩
   ·cases T with
    | int k =>
      obtain⟨z,rfl,_,hw⟩:=DataW.trod_int h hx
      exact⟨z,rfl,hw⟩
    | bool =>
      obtain⟨z,rfl,_⟩:=DataW.trod_bool h hx
      exact⟨z,rfl,trivial⟩
    | str =>
      obtain⟨z,rfl,_,hw⟩:=DataW.trod_string h hx
      exact⟨z,rfl,hw⟩
    | sl T =>
      obtain⟨e,h1,h2,h3,h4⟩:=h
      rcases DataW.trod_slice h1 hx with ⟨rfl,_⟩ | ⟨a,len,cap,elems,rest,m,_,rfl,_,_,hl,hm,hlen,hel,_,_⟩
      ·exact⟨[],⟨none,0,rfl,⟨Nat.le_refl _,Nat.zero_le _⟩,fun h=>absurd rfl h⟩,Nat.zero_le _,fun x hx=>by cases hx⟩
      ·have each:∀ i,i < len→∃ y:T.den,(a.block < W.heap.size∧(len≠0→a.spot=none)∧∃ cs',ZbD W (ZuQ W) T y cs'∧∀ j u,cs'[j]?=some u→W.cell? ⟨a.block,a.off+i*T.size+j,none⟩=some u)∧Wf T y:=by
        intro i hi
        have h5:=hel i hi
        rw[List.getElem?_eq_getElem (by omega:i < elems.length),Option.bind_eq_some_iff] at h5
        obtain⟨cs',h6,h7⟩:=h5
        rw[h2] at h6
        obtain⟨y,hy,hw⟩:=Zs1 n h4 _ _ _ h7
        obtain⟨k1,k2,k3,k4⟩:=Zo7 h6 h3
        have hb:(a.add (i*T.size)).block=a.block:=by unfold Addr.add;split<;>rfl
        have ho:(a.add (i*T.size)).off=a.off+i*T.size:=by
         unfold Addr.add
         split
         ·rename_i e;rw[e];rfl
         ·rfl
        rw[hb,ho] at k4
        rw[hb] at k2
        refine⟨y,⟨k2,fun _=>?_,cs',hy,k4⟩,hw⟩
        have h50:=hel 0 (by omega)
        rw[List.getElem?_eq_getElem (by omega:0 < elems.length),Option.bind_eq_some_iff] at h50
        obtain⟨cs0,h60,_⟩:=h50
        rw[h2] at h60
        have:=(Zo7 h60 h3).1
        simpa[Addr.add] using this
       obtain⟨l,hll,hlp⟩:=Zq8 len each
       refine⟨l,⟨some a,cap,by rw[hll],⟨by rw[hll];exact hl,hm⟩,fun hne=>?_⟩,by show l.length≤maxLen;omega,fun y hy=>?_⟩
       ·have hpos:0 < len:=by rw[← hll];exact List.length_pos_iff.2 hne
        obtain⟨y0,⟨hb,hs,_⟩,_⟩:=each 0 hpos
        refine⟨a.block,a.off,?_,hb,fun i x hi=>?_⟩
        ·have:=hs (by omega)
         obtain⟨b,off,sp⟩:=a
         simp only at this
         rw[this]
        ·obtain⟨⟨_,_,cs',h8,h9⟩,_⟩:=hlp i x hi
         exact⟨cs',h8,h9⟩
       ·obtain⟨i,hi⟩:=List.getElem?_of_mem hy
        exact (hlp i y hi).2
    | pair a b=>exact h.elim
    | unit=>exact h.elim
   ·obtain⟨xs,m,rfl,_,h4,h5,h6⟩:=DataW.trod_struct h1 hx
    have:=Zwt (m:=m) (fun t T hF cs x hx=>Zs1 n hF m cs x hx) (cs:=cs) h3 (fun f hf=>by
     obtain⟨i,hi⟩:=List.getElem?_of_mem hf
     have hi':fs[i]?=some f:=by simpa using hi
     have:=h6 i f hi'
     have hlt:i < xs.length:=by rw[h5];exact (Array.getElem?_eq_some_iff.1 hi').1
     exact⟨xs[i],by rw[this,List.getElem?_eq_getElem hlt]⟩) (by rw[Nat.zero_add,h4,h2])
    simpa using this
def ZtD(W:World):Env:=⟨W,ZuQ W,fun _=>none⟩
theorem arg_agg {n : Nat} {t : TypeId} {a b : Ty} {v : Value} {d : DataW H} {p : List MemPlace} (hf : FitT P n t (.pair a b)) (h : DataW.Trod enc P W 0 (fun _ => true) held t v d p) {fs : Array Field} {r : Reach} {base : Nat} (ht : P.underlying t = some (.struct fs)) (hk : Value.okWide P W r base t v) :
 ∃ y:(Ty.pair a b).den,Rep P (ZtD W) (ZqK (.pair a b) y) v∧Wf (.pair a b) y:=by
 obtain⟨cs,rfl,_⟩:=okWide_struct ht hk
 obtain⟨fuel,h⟩:=h
 obtain⟨y,hy,hw⟩:=Zs1 n hf _ _ _ h
 have hr:=ZdS (P:=P) (E:=ZtD W) hy
 refine⟨y,.agg ?_ fun j hj=>?_,hw⟩
 ·have:=hr.1;simpa[Value.cells] using this
 ·have:=hr.2 j hj
  simpa[Value.cells,Array.getD_eq_getD_getElem?,List.getD_eq_getElem?_getD] using this
theorem sok_of {g : Nat} (hg : P.globalNamed "internal/strconv.uint64pow10" = some g) (h : Lib.TabIs P W "internal/strconv.uint64pow10" .u64 Lib.pow10Tab) : Sok P W (ZuQ W) := by
 refine⟨fun b hb=>hb,g,?_,fun w' hw'=>?_⟩
 ·unfold Lib.TabIs World.var? at h
  rw[hg] at h
  simp only[Option.bind_some] at h
  split at h
  ·rename_i hb;exact (Array.getElem?_eq_some_iff.1 hb).1
  ·cases h
 ·unfold Lib.TabIs World.var? at h ⊢
  rw[hg] at h ⊢
  simp only[Option.bind_some] at h ⊢
  rw[hw'];exact h
theorem Zq6 {τ : Zar} (hτ : Zbs P τ) {run : ZiQ} (hrun : Zct P run) {A : An} {f : FuncId} {fi : FI} (hok : fi.Ok P f) {ps : List PS} {xs : Zcs ps} {C : Prop} (hw : C = fnW τ run A fi ps [.bool] xs fun r => r = true) (h : C) (hS : Sok P W (ZuQ W)) {args : Array Value} (hr : Zby P (ZtD W) (Zj2 ps xs) args.toList) :
 Calls P f args W fun e w'=>e=.returned (.bool true)∧Below W.heap.size W w':=by
 subst hw
 refine (ZmF hτ hrun hok h hS hr).mono ?_
 rintro e w' ⟨v,S2,r,rfl,hg,hv,rfl⟩
 have hv':Rep P ⟨w',S2,fun _=>none⟩ (.d .bool true) v:=hv
 refine⟨?_,hg.os,hg.tape,hg.output,hg.size,fun k hk=>hg.frame k hk⟩
 cases hv' with | d h=>rw[(List.cons.inj (show [v]=[Value.bool true] from h)).1]
end
end
end Go.Proofs.YtgpdnmfpgkkgcaaGreatDoor
