/- Part of a proof that a law of the program holds for every input: how abstract states follow the program. No conditions. -/
import Derived.Laws.BytesString
import Derived.Lib.AppendStr
import Derived.MapKept
import Derived.Test.YtgpdnmfpgkkgcaaGreatDoorF00
namespace Go.Proofs.YtgpdnmfpgkkgcaaGreatDoor
open Go
set_option linter.unusedVariables false
section
variable {P:Program} {τ:Zar} {E:Env} {os objs:Zat} {n:Nat}
theorem ZkH {T : Ty} : ∀ {parts : List (Nat × V)} {vals : List (Nat × Value)} {n : Nat} {xs : List T.den}, ZiD T n parts = some xs →
 parts.map (·.1)=vals.map (·.1)→(∀ (j:Nat) (p:Nat×V) (q:Nat×Value),parts[j]?=some p→vals[j]?=some q→Rep P E p.2 q.2) →
 xs.length=parts.length∧∃ cs,Z3 E.w E.S T xs cs∧∀ (cells:Array Value),n*T.size+parts.length*T.size≤cells.size →
  Instr.fill (fun i=>some (i*T.size,T.size)) cells vals=some (cells.toList.take (n*T.size)++cs++cells.toList.drop (n*T.size+cs.length)).toArray
 | [],vals,n,xs,h,hm,_=>by
   have:vals=[]:=by simpa using hm.symm
   subst this
   simp only[ZiD,Option.some.injEq] at h
   subst h
   exact⟨rfl,[],rfl,fun cells _=>by simp[Instr.fill]⟩
 | (i,v)::parts,[],n,xs,h,hm,_=>by simp at hm
 | (i,v)::parts,(i',c)::vals,n,xs,h,hm,hr=>by
   simp only[List.map_cons,List.cons.injEq] at hm
   obtain⟨rfl,hm⟩:=hm
   simp only[ZiD] at h
   split at h
   ·rename_i hi
    have hi:=Nat.eq_of_beq_eq_true hi
    subst hi
    split at h
    ·rename_i new hn
     split at h
     ·rename_i x hp
      split at h
      ·rename_i l hl
       cases h
       have hc:=Zcg hp (Zez hn (hr 0 _ _ rfl rfl)).1
       obtain⟨h1,cs,h2,h3⟩:=ZkH (vals:=vals) hl hm (fun j p q hp hq=>hr (j+1) p q (by simpa using hp) (by simpa using hq))
       have hcl:=hc.length
       have hcsl:=h2.length
       refine⟨by simp[h1],c.cells.toList++cs,⟨_,_,rfl,hc,h2⟩,fun cells hfit=>?_⟩
       have hmul:(i+1)*T.size=i*T.size+T.size:=Nat.succ_mul _ _
       have hmul2:(parts.length+1)*T.size=parts.length*T.size+T.size:=Nat.succ_mul _ _
       simp only[List.length_cons] at hfit
       rw[Zi0 (off:=i*T.size) (size:=T.size) rfl hcl (by omega),h3 _ (by simp only[List.size_toArray,List.length_append,List.length_take,List.length_drop,Array.length_toList] at hcl ⊢;omega)]
       congr 2
       have hcsl':cs.length=parts.length*T.size:=by rw[hcsl,h1]
       apply List.ext_getElem?
       intro k
       have hA:(cells.toList.take (i*T.size)++c.cells.toList++cells.toList.drop (i*T.size+c.cells.toList.length)).length=cells.size:=by
        simp only[List.length_append,List.length_take,List.length_drop,Array.length_toList] at hcl ⊢;omega
       have s1:=ZbO (A:=cells.toList.take (i*T.size)++c.cells.toList++cells.toList.drop (i*T.size+c.cells.toList.length)) (vs:=cs) (o:=(i+1)*T.size) (by rw[hA];omega) k
       have s2:=ZbO (A:=cells.toList) (vs:=c.cells.toList) (o:=i*T.size) (by simp only[Array.length_toList] at hcl ⊢;omega) k
       have s3:=ZbO (A:=cells.toList) (vs:=c.cells.toList++cs) (o:=i*T.size) (by simp only[List.length_append,Array.length_toList] at hcl ⊢;omega) k
       rw[s1,s2,s3]
       simp only[List.length_append] at hcl ⊢
       by_cases c1:k < i*T.size
       ·rw[if_pos (by omega),if_pos c1,if_pos c1]
       ·by_cases c2:k < i*T.size+T.size
        ·rw[if_pos (by omega),if_neg c1,if_pos (by omega),if_neg c1,if_pos (by omega),List.getElem?_append_left (by omega)]
        ·rw[if_neg (by omega)]
         by_cases c3:k < (i+1)*T.size+cs.length
         ·rw[if_pos c3,if_neg c1,if_pos (by omega),List.getElem?_append_right (by omega)]
          congr 1;omega
         ·rw[if_neg c3,if_neg c1,if_neg (by omega),if_neg c1,if_neg (by omega)]
      ·cases h
     ·cases h
    ·cases h
   ·cases h
theorem ZkG : ∀ {parts : List (Nat × V)} {vals : List (Nat × Value)} {n : Nat} {cs : List V}, cellsOf n parts = some cs →
 parts.map (·.1)=vals.map (·.1)→(∀ (j:Nat) (p:Nat×V) (q:Nat×Value),parts[j]?=some p→vals[j]?=some q→Rep P E p.2 q.2) →
 cs.length=parts.length∧∃ us,Zby P E cs us∧∀ (cells:Array Value),n+parts.length≤cells.size →
  Instr.fill (fun i=>some (i*1,1)) cells vals=some (cells.toList.take n++us++cells.toList.drop (n+us.length)).toArray
 | [],vals,n,cs,h,hm,_=>by
   have:vals=[]:=by simpa using hm.symm
   subst this
   simp only[cellsOf,Option.some.injEq] at h
   subst h
   exact⟨rfl,[],.nil,fun cells _=>by simp[Instr.fill]⟩
 | (i,v)::parts,[],n,cs,h,hm,_=>by simp at hm
 | (i,v)::parts,(i',c)::vals,n,cs,h,hm,hr=>by
   simp only[List.map_cons,List.cons.injEq] at hm
   obtain⟨rfl,hm⟩:=hm
   simp only[cellsOf] at h
   split at h
   ·rename_i hi
    have hi:=Nat.eq_of_beq_eq_true hi
    subst hi
    split at h
    ·rename_i hv
     split at h
     ·rename_i l hl
      cases h
      have rc:=hr 0 _ _ rfl rfl
      have hone:=ZeL hv rc
      have hcc:=ZeP hone
      obtain⟨h1,us,h2,h3⟩:=ZkG (vals:=vals) hl hm (fun j p q hp hq=>hr (j+1) p q (by simpa using hp) (by simpa using hq))
      have hul:us.length=parts.length:=h2.1.trans h1
      refine⟨by simp[h1],c::us,.cons rc h2,fun cells hfit=>?_⟩
      simp only[List.length_cons] at hfit
      rw[Zi0 (off:=i*1) (size:=1) rfl (by rw[hcc];rfl) (by omega),h3 _ (by rw[hcc];simp only[List.size_toArray,List.length_append,List.length_take,List.length_drop,Array.length_toList,List.length_cons,List.length_nil];omega)]
      congr 2
      rw[hcc,Nat.mul_one]
      apply List.ext_getElem?
      intro k
      have s1:=ZbO (A:=cells.toList.take i++[c]++cells.toList.drop (i+[c].length)) (vs:=us) (o:=i+1) (by simp only[List.length_append,List.length_take,List.length_drop,Array.length_toList,List.length_cons,List.length_nil];omega) k
      have s2:=ZbO (A:=cells.toList) (vs:=[c]) (o:=i) (by simp;omega) k
      have s3:=ZbO (A:=cells.toList) (vs:=c::us) (o:=i) (by simp;omega) k
      simp only[List.length_cons,List.length_nil,Nat.zero_add] at s1 s2 s3 ⊢
      rw[s1,s2,s3]
      by_cases c1:k < i
      ·rw[if_pos (by omega),if_pos c1,if_pos c1]
      ·by_cases c2:k < i+1
       ·rw[if_pos c2,if_neg c1,if_pos c2,if_neg c1,if_pos (by omega)]
        have:k - i=0:=by omega
        rw[this];rfl
       ·rw[if_neg c2]
        by_cases c3:k < i+1+us.length
        ·rw[if_pos c3,if_neg c1,if_pos (by omega)]
         have:k - i=(k - (i+1))+1:=by omega
         rw[this];rfl
        ·rw[if_neg c3,if_neg c1,if_neg c2,if_neg c1,if_neg (by omega)]
     ·cases h
    ·cases h
   ·cases h
theorem Zsa {t e : TypeId} {info : TypeInfo} {z : Value} {len sz : Nat} {vals : Array (Nat × Value)} {cs : List Value} (ht : P.underlying t = some (.slice e)) (hi : P.info? e = some info) (hz : info.zero = some z) (hs : info.size = sz)
 (hsmall:len*sz≤16777216) (hf:∀ cells:Array Value,cells.size=len*sz→Instr.fill (fun i=>some (i*sz,sz)) cells vals.toList=some cs.toArray) (w:World) :
 (Instr.buildSlice t len vals).run P w=.ok (.slice (some ⟨w.heap.size,0,none⟩) len len) (w.alloc (.cells cs.toArray e)):=by
 subst hs
 have hns:¬ len*info.size > 2 ^ 24:=by omega
 by_cases hz0:len*info.size=0
 ·have h5:=hf #[] (by simp[hz0])
  have e2:(Array.range (len*info.size)).map (fun x=>(#[]:Array Value)[x % (#[]:Array Value).size]!)=#[]:=by rw[hz0];apply Array.eq_empty_of_size_eq_zero;simp
  simp only[Instr.buildSlice,Sem.run_bind,run_underlying ht,Result.andThen_ok,ZbN hi,if_neg hns,Sem.run_ite,if_pos hz0,Sem.run_pure,e2,h5]
  simp[newRow]
 ·have h5:=hf ((Array.range (len*info.size)).map (z.cells[· % z.cells.size]!)) (by simp)
  simp[Instr.buildSlice,run_underlying ht,ZbN hi,hns,hz0,ZdW hi hz,h5,newRow]
theorem Zh2 (hτ : Zbs P τ) {t : TypeId} {len : Nat} {parts : List (Nat × V)} {vals : Array (Nat × Value)} {out : Out} (h : Zey τ n t len parts = some out) (g : Z7 P E objs) (hf : E.loc n = none)
 (hm:parts.map (·.1)=vals.toList.map (·.1)) (hr:∀ (j:Nat) (p:Nat×V) (q:Nat×Value),parts[j]?=some p→vals.toList[j]?=some q→Rep P E p.2 q.2):ZdH P (Instr.buildSlice t len vals) E objs out:=by
 unfold Zey at h
 split at h
 ·rename_i e sz by_ zero co hti
  have ht:P.underlying t=some (.slice e):=(hτ t _ hti).kind
  split at h
  ·rename_i k size bytes zero' T hei
   have hei:=hτ e _ hei
   split at h
   ·rename_i hc
    simp only[Bool.and_eq_true] at hc
    have hlen:=Nat.eq_of_beq_eq_true hc.1
    have hsmall:=Nat.le_of_ble_eq_true hc.2
    split at h
    ·rename_i xs h1
     cases h
     obtain⟨hTs,hpos,_⟩:=hei.code T rfl
     have hTs:T.size=size:=hTs
     have hpos:0 < T.size:=by rw[hTs];exact hpos
     obtain⟨info,z,hi,hs,hb,hz,hzl,hzs⟩:=hei.info
     obtain⟨h2,cs,h3,h4⟩:=ZkH (vals:=vals.toList) h1 hm hr
     have hcl:=h3.length
     have hrun:=Zsa (P:=P) (vals:=vals) (cs:=cs) (len:=len) (sz:=T.size) ht hi hz (by rw[hs];exact hTs.symm) (by rw[hTs];exact hsmall) (fun cells hcs=>by
      rw[h4 cells (by rw[hcs,hlen];omega),Nat.zero_mul,Nat.zero_add,List.drop_of_length_le (by rw[Array.length_toList,hcs,hcl,h2,hlen];exact Nat.le_refl _)]
      simp) E.w
     have hone:xs.length*1≤xs.length*T.size:=Nat.mul_le_mul_left _ hpos
     have hmul:len*size=xs.length*T.size:=by rw[h2,hlen,hTs]
     obtain⟨E',hw,g1,g2,g3⟩:=ZgZ g hf (xs:=xs) (w:=E.w.alloc (.cells cs.toArray e)) (cur:=cs.toArray) (e:=e) (cap:=xs.length) (World.grownBy_alloc _ _ _) (heap_alloc_new _ _)
      hpos (Nat.le_refl _) (by unfold maxLen;omega) (by simp[hcl]) h3 (by rw[← hcl];simp)
     refine⟨E',_,by rw[hw];exact hrun,g1,g2,?_⟩
     have e1:xs.length=len:=by rw[h2,hlen]
     rw[e1] at g3
     exact .osl g3
    ·cases h
   ·cases h
  ·rename_i k size bytes zero' hei
   have hei:=hτ e _ hei
   split at h
   ·rename_i hc
    simp only[Bool.and_eq_true] at hc
    obtain⟨⟨⟨hc1,hc2⟩,hc3⟩,hc4⟩:=hc
    have hlen:=Nat.eq_of_beq_eq_true hc1
    have hsmall:=Nat.le_of_ble_eq_true hc2
    have hsz:=Nat.eq_of_beq_eq_true hc3
    split at h
    ·rename_i cs h1
     cases h
     obtain⟨info,z,hi,hs,hb,hz,hzl,hzs⟩:=hei.info
     obtain⟨h2,us,h3,h4⟩:=ZkG (vals:=vals.toList) h1 hm hr
     have hrun:=Zsa (P:=P) (vals:=vals) (cs:=us) (len:=len) (sz:=1) ht hi hz (by rw[hs];exact hsz) (by omega) (fun cells hcs=>by
      rw[h4 cells (by omega),Nat.zero_add,List.drop_of_length_le (by rw[Array.length_toList,hcs,h3.1,h2,hlen];omega)]
      simp) E.w
     obtain⟨E',hw,g1,g2,g3⟩:=Zgt g hf (t:=e) (cs:=cs) (vals:=us.toArray) (by simpa using h3)
     exact⟨E',_,by rw[hw];exact hrun,g1,g2,.bsl g3⟩
    ·cases h
   ·cases h
  ·cases h
 ·cases h
theorem Ziy{z:Array Value}{n c:Nat}(hz:0 < z.size)(h:n≤c):(madeCells z (c*z.size)).toList.take (n*z.size)=(List.replicate n z.toList).flatten:=by
 have hl:n*z.size≤c*z.size:=Nat.mul_le_mul_right _ h
 have key:∀ n k,k < n*z.size→(List.replicate n z.toList).flatten[k]?=some z[k % z.size]!:=by
  intro n
  induction n with
  | zero=>intro k hk;simp at hk
  | succ n ih =>
    intro k hk
    rw[List.replicate_succ,List.flatten_cons]
    rcases Nat.lt_or_ge k z.size with h1 | h1
    ·rw[List.getElem?_append_left (by simpa using h1),Nat.mod_eq_of_lt h1]
     simp[h1]
    ·rw[List.getElem?_append_right (by simpa using h1),Array.length_toList,ih _ (by rw[Nat.succ_mul] at hk;omega),Nat.mod_eq_sub_mod h1]
 have hfl:∀ n,(List.replicate n z.toList).flatten.length=n*z.size:=by intro n;simp
 apply List.ext_getElem?
 intro k
 rw[List.getElem?_take]
 split
 ·rename_i hk
  rw[key n k hk]
  simp only[madeCells,Array.getElem?_toList,Array.getElem?_map]
  rw[Array.getElem?_range,if_pos (by omega)]
  rfl
 ·rw[List.getElem?_eq_none (by rw[hfl];omega)]
theorem Zjn (hτ : Zbs P τ) {t : TypeId} {l c : V} {out : Out} (h : Zfc τ n t l c = some out) (ho : okP out.ob) (g : Z7 P E objs) (hf : E.loc n = none) {l' c' : Value} (rl : Rep P E l l') (rc : Rep P E c c') :
 ZdH P (Instr.makeSlice t l' c') E objs out:=by
 unfold Zfc at h
 split at h
 ·rename_i e sz by_ zero co hti
  have ht:P.underlying t=some (.slice e):=(hτ t _ hti).kind
  split at h
  ·rename_i l0
   obtain⟨l,hl0⟩:∃ l:Int,l=l0:=⟨l0,rfl⟩
   subst hl0
   have hl:=rl.int_inv
   subst hl
   split at h
   ·rename_i c0
    obtain⟨c,hc0⟩:∃ c:Int,c=c0:=⟨c0,rfl⟩
    subst hc0
    have hc:=rc.int_inv
    subst hc
    split at h
    ·rename_i k size bytes zero' T hei
     have hei:=hτ e _ hei
     cases h
     obtain⟨h0,hlc,hby,hmax⟩:0≤l∧l≤c∧c*bytes≤140737488355328∧c≤9223372036854775807:=ho
     obtain⟨hTs,hpos,hz0⟩:=hei.code T rfl
     have hTs:T.size=size:=hTs
     have hpos:0 < T.size:=by rw[hTs];exact hpos
     obtain⟨info,z,hi,hs,hb,hz,hzl,hzs⟩:=hei.info
     have hs:info.size=size:=hs
     have hb:info.bytes=bytes:=hb
     have hzl:z.cells.toList=zero':=hzl
     have hzs:z.cells.size=size:=hzs
     have hrun:=run_make (P:=P) E.w t e info z ht hi hz .i64 .i64 l c h0 hlc (by rw[hb,Int.mul_comm];omega) hmax
     have hzz:z.cells.size=T.size:=by rw[hzs,hTs]
     have hlc':l.toNat≤c.toNat:=by omega
     have plain:ZdH P (Instr.makeSlice t (.int .i64 l) (.int .i64 c)) E objs ⟨some (0≤l∧l≤c∧c*bytes≤140737488355328∧c≤9223372036854775807),.osl n,some (n,.row T (List.replicate l.toNat T.dflt),false)⟩:=by
      obtain⟨E',hw,g1,g2,g3⟩:=ZgZ g hf (xs:=List.replicate l.toNat T.dflt) (w:=E.w.alloc (.cells (madeCells z.cells (c.toNat*info.size)) e)) (cur:=madeCells z.cells (c.toNat*info.size)) (e:=e) (cap:=c.toNat)
       (World.grownBy_alloc _ _ _) (heap_alloc_new _ _) hpos (by simpa using hlc') (by unfold maxLen;omega) (by rw[size_madeCells,hs,hTs]) (Zb6 (hz0 E.w E.S) l.toNat) (by
        rw[List.length_replicate,hs,← hTs,← hzz,Ziy (by omega) hlc',← hzl])
      refine⟨E',_,by rw[hw];exact hrun,g1,g2,?_⟩
      rw[List.length_replicate] at g3
      exact .osl g3
     cases T with
     | sl u =>
       unfold ZsR
       split
       ·rename_i u' hu
        cases hu
        split
        ·split
         ·have hs1:info.size=1:=hs.trans hTs.symm
          have hc0:z.cells.toList=[.slice none 0 0]:=hzl
          have hza:z.cells=#[.slice none 0 0]:=by rw[← Array.toArray_toList (xs:=z.cells),hc0]
          obtain⟨E',hw,g1,g2,g3⟩:=Zr3 (T:=u) (m:=l.toNat) g hf (w:=E.w.alloc (.cells (madeCells z.cells (c.toNat*info.size)) e)) (cur:=madeCells z.cells (c.toNat*info.size)) (e:=e) (cap:=c.toNat)
           (World.grownBy_alloc _ _ _) (heap_alloc_new _ _) hlc' (by unfold maxLen;omega) (by rw[size_madeCells,hs1,Nat.mul_one]) (fun i hi=>by
            rw[hza,hs1,Nat.mul_one]
            simp only[madeCells,Array.getElem?_map]
            rw[Array.getElem?_range,if_pos (by omega)]
            simp[Nat.mod_one])
          exact⟨E',_,by rw[hw];exact hrun,g1,g2,.osl g3⟩
         ·exact plain
        ·exact plain
       ·rename_i hn;exact absurd rfl (hn u)
     | _=>exact plain
    ·cases h
   ·cases h
  ·cases h
 ·cases h
def ZdJ(w:World)(size m:Nat)(news:List Value)(c:Value):Prop :=
 news.length=m*size∧((∃ a cap,c=.slice a m cap∧(0 < m→∃ ad,a=some ad∧∀ j v,news[j]?=some v→w.cell? (ad.add j)=some v))∨∃ s:ByteArray,c=.string s∧m=s.size∧news=Lib.strCells s)
theorem ZdJ.lenOf{w:World}{size m:Nat}{news:List Value}{c:Value}(h:ZdJ w size m news c)(w':World):(Builtin.lenOf c).run P w'=.ok m w':=by
 obtain⟨h1,⟨a,cap,rfl,h2⟩ | ⟨s,rfl,rfl,h2⟩⟩:=h<;>simp[Builtin.lenOf]
theorem ZdJ.run {w : World} {size m : Nat} {news : List Value} {c : Value} (h : ZdJ w size m news c) {w' : World} (hw : w'.heap = w.heap) :
 (Builtin.firstCells size m c).run P w'=.ok news.toArray w':=by
 obtain⟨h1,⟨a,cap,rfl,h2⟩ | ⟨s,rfl,rfl,rfl⟩⟩:=h
 ·by_cases hm:0 < m
  ·obtain⟨ad,rfl,h3⟩:=h2 hm
   exact run_firstCells_some (P:=P) w' size m ad m cap news h1 (fun j v hj=>by rw[show w'.cell? (ad.add j)=w.cell? (ad.add j) from by simp only[World.cell?,hw]];exact h3 j v hj)
  ·have h0:m=0:=by omega
   subst h0
   have hn:news=[]:=List.eq_nil_of_length_eq_zero (by omega)
   subst hn
   cases a with
   | none=>simp[Builtin.firstCells]
   | some ad=>simp[Builtin.firstCells,loadCells,loadCellsFrom]
 ·exact Lib.run_firstCells_string w' size s
theorem Zuu{T:Ty}{l:List T.den}{c:Value}(h:ZbD E.w E.S (.sl T) l [c]):∃ cs,Z3 E.w E.S T l cs∧ZdJ E.w T.size l.length cs c:=by
 obtain⟨a,cap,hc,hcap,hl⟩:=h
 have hc':c=.slice a l.length cap:=by simpa using hc
 subst hc'
 by_cases hne:l=[]
 ·subst hne
  exact⟨[],rfl,by simp,.inl ⟨a,cap,rfl,fun h=>by simp at h⟩⟩
 ·obtain⟨b,off,rfl,hS,hx⟩:=hl hne
  have:∀ (l':List T.den) (k:Nat),(∀ i x,l'[i]?=some x→l[k+i]?=some x)→∃ cs,Z3 E.w E.S T l' cs∧∀ j u,cs[j]?=some u→E.w.cell? ⟨b,off+k*T.size+j,none⟩=some u:=by
   intro l'
   induction l' with
   | nil=>intro k _;exact⟨[],rfl,fun j u h=>by simp at h⟩
   | cons x l' ih =>
     intro k hk
     obtain⟨cs',h1,h2⟩:=hx k x (hk 0 x rfl)
     obtain⟨cs,h3,h4⟩:=ih (k+1) (fun i y hy=>by rw[show k+1+i=k+(i+1) from by omega];exact hk (i+1) y (by simpa using hy))
     have hl1:=h1.length
     refine⟨cs'++cs,⟨cs',cs,rfl,h1,h3⟩,fun j u hj=>?_⟩
     rcases Nat.lt_or_ge j cs'.length with hlt | hge
     ·rw[List.getElem?_append_left hlt] at hj;exact h2 j u hj
     ·rw[List.getElem?_append_right hge] at hj
      have:=h4 _ u hj
      rw[Nat.succ_mul] at this
      rw[← this];congr 2;omega
  obtain⟨cs,h1,h2⟩:=this l 0 (fun i x h=>by simpa using h)
  refine⟨cs,h1,h1.length,.inl ⟨_,cap,rfl,fun _=>⟨_,rfl,fun j v hj=>?_⟩⟩⟩
  rw[Addr.add_lit]
  simpa using h2 j v hj
theorem Z3.take{w:World}{S:Nat→Prop}{t:Ty}:∀ {l:List t.den} {cs:List Value} (n:Nat),Z3 w S t l cs→Z3 w S t (l.take n) (cs.take (n*t.size))
 | l,cs,0,_=>by simp[Z3]
 | [],cs,n+1,h=>by rw[show cs=[] from h];simp[Z3]
 | x::l,cs,n+1,⟨c1,c2,h,h1,h2⟩=>by
   have hl:=h1.length
   refine⟨c1,c2.take (n*t.size),?_,h1,h2.take n⟩
   rw[h,Nat.succ_mul,← hl,Nat.add_comm,List.take_length_add_append,hl]
theorem Z3.drop{w:World}{S:Nat→Prop}{t:Ty}:∀ {l:List t.den} {cs:List Value} (n:Nat),Z3 w S t l cs→Z3 w S t (l.drop n) (cs.drop (n*t.size))
 | l,cs,0,h=>by simpa using h
 | [],cs,n+1,h=>by rw[show cs=[] from h];simp[Z3]
 | x::l,cs,n+1,⟨c1,c2,h,h1,h2⟩=>by
   have hl:=h1.length
   rw[h,Nat.succ_mul,← hl,show n*c1.length+c1.length=c1.length+n*c1.length from Nat.add_comm _ _,List.drop_length_add_append,hl]
   exact h2.drop n
theorem ZnU{L:Loc}{T:Ty}{xs:List T.den}(h:ZaM P E L (.row T xs)){lo m:Nat}(hlo:lo+m≤xs.length){c:Value}(hp:L.Part lo m c):∃ cs,Z3 E.w E.S T ((xs.drop lo).take m) cs∧ZdJ E.w T.size m cs c:=by
 obtain⟨hesz,hpos,hlen,e,cs,h9,h10⟩:=id h
 have hdl:((xs.drop lo).take m).length=m:=by simp;omega
 rcases h10 with ⟨hc,rfl⟩ | ⟨cur,hv1,hv2,hv3,hv4,hv5,hv6,hv7⟩
 ·have hm:m=0:=by simp at hlo;omega
  subst hm
  obtain⟨a,rfl,_⟩:=hp
  exact⟨[],by simp[Z3],by simp,.inl ⟨_,_,rfl,fun h=>by omega⟩⟩
 ·refine⟨(cs.drop (lo*T.size)).take (m*T.size),(h9.drop lo).take m,by have:=((h9.drop lo).take m).length;rw[hdl] at this;exact this,.inl ?_⟩
  by_cases hm:m=0
  ·subst hm
   obtain⟨a,rfl,_⟩:=hp
   exact⟨_,_,rfl,fun h=>by omega⟩
  ·rw[Zlp h hlo (by omega) hp]
   refine⟨_,_,rfl,fun _=>⟨_,rfl,fun j v hj=>?_⟩⟩
   rw[List.getElem?_take] at hj
   split at hj
   ·rename_i hjm
    rw[List.getElem?_drop] at hj
    rw[Addr.add_lit,ZcZ hv2]
    rw[← hv7,List.getElem?_take] at hj
    split at hj
    ·simpa using hj
    ·cases hj
   ·cases hj
theorem ZiW{L:Loc}{T:Ty}{xs:List T.den}(h:ZaM P E L (.row T xs)):L.Part 0 xs.length L.v:=by
 have hlen:=h.2.2.1
 obtain⟨_,_,_,e,cs,h9,h10⟩:=h
 refine⟨L.a,by rw[Loc.v,hlen];rfl,fun hc=>?_⟩
 rcases h10 with ⟨h0,rfl⟩ | ⟨cur,hv1,hv2,hv3,hv4,_⟩
 ·exact absurd h0 hc
 ·simp[hv1,Addr.add_lit]
theorem ZoG{L:Loc}{T:Ty}{xs:List T.den}(h:ZaM P E L (.row T xs)):∃ cs,Z3 E.w E.S T xs cs∧ZdJ E.w T.size xs.length cs L.v:=by
 have:=ZnU h (lo:=0) (m:=xs.length) (by omega) (ZiW h)
 rw[List.drop_zero,List.take_length] at this
 exact this
theorem Zo2 {T : Ty} {x : V} {ys : List T.den} {p : Option Prop} (h : Zui T os x = some (ys, p)) (hs : Sub os objs) (hp : okP p) (g : Z7 P E objs) {c : Value} (r : Rep P E x c) :
 (∃ cs,Z3 E.w E.S T ys cs∧ZdJ E.w T.size ys.length cs c)∧∃ a m cap,c=.slice a m cap:=by
 unfold Zui at h
 split at h
 ·rename_i l
  split at h
  ·rename_i t xs hcs
   split at h
   ·rename_i ht
    subst ht
    cases h
    obtain⟨L,hL,_,hat⟩:=g.get hs hcs
    obtain⟨K,hK,rfl⟩:=Zcf r
    rw[hL] at hK;cases hK
    exact⟨ZoG hat,_,_,_,rfl⟩
   ·cases h
  ·cases h
 ·rename_i l lo m
  split at h
  ·rename_i t xs hcs
   split at h
   ·rename_i ht
    subst ht
    cases h
    have hp:lo+m≤xs.length:=hp
    obtain⟨L,hL,_,hat⟩:=g.get hs hcs
    obtain⟨K,hK,hpt⟩:=Zdu r
    rw[hL] at hK;cases hK
    have hdl:((xs.drop lo).take m).length=m:=by simp;omega
    simp only[hdl]
    refine⟨ZnU hat hp hpt,?_⟩
    obtain⟨a,rfl,_⟩:=hpt
    exact⟨_,_,_,rfl⟩
   ·cases h
  ·cases h
 ·split at h
  ·rename_i l hl
   cases h
   have hc:=Zo0 hl r
   refine⟨Zuu hc,?_⟩
   obtain⟨a,cap,h,_⟩:=hc
   exact⟨a,_,cap,by simpa using h⟩
  ·cases h
theorem ZpF{T:Ty}{x:V}{ys:List T.den}{p:Option Prop}(h:Zvr T os x=some (ys,p))(hs:Sub os objs)(hp:okP p)(g:Z7 P E objs){c:Value}(r:Rep P E x c):∃ cs,Z3 E.w E.S T ys cs∧ZdJ E.w T.size ys.length cs c:=by
 unfold Zvr at h
 split at h
 ·rename_i s
  split at h
  ·cases h
   rw[r.str_inv]
   have hl:(ZdY s).length=ByteArray.size s:=by simp only[ZdY,List.length_map,Array.length_toList];rfl
   refine⟨Lib.strCells s,?_,by simp[Lib.strCells_length,Ty.size,hl],.inr ⟨s,rfl,hl,rfl⟩⟩
   have:∀ l:List UInt8,Z3 E.w E.S (.int .u8) (l.map fun b=>(b.toNat:Int)) (l.map fun b=>Value.int .u8 b.toNat):=by
    intro l
    induction l with
    | nil=>rfl
    | cons b l ih=>exact⟨[_],_,rfl,rfl,ih⟩
   exact this (ByteArray.data s).toList
  ·cases h
 ·exact (Zo2 h hs hp g r).1
theorem ZhX {t tx ty e : TypeId} {i : TypeInfo} {z : Value} {dx : TypeDesc} (htx : P.underlying tx = some dx) (hnx : (∃ ex, dx = .slice ex) ∨ dx = .string) (ht : P.underlying t = some (.slice e)) (hi : P.info? e = some i) (hz : i.zero = some z) (w : World)
 {base:Option Addr} {n cap m:Nat} {olds news:List Value} {c:Value} (hold:(Builtin.firstCells i.size n (.slice base n cap)).run P w.drew=.ok olds.toArray w.drew) (hs:ZdJ w i.size m news c)
 (hg:cap < n+m) (h63:((n+m:Nat):Int)≤9223372036854775807) (hfit:Builtin.nextslicecap (n+m) cap*i.bytes≤281474976710656) :
 (Builtin.append_ #[t,tx] ty #[.slice base n cap,c]).run P w =
  .ok (.slice (some ⟨w.heap.size,0,none⟩) (n+m) (grownCap w (n+m) cap e))
   (w.drew.alloc (.cells (olds.toArray++news.toArray++Builtin.zeroCells z.cells (grownCap w (n+m) cap e - (n+m))) e)):=by
 have hf:=hs.run (P:=P) (w':=w.drew) rfl
 have hlen:=fun w'=>hs.lenOf (P:=P) w'
 have hn:¬ (n+m≤cap):=by omega
 have h63':¬ (9223372036854775807 < ((n:Int)+(m:Int))):=by omega
 have h48':¬ (281474976710656 < Builtin.nextslicecap (n+m) cap*i.bytes):=by omega
 rcases hnx with ⟨ex,rfl⟩ | rfl<;>simp[Builtin.append_,run_underlying ht,run_underlying htx,sizeOf,typeInfo,zeroValue,hi,hz,hlen,hn,h63',h48',Question.forced,hold,hf,newRow,grownCap]
 all_goals
  congr 2
  apply Array.ext'
  simp
theorem ZhQ {t tx ty e e' : TypeId} {i : TypeInfo} {dx : TypeDesc} (htx : P.underlying tx = some dx) (hnx : (∃ ex, dx = .slice ex) ∨ dx = .string) (ht : P.underlying t = some (.slice e)) (hi : P.info? e = some i) (w : World) {b : Nat} {cur : Array Value} {n cap m : Nat} {news : List Value} {c : Value}
 (hb:w.heap[b]?=some (.cells cur e' (0,0))) (hs:ZdJ w i.size m news c) (h1:∀ u∈news,u.oneCell'=true) (hg:n+m≤cap) (hfit:n*i.size+news.length≤cur.size) :
 (Builtin.append_ #[t,tx] ty #[.slice (some ⟨b,0,none⟩) n cap,c]).run P w =
  .ok (.slice (some ⟨b,0,none⟩) (n+m) cap) (w.setRow b (cur.toList.take (n*i.size)++news++cur.toList.drop (n*i.size+news.length)).toArray):=by
 have hf:=hs.run (P:=P) (w':=w) rfl
 have hlen:=fun w'=>hs.lenOf (P:=P) w'
 have hst:=run_storeCells_at P b (n*i.size) e' news 0 cur w hb (by simpa using hfit) h1
 simp only[Nat.add_zero] at hst
 rcases hnx with ⟨ex,rfl⟩ | rfl<;>simp[Builtin.append_,run_underlying ht,run_underlying htx,sizeOf,typeInfo,hi,hlen,hg,hf,Addr.add_lit,hst]
theorem Zd4 {t tx ty e : TypeId} {i : TypeInfo} {dx : TypeDesc} (htx : P.underlying tx = some dx) (hnx : (∃ ex, dx = .slice ex) ∨ dx = .string) (ht : P.underlying t = some (.slice e)) (hi : P.info? e = some i) (w : World) {a : Option Addr} {news : List Value} {c : Value} (hs : ZdJ w i.size 0 news c) :
 (Builtin.append_ #[t,tx] ty #[.slice a 0 0,c]).run P w=.ok (.slice a 0 0) w:=by
 have hf:=hs.run (P:=P) (w':=w) rfl
 have hlen:=fun w'=>hs.lenOf (P:=P) w'
 have hn:news=[]:=List.eq_nil_of_length_eq_zero (by have:=hs.1;omega)
 subst hn
 rcases hnx with ⟨ex,rfl⟩ | rfl<;>cases a<;>simp[Builtin.append_,run_underlying ht,run_underlying htx,sizeOf,typeInfo,hi,hlen,hf,storeCells]
theorem ZhL {t tx ty e : TypeId} {i : TypeInfo} {z : Value} (htx : P.underlying tx = some (.int .i64)) (ht : P.underlying t = some (.slice e)) (hi : P.info? e = some i) (hz : i.zero = some z) (w : World) {a : Option Addr} {m : Int} (h0 : 0 ≤ m)
 (h1:m*i.bytes≤140737488355328) (h2:m≤9223372036854775807) :
 (Builtin.append_ #[t,tx] ty #[.slice a 0 0,.int .i64 m]).run P w =
  if m=0 then .ok (.slice a 0 0) w else
  .ok (.slice (some ⟨w.heap.size,0,none⟩) m.toNat (grownCap w m.toNat 0 e))
   (w.drew.alloc (.cells ((if m.toNat*i.size=0 then #[] else Builtin.zeroCells z.cells m.toNat)++Builtin.zeroCells z.cells (grownCap w m.toNat 0 e - m.toNat)) e)):=by
 have hw:IntKind.i64.wrap m=m:=ZeK (k:=.i64) ⟨by omega,h2⟩
 have hn:¬ m < 0:=by omega
 have hb:¬ (281474976710656 < m*(i.bytes:Int)):=by omega
 split
 ·rename_i hm
  subst hm
  have hw0:IntKind.i64.wrap 0=0:=hw
  cases a<;>simp[Builtin.append_,run_underlying ht,run_underlying htx,sizeOf,typeInfo,zeroValue,hi,hz,Go.asInt,asIntOf,hw0,storeCells]
 ·rename_i hm
  have hg:¬ (m.toNat≤0):=by omega
  have hcast:((m.toNat:Nat):Int)=m:=by omega
  have h63:¬ (9223372036854775807 < m):=by omega
  have hmb:((m.toNat*i.bytes:Nat):Int)=m*i.bytes:=by rw[Int.natCast_mul,hcast]
  have h48:¬ (281474976710656 < Builtin.nextslicecap m.toNat 0*i.bytes):=by
   have:=growslice_fits (need:=m.toNat) (old:=0) (bytes:=i.bytes) (by omega) (by omega)
   omega
  have hm0:¬ m≤0:=by omega
  have hmx:max m 0=m:=by omega
  have hfc:∀ w',(Builtin.firstCells i.size 0 (.slice a 0 0)).run P w'=.ok #[] w':=by intro w';cases a<;>simp[Builtin.firstCells,loadCells,loadCellsFrom]
  by_cases hz0:m.toNat*i.size=0
  ·simp[Builtin.append_,run_underlying ht,run_underlying htx,sizeOf,typeInfo,zeroValue,hi,hz,Go.asInt,asIntOf,hw,hn,hb,hm0,hmx,h63,h48,Question.forced,newRow,grownCap,hfc,hz0]
  ·simp[Builtin.append_,run_underlying ht,run_underlying htx,sizeOf,typeInfo,zeroValue,hi,hz,Go.asInt,asIntOf,hw,hn,hb,hm0,hmx,h63,h48,Question.forced,newRow,grownCap,hfc,hz0]
def Zv3(P:Program)(tx:TypeId)(i:TypeInfo)(z:Value)(w:World)(m:Nat)(news:List Value)(c:Value):Prop :=
 (∃ dx,P.underlying tx=some dx∧((∃ ex,dx=.slice ex)∨dx=.string)∧ZdJ w i.size m news c) ∨
 (P.underlying tx=some (.int .i64)∧∃ k:Int,c=.int .i64 k∧0≤k∧k.toNat=m∧k*i.bytes≤140737488355328∧k≤9223372036854775807∧news=(Builtin.zeroCells z.cells m).toList)
theorem Zlg {t tx ty e : TypeId} {i : TypeInfo} {z : Value} (ht : P.underlying t = some (.slice e)) (hi : P.info? e = some i) (hz : i.zero = some z) (hzz : z.cells.size = i.size) (w : World)
 {base:Option Addr} {n cap m:Nat} {olds news:List Value} {c:Value} (hold:(Builtin.firstCells i.size n (.slice base n cap)).run P w.drew=.ok olds.toArray w.drew) (hs:Zv3 P tx i z w m news c)
 (hg:cap < n+m) (h63:((n+m:Nat):Int)≤9223372036854775807) (hfit:Builtin.nextslicecap (n+m) cap*i.bytes≤281474976710656) :
 (Builtin.append_ #[t,tx] ty #[.slice base n cap,c]).run P w =
  .ok (.slice (some ⟨w.heap.size,0,none⟩) (n+m) (grownCap w (n+m) cap e))
   (w.drew.alloc (.cells (olds.toArray++news.toArray++Builtin.zeroCells z.cells (grownCap w (n+m) cap e - (n+m))) e)):=by
 rcases hs with ⟨dx,htx,hnx,hs⟩ | ⟨htx,k,rfl,h0,rfl,h1,h2,rfl⟩
 ·exact ZhX htx hnx ht hi hz w hold hs hg h63 hfit
 ·have hw:IntKind.i64.wrap k=k:=ZeK (k:=.i64) ⟨by omega,h2⟩
  have hn:¬ k < 0:=by omega
  have hb:¬ (281474976710656 < k*(i.bytes:Int)):=by omega
  have hg':¬ (n+k.toNat≤cap):=by omega
  have h63':¬ (9223372036854775807 < ((n:Int)+max k 0)):=by omega
  have h48':¬ (281474976710656 < Builtin.nextslicecap (n+k.toNat) cap*i.bytes):=by omega
  by_cases hz0:k.toNat*i.size=0
  ·have e1:Builtin.zeroCells z.cells k.toNat=#[]:=Array.eq_empty_of_size_eq_zero (by rw[size_zeroCells,hzz,hz0])
   simp[Builtin.append_,run_underlying ht,run_underlying htx,sizeOf,typeInfo,zeroValue,hi,hz,Go.asInt,asIntOf,hw,hn,hb,hg',h63',h48',Question.forced,newRow,grownCap,hold,e1]
  ·simp[Builtin.append_,run_underlying ht,run_underlying htx,sizeOf,typeInfo,zeroValue,hi,hz,Go.asInt,asIntOf,hw,hn,hb,hg',h63',h48',Question.forced,newRow,grownCap,hold,hz0]
theorem Znb {t tx ty e e' : TypeId} {i : TypeInfo} {z : Value} (ht : P.underlying t = some (.slice e)) (hi : P.info? e = some i) (hz : i.zero = some z) (hzz : z.cells.size = i.size) (w : World) {b : Nat} {cur : Array Value} {n cap m : Nat} {news : List Value} {c : Value}
 (hb:w.heap[b]?=some (.cells cur e' (0,0))) (hs:Zv3 P tx i z w m news c) (h1:∀ u∈news,u.oneCell'=true) (hg:n+m≤cap) (hfit:n*i.size+news.length≤cur.size) :
 (Builtin.append_ #[t,tx] ty #[.slice (some ⟨b,0,none⟩) n cap,c]).run P w =
  .ok (.slice (some ⟨b,0,none⟩) (n+m) cap) (w.setRow b (cur.toList.take (n*i.size)++news++cur.toList.drop (n*i.size+news.length)).toArray):=by
 rcases hs with ⟨dx,htx,hnx,hs⟩ | ⟨htx,k,rfl,h0,rfl,h3,h2,rfl⟩
 ·exact ZhQ htx hnx ht hi w hb hs h1 hg hfit
 ·have hw:IntKind.i64.wrap k=k:=ZeK (k:=.i64) ⟨by omega,h2⟩
  have hn:¬ k < 0:=by omega
  have hb':¬ (281474976710656 < k*(i.bytes:Int)):=by omega
  have hst:=run_storeCells_at P b (n*i.size) e' (Builtin.zeroCells z.cells k.toNat).toList 0 cur w hb (by simpa using hfit) h1
  simp only[Nat.add_zero] at hst
  by_cases hz0:k.toNat*i.size=0
  ·have e1:Builtin.zeroCells z.cells k.toNat=#[]:=Array.eq_empty_of_size_eq_zero (by rw[size_zeroCells,hzz,hz0])
   rw[e1] at hst ⊢
   simp[Builtin.append_,run_underlying ht,run_underlying htx,sizeOf,typeInfo,zeroValue,hi,hz,Go.asInt,asIntOf,hw,hn,hb',hg,hz0,Addr.add_lit] at hst ⊢
   rw[hst];rfl
  ·simp[Builtin.append_,run_underlying ht,run_underlying htx,sizeOf,typeInfo,zeroValue,hi,hz,Go.asInt,asIntOf,hw,hn,hb',hg,hz0,Addr.add_lit] at hst ⊢
   rw[hst];rfl
theorem Zi9 {t tx ty e : TypeId} {i : TypeInfo} {z : Value} (ht : P.underlying t = some (.slice e)) (hi : P.info? e = some i) (hz : i.zero = some z) (w : World) {a : Option Addr} {news : List Value} {c : Value} (hs : Zv3 P tx i z w 0 news c) :
 (Builtin.append_ #[t,tx] ty #[.slice a 0 0,c]).run P w=.ok (.slice a 0 0) w:=by
 rcases hs with ⟨dx,htx,hnx,hs⟩ | ⟨htx,k,rfl,h0,h3,h1,h2,rfl⟩
 ·exact Zd4 htx hnx ht hi w hs
 ·have hk:k=0:=by omega
  subst hk
  have:=ZhL (P:=P) (ty:=ty) htx ht hi hz w (a:=a) (m:=0) (Int.le_refl _) (by simp) (by omega)
  rwa [if_pos rfl] at this
theorem Zpw{A B:List Value}{n:Nat}(h:A.length=n)(C:List Value)(k:Nat)(hk:n+B.length=k):(A++B++C).take k=A++B:=by
 subst hk h
 rw[← List.length_append]
 exact List.take_left
def Zxc(P:Program)(s:Sem Value)(E:Env)(L:Loc)(T:Ty)(xs zs:List T.den):Prop :=
 ∃ (w:World) (K:Loc) (row:Option Nat),E.w.grownBy w row∧(∀ b,row=some b→(Obj.row T xs).has L∧b=L.b)∧(∀ lo,ZaM P ⟨w,E.S,lo⟩ K (.row T zs))∧((Obj.row T zs).has K→((Obj.row T xs).has L∧K.b=L.b)∨E.w.heap.size≤K.b)∧s.run P E.w=.ok K.v w
theorem ZdG (hτ : Zbs P τ) {ts tx ty e : TypeId} {info : TypeInfo} {z : Value} {bytes : Nat} {T : Ty} {ys : List T.den} {news : List Value} {d : Value}
 (ht:P.underlying ts=some (.slice e)) (hi:P.info? e=some info) (hz:info.zero=some z) (hsT:info.size=T.size) (hb:info.bytes=bytes) (hzz:z.cells.size=T.size) (hpos:0 < T.size)
 (hn1:Z3 E.w E.S T ys news) (hn2:Zv3 P tx info z E.w ys.length news d) (g:Z7 P E objs) {l k:Nat} {xs:List T.den} {L:Loc} (hobj:Zv l objs=some (.row T xs)) (hL:E.loc l=some L) (hat:ZaM P E L (.row T xs))
 (hk:k≤xs.length) (h1:(k+ys.length)*bytes≤140737488355328) (h2:k+ys.length≤9223372036854775807) {c0:Value} (hc0:L.Part 0 k c0) :
 Zxc P (Builtin.append_ #[ts,tx] ty #[c0,d]) E L T xs (xs.take k++ys):=by
 have hnl:=hn1.length
 obtain⟨olds,ho1,ho2⟩:=ZnU hat (lo:=0) (m:=k) (by omega) hc0
 rw[List.drop_zero] at ho1
 have hol:=ho1.length
 have htl:(xs.take k).length=k:=by simp;omega
 have hal:(xs.take k++ys).length=k+ys.length:=by rw[List.length_append,htl]
 obtain⟨hesz,_,hlen,e',cs,h9,h10⟩:=id hat
 have done : ∀ (w : World) (K : Loc) (row : Option Nat), E.w.grownBy w row → (∀ b, row = some b → (Obj.row T xs).has L ∧ b = L.b) →
  (∀ (lo:Nat→Option Loc) (hx:∀ b,E.S b→E.S b∧w.heap[b]?=E.w.heap[b]?),ZaM P ⟨w,E.S,lo⟩ K (.row T (xs.take k++ys))) →
  ((Obj.row T (xs.take k++ys)).has K→((Obj.row T xs).has L∧K.b=L.b)∨E.w.heap.size≤K.b) →
  (Builtin.append_ #[ts,tx] ty #[c0,d]).run P E.w=.ok K.v w →
  Zxc P (Builtin.append_ #[ts,tx] ty #[c0,d]) E L T xs (xs.take k++ys):=by
  intro w K row hw hrow hnew hhas hrun
  have hx:=Zf1 g (M:=[l]) hobj hL hw hrow (L':=K) (fun h=>absurd (by simp) h)
  exact⟨w,K,row,hw,hrow,fun lo=>hnew lo hx.S,hhas,hrun⟩
 have grow : ∀ (base : Option Addr) (cap : Nat), c0 = .slice base k cap → k ≤ cap → cap < k + ys.length →
  Zxc P (Builtin.append_ #[ts,tx] ty #[c0,d]) E L T xs (xs.take k++ys):=by
  intro base cap hbase hc1 hc2
  rw[hbase,← hsT] at ho2
  rw[hbase] at done ⊢
  have hrun:=Zlg (P:=P) (ty:=ty) ht hi hz (hzz.trans hsT.symm) E.w (base:=base) (n:=k) (cap:=cap) (olds:=olds) (ho2.run rfl) hn2 hc2 (by omega)
   (growslice_fits hc2 (by rw[hb];exact h1))
  have hge:=grownCap_ge E.w (k+ys.length) cap e
  have hmx:=grownCap_le_maxLen E.w (k+ys.length) cap e (by unfold maxLen;omega)
  have hcl:(Builtin.zeroCells z.cells (grownCap E.w (k+ys.length) cap e - (k+ys.length))).size=(grownCap E.w (k+ys.length) cap e - (k+ys.length))*T.size:=by rw[size_zeroCells,hzz]
  refine done (E.w.drew.alloc (.cells (olds.toArray ++ news.toArray ++ Builtin.zeroCells z.cells (grownCap E.w (k + ys.length) cap e - (k + ys.length))) e)) ⟨E.w.heap.size, some ⟨E.w.heap.size, 0, none⟩, k + ys.length, grownCap E.w (k + ys.length) cap e, T.size⟩ none ⟨rfl, rfl, rfl, by simp, fun j hj _ => heap_alloc_old E.w.drew _ j hj⟩ (fun b hb => by cases hb)
   (fun lo hx=>⟨rfl,hpos,hal.symm,e,_,(ho1.append hn1).mono hx,.inr ⟨_,rfl,heap_alloc_new E.w.drew _,by rw[hal];exact hge,by show 0 < grownCap _ _ _ _;omega,hmx,?_,?_⟩⟩) (fun _=>.inr (Nat.le_refl _)) hrun
  ·simp only[Array.size_append,List.size_toArray,hol,htl,hnl,hcl,← Nat.add_mul]
   congr 1;omega
  ·simp only[Array.toList_append]
   exact Zpw rfl _ _ (by rw[hal,hol,htl,hnl,Nat.add_mul])
 obtain⟨a0,ha0,ha1⟩:=hc0
 rcases h10 with ⟨hcz,rfl⟩ | ⟨cur,hv1,hv2,hv3,hv4,hv5,hv6,hv7⟩
 ·have hk0:k=0:=by simpa using hk
  subst hk0
  have hpart:c0=.slice a0 0 0:=by rw[ha0,hcz]
  by_cases hm:ys.length=0
  ·have:ys=[]:=List.eq_nil_of_length_eq_zero hm
   subst this
   have hrun:=Zi9 (P:=P) (ty:=ty) ht hi hz E.w (a:=a0) (news:=news) (c:=d) hn2
   have hLv:({ L with a:=a0 }:Loc).v=.slice a0 0 0:=by simp[Loc.v,hlen,hcz]
   refine done E.w { L with a:=a0 } none ⟨rfl,rfl,rfl,Nat.le_refl _,fun _ _ _=>rfl⟩ (fun b hb=>by cases hb) (fun lo hx=>⟨hesz,hpos,by simpa using hlen,e,[],rfl,.inl ⟨hcz,rfl⟩⟩) (fun hh=>absurd hcz hh) (by rw[hpart,hLv];exact hrun)
  ·exact grow a0 0 hpart (Nat.le_refl _) (by omega)
 ·have hpart:c0=.slice (some ⟨L.b,0,none⟩) k L.cap:=by rw[ha0,ha1 (by omega)];simp[hv1,Addr.add_lit]
  rcases Nat.lt_or_ge L.cap (k+ys.length) with hlt' | hge
  ·exact grow _ L.cap hpart (by omega) hlt'
  ·have hfit:k*info.size+news.length≤cur.size:=by
    rw[hsT,hnl,hv6,← Nat.add_mul];exact Nat.mul_le_mul_right _ hge
   have hrun:=Znb (P:=P) (ty:=ty) ht hi hz (hzz.trans hsT.symm) E.w hv2 hn2 hn1.one hge hfit
   have hhas:(Obj.row T xs).has L:=by simp only[Obj.has];omega
   refine done _ ⟨L.b,some ⟨L.b,0,none⟩,k+ys.length,L.cap,T.size⟩ (some L.b) (ZdO _ _ _) (fun b e=>⟨hhas,by cases e;rfl⟩) (fun lo hx =>
    ⟨rfl,hpos,hal.symm,e',_,(ho1.append hn1).mono hx,.inr ⟨_,rfl,setRow_heap _ _ _ _ _ _ hv2,by rw[hal];exact hge,hv4,hv5,?_,?_⟩⟩) (fun _=>.inl ⟨hhas,rfl⟩) (by rw[hpart];exact hrun)
   ·simp only[List.size_toArray,List.length_append,List.length_take,List.length_drop,Array.length_toList];omega
   ·have hck:cur.toList.take (k*T.size)=olds:=by
     obtain⟨_,_,hsame⟩:True∧True∧cs.take (k*T.size)=cur.toList.take (k*T.size):=by
      refine⟨trivial,trivial,?_⟩
      rw[← hv7,List.take_take]
      congr 1
      have:=Nat.mul_le_mul_right T.size hk
      omega
     rw[← hsame]
     rcases ho2.2 with ⟨a,cap,hq,hcell⟩ | ⟨s,hq,_⟩
     ·rw[hpart] at hq
      cases hq
      apply List.ext_getElem?
      intro j
      have hcsl:=h9.length
      have hkk:=Nat.mul_le_mul_right T.size hk
      rw[htl] at hol
      by_cases hj:j < k*T.size
      ·have hk0:0 < k:=Nat.pos_of_ne_zero fun e=>by rw[e] at hj;simp at hj
       obtain⟨ad,had,hc⟩:=hcell hk0
       cases had
       have hjo:j < olds.length:=by omega
       have:=hc j olds[j] (List.getElem?_eq_getElem hjo)
       rw[Addr.add_lit,ZcZ hv2,Nat.zero_add] at this
       rw[List.getElem?_take,if_pos hj,← hv7,List.getElem?_take,if_pos (by omega),List.getElem?_eq_getElem hjo]
       simpa using this
      ·rw[List.getElem?_eq_none (by simp;omega),List.getElem?_eq_none (by omega)]
     ·rw[hpart] at hq;cases hq
    rw[hsT,hck]
    exact Zpw rfl _ _ (by rw[hal,hol,htl,hnl,Nat.add_mul])
theorem Zha (hτ : Zbs P τ) {ts tx ty e : TypeId} {info : TypeInfo} {z : Value} {bytes : Nat} {T : Ty} {ys : List T.den} {news : List Value} {d : Value}
 (ht:P.underlying ts=some (.slice e)) (hi:P.info? e=some info) (hz:info.zero=some z) (hsT:info.size=T.size) (hb:info.bytes=bytes) (hzz:z.cells.size=T.size) (hpos:0 < T.size)
 (hn1:Z3 E.w E.S T ys news) (hn2:Zv3 P tx info z E.w ys.length news d) (g:Z7 P E objs) {l k:Nat} {xs:List T.den} {L:Loc} (hobj:Zv l objs=some (.row T xs)) (hL:E.loc l=some L) (hat:ZaM P E L (.row T xs))
 (hk:k≤xs.length) (h1:(k+ys.length)*bytes≤140737488355328) (h2:k+ys.length≤9223372036854775807) {p:Option Prop} {c0:Value} (hc0:L.Part 0 k c0) :
 ZdH P (Builtin.append_ #[ts,tx] ty #[c0,d]) E objs ⟨p,.osl l,some (l,.row T (xs.take k++ys),true)⟩:=by
 obtain⟨w,K,row,hw,hrow,hnew,hhas,hrun⟩:=ZdG (ty:=ty) hτ ht hi hz hsT hb hzz hpos hn1 hn2 g hobj hL hat hk h1 h2 hc0
 have hp:=Z7.put g (mv:=true) (o':=.row T (xs.take k++ys)) (L':=K) hobj hL hw hrow (fun h=>by cases h) (hnew _) hhas
 exact⟨_,K.v,hrun,hp.1,hp.2,.osl (ZP _ _ _ _)⟩
theorem Zg4 {l : Nat} {L : Loc} {T : Ty} {xs ys : List T.den} {vs : List Value} {lo : Nat} (g : Z7 P E objs) (hl : Zv l objs = some (.row T xs)) (hL : E.loc l = some L) (hat : ZaM P E L (.row T xs))
 (hlo:lo+ys.length≤xs.length) (hne:0 < ys.length∨L.cap≠0) (hv:Z3 E.w E.S T ys vs) :
 ∃ w,(storeCells ⟨L.b,lo*T.size,none⟩ vs).run P E.w=.ok () w ∧
  Z7 P (E.setL w l L) (edit objs (some (l,.row T (xs.take lo++ys++xs.drop (lo+ys.length)),false))) ∧
  ZcH E objs (E.setL w l L) (edit objs (some (l,.row T (xs.take lo++ys++xs.drop (lo+ys.length)),false))) []:=by
 obtain⟨hesz,hpos,hlen,e,cs,h9,h10⟩:=id hat
 rcases h10 with ⟨hc0,rfl⟩ | ⟨cur,hv1,hv2,hv3,hv4,hv5,hv6,hv7⟩
 ·simp only[List.length_nil] at hlo
  rcases hne with h | h
  ·omega
  ·exact absurd hc0 h
 ·have hvl:=hv.length
  have hcl:=h9.length
  have hmul:(lo+ys.length)*T.size≤xs.length*T.size:=Nat.mul_le_mul_right _ hlo
  have hmul2:xs.length*T.size≤L.cap*T.size:=Nat.mul_le_mul_right _ hv3
  have hadd:(lo+ys.length)*T.size=lo*T.size+ys.length*T.size:=Nat.add_mul _ _ _
  have hfit:lo*T.size+vs.length≤cur.size:=by rw[hvl,hv6];omega
  have hst:=run_storeCells_at P L.b (lo*T.size) e vs 0 cur E.w hv2 (by simpa using hfit) hv.one
  simp only[Nat.add_zero] at hst
  have hlx:(xs.take lo++ys++xs.drop (lo+ys.length)).length=xs.length:=by simp;omega
  have hcells:Z3 E.w E.S T (xs.take lo++ys++xs.drop (lo+ys.length)) (cs.take (lo*T.size)++vs++cs.drop ((lo+ys.length)*T.size)):=((h9.take lo).append hv).append (h9.drop _)
  have hnew:=Zn9 (mv:=false) (ys:=xs.take lo++ys++xs.drop (lo+ys.length)) (cur':=cur.toList.take (lo*T.size)++vs++cur.toList.drop (lo*T.size+vs.length)) g hl hL hat hv4 (by omega) (fun _=>hlx) (by
   rw[hlx]
   refine Eq.mp ?_ hcells
   congr 1
   rw[← hv7,hadd]
   apply List.ext_getElem?
   intro j
   have hs1:=ZbO (A:=cur.toList) (vs:=vs) (o:=lo*T.size) (by simpa using hfit) j
   have hs2:=ZbO (A:=cur.toList.take (xs.length*T.size)) (vs:=vs) (o:=lo*T.size) (by rw[hvl];simp;omega) j
   rw[hvl] at hs1 hs2
   rw[hs2,List.getElem?_take,List.getElem?_take,hvl,hs1]
   repeat' split
   all_goals first | rfl | omega) (by simp only[List.length_append,List.length_take,List.length_drop,Array.length_toList];omega)
  have hLL:({ L with len:=(xs.take lo++ys++xs.drop (lo+ys.length)).length }:Loc)=L:=by rw[hlx,← hlen]
  rw[hLL] at hnew
  exact⟨_,hst,hnew.1,hnew.2⟩
theorem Zsf (hτ : Zbs P τ) {ts tx ty e : TypeId} {dx : TypeDesc} {info : TypeInfo} {T : Ty} {ys : List T.den} {news : List Value} {d : Value} (htx : P.underlying tx = some dx)
 (hnx:(∃ ex,dx=.slice ex)∨dx=.string) (ht:P.underlying ts=some (.slice e)) (hi:P.info? e=some info) (hsT:info.size=T.size)
 (hn1:Z3 E.w E.S T ys news) (hn2:ZdJ E.w info.size ys.length news d) (g:Z7 P E objs) {l k:Nat} {xs:List T.den} {L:Loc} (hobj:Zv l objs=some (.row T xs)) (hL:E.loc l=some L) (hat:ZaM P E L (.row T xs))
 (hk:k+ys.length≤xs.length) {p:Option Prop} {c0:Value} (hc0:L.Part 0 k c0) :
 ZdH P (Builtin.append_ #[ts,tx] ty #[c0,d]) E objs ⟨p,.osp l 0 (k+ys.length),some (l,.row T (xs.take k++ys++xs.drop (k+ys.length)),false)⟩:=by
 obtain⟨a0,ha0,ha1⟩:=hc0
 obtain⟨hesz,hpos,hlen,e',cs,h9,h10⟩:=id hat
 rcases h10 with ⟨hcz,rfl⟩ | ⟨cur,hv1,hv2,hv3,hv4,hv5,hv6,hv7⟩
 ·simp only[List.length_nil] at hk
  have hk0:k=0:=by omega
  have:ys=[]:=List.eq_nil_of_length_eq_zero (by omega)
  subst hk0 this
  have hpart:c0=.slice a0 0 0:=by rw[ha0,hcz]
  have hrun:=Zd4 (P:=P) (ty:=ty) htx hnx ht hi E.w (a:=a0) (news:=news) (c:=d) (by simpa using hn2)
  have hp:=Z7.put g (mv:=false) (L':=L) (o':=.row T []) (w:=E.w) (row:=none) hobj hL ⟨rfl,rfl,rfl,Nat.le_refl _,fun _ _ _=>rfl⟩ (fun b hb=>by cases hb) (fun _=>rfl) (by
   refine hat.keep (⟨fun b hb=>⟨hb,rfl⟩,fun j K _ hK=>?_⟩:Ext E (E.setL E.w l L) []) (fun _=>rfl)
   by_cases e:j=l
   ·subst e;rw[hL] at hK;cases hK;exact ZP _ _ _ _
   ·rw[ZaB _ _ _ e];exact hK) (fun hh=>.inl ⟨hh,rfl⟩)
  exact⟨E.setL E.w l L,.slice a0 0 0,by rw[hpart];exact hrun,by simpa using hp.1,by simpa using hp.2,.osp (ZP _ _ _ _) ⟨a0,by simp[hcz],fun h=>absurd hcz h⟩⟩
 ·have hnl:=hn1.length
  have hpart:c0=.slice (some ⟨L.b,0,none⟩) k L.cap:=by rw[ha0,ha1 (by omega)];simp[hv1,Addr.add_lit]
  have hfit:k*info.size+news.length≤cur.size:=by
   rw[hsT,hnl,hv6,← Nat.add_mul];exact Nat.mul_le_mul_right _ (by omega)
  have hrun:=ZhQ (P:=P) (ty:=ty) htx hnx ht hi E.w hv2 hn2 hn1.one (by omega:k+ys.length≤L.cap) hfit
  obtain⟨w,hst,g1,g2⟩:=Zg4 (lo:=k) g hobj hL hat hk (.inr (by omega)) hn1
  have hst2:=run_storeCells_at P L.b (k*T.size) e' news 0 cur E.w hv2 (by rw[← hsT];simpa using hfit) hn1.one
  simp only[Nat.add_zero] at hst2
  rw[hst] at hst2
  cases hst2
  refine⟨_,.slice (some ⟨L.b,0,none⟩) (k+ys.length) L.cap,?_,g1,g2,.osp (ZP _ _ _ _) ⟨some ⟨L.b,0,none⟩,by simp,fun _=>by simp[hv1,Addr.add_lit]⟩⟩
  rw[hpart,hrun,hsT]
  rfl
theorem ZkE(z:Array Value)(n:Nat)(c:Array Value)(hz:0 < z.size):(Builtin.zeroCells z n++c).toList.take (n*z.size)=(List.replicate n z.toList).flatten:=by
 have h:=Ziy (z:=z) (n:=n) (c:=n) hz (Nat.le_refl _)
 have e:madeCells z (n*z.size)=Builtin.zeroCells z n:=rfl
 have hs:(Builtin.zeroCells z n).toList.length=n*z.size:=by rw[Array.length_toList,size_zeroCells]
 rw[e,List.take_of_length_le (by omega)] at h
 rw[Array.toList_append,← hs,List.take_left,h]
theorem Zny {tx : TypeId} {i : TypeInfo} {z : Value} {w w0 : World} {S : Nat → Prop} {T : Ty} {m : Int} {k : Nat} (htx : P.underlying tx = some (.int .i64)) (h0 : 0 ≤ m) (h1 : (k + m.toNat) * i.bytes ≤ 140737488355328) (h2 : k + m.toNat ≤ 9223372036854775807)
 (hzz:z.cells.size=T.size) (hpos:0 < T.size) (hc:ZbD w S T T.dflt z.cells.toList) :
 Z3 w S T (List.replicate m.toNat T.dflt) (Builtin.zeroCells z.cells m.toNat).toList∧Zv3 P tx i z w0 (List.replicate m.toNat T.dflt).length (Builtin.zeroCells z.cells m.toNat).toList (.int .i64 m):=by
 have hr:=Zb6 hc m.toNat
 have ht:=ZkE z.cells m.toNat #[] (by omega)
 rw[Array.append_empty,List.take_of_length_le (by rw[Array.length_toList,size_zeroCells];exact Nat.le_refl _)] at ht
 rw[← ht] at hr
 refine⟨hr,.inr ⟨htx,m,rfl,h0,(List.length_replicate ..).symm,?_,by omega,by rw[List.length_replicate]⟩⟩
 have hm:((m.toNat:Nat):Int)=m:=by omega
 have:=Nat.le_trans (Nat.mul_le_mul_right i.bytes (Nat.le_add_left m.toNat k)) h1
 rw[← hm,← Int.natCast_mul]
 omega
theorem ZmO (hτ : Zbs P τ) {ts tx ty : TypeId} {s x : V} {out : Out} (h : Zeb τ os n ts tx s x = some out) (hs : Sub os objs) (ho : okP out.ob) (g : Z7 P E objs) (hf : E.loc n = none) {c d : Value} (rs : Rep P E s c) (rx : Rep P E x d) :
 ZdH P (Builtin.append_ #[ts,tx] ty #[c,d]) E objs out:=by
 unfold Zeb at h
 split at h
 ·rename_i e sz by_ zero co hti
  have ht:P.underlying ts=some (.slice e):=(hτ ts _ hti).kind
  split at h
  ·rename_i k size bytes zero' T hei
   have hei:=hτ e _ hei
   obtain⟨hTs,hpos,hz0⟩:=hei.code T rfl
   have hTs:T.size=size:=hTs
   have hpos:0 < T.size:=by rw[hTs];exact hpos
   obtain⟨info,z,hi,hsz,hb,hz,hzl,hzs⟩:=hei.info
   have hsz:info.size=size:=hsz
   have hb:info.bytes=bytes:=hb
   have hzs:z.cells.size=size:=hzs
   have hzz:z.cells.size=T.size:=by rw[hzs,hTs]
   have hsT:info.size=T.size:=by rw[hsz,hTs]
   split at h
   ·rename_i he
    obtain⟨dx,htx,hnx⟩:∃ dx,P.underlying tx=some dx∧((∃ ex,dx=.slice ex)∨dx=.string):=by
     unfold ZvD at he
     split at he
     ·rename_i h;exact⟨_,(hτ tx _ h).kind,.inl ⟨_,rfl⟩⟩
     ·rename_i h;exact⟨_,(hτ tx _ h).kind,.inr rfl⟩
     ·cases he
    split at h
    ·rename_i ys p hys
     have src:okP p→∃ cs,Z3 E.w E.S T ys cs∧ZdJ E.w info.size ys.length cs d:=fun hp=>by rw[hsT];exact ZpF hys hs hp g rx
     have conj_inv:∀ {q:Prop},ZqD q p→okP p∧q:=fun {q} h=>by cases p with | none=>exact⟨trivial,h⟩ | some r=>exact h
     split at h
     ·
      cases h
      obtain⟨hp,h1,h2⟩:=conj_inv ho
      obtain⟨news,hn1,hn2⟩:=src hp
      have hnl:=hn1.length
      cases rs with
      | nils a =>
        by_cases hm:ys.length=0
        ·have:ys=[]:=List.eq_nil_of_length_eq_zero hm
         subst this
         have hrun:=Zd4 (P:=P) (ty:=ty) htx hnx ht hi E.w (a:=a) (news:=news) (c:=d) (by simpa using hn2)
         have hp:=Z7.push g (w:=E.w) (L:=⟨0,a,0,0,T.size⟩) (o:=.row T []) hf ⟨rfl,rfl,rfl,Nat.le_refl _,fun _ _ _=>rfl⟩
          ⟨rfl,hpos,rfl,e,[],rfl,.inl ⟨rfl,rfl⟩⟩ (fun hh=>absurd rfl hh)
         exact⟨E.setL E.w n ⟨0,a,0,0,T.size⟩,_,hrun,hp.1,hp.2,.osl (ZP _ _ _ _)⟩
        ·have hrun := ZhX (P := P) (ty := ty) htx hnx ht hi hz E.w (base := a) (n := 0) (cap := 0) (olds := []) (by cases a <;> simp [Builtin.firstCells, loadCells, loadCellsFrom]) hn2 (by omega) (by omega)
          (growslice_fits (by omega) (by rw[Nat.zero_add,hb];exact h1))
         simp only[Nat.zero_add] at hrun
         have hge:=grownCap_ge E.w ys.length 0 e
         have hmx:=grownCap_le_maxLen E.w ys.length 0 e (by unfold maxLen;omega)
         obtain⟨E',hw,g1,g2,g3⟩:=ZgZ (cap:=grownCap E.w ys.length 0 e) g hf (w:=E.w.drew.alloc (.cells (([]:List Value).toArray++news.toArray++Builtin.zeroCells z.cells (grownCap E.w ys.length 0 e - ys.length)) e))
          ⟨rfl,rfl,rfl,by simp,fun j hj _=>heap_alloc_old E.w.drew _ j hj⟩ (heap_alloc_new E.w.drew _) hpos hge hmx (by
           simp only[Array.size_append,List.size_toArray,List.length_nil,hnl,size_zeroCells,hzz,Nat.zero_add,← Nat.add_mul]
           congr 1;omega) hn1 (by
           simp only[Array.toList_append,List.nil_append]
           rw[← hnl];exact List.take_left)
         exact⟨E',_,by rw[hw];exact hrun,g1,g2,.osl g3⟩
     ·rename_i l
      split at h
      ·rename_i t xs hcs
       split at h
       ·rename_i hT'
        subst hT'
        cases h
        obtain⟨hp,h1,h2⟩:=conj_inv ho
        obtain⟨news,hn1,hn2⟩:=src hp
        obtain⟨L,hL,hobj,hat⟩:=g.get hs hcs
        obtain⟨K,hK,rfl⟩:=Zcf rs
        rw[hL] at hK;cases hK
        have:=Zha (ty:=ty) (p:=some (ZqD ((xs.length+ys.length)*bytes≤140737488355328∧xs.length+ys.length≤9223372036854775807) p)) hτ ht hi hz hsT hb hzz hpos hn1 (.inl ⟨dx,htx,hnx,hn2⟩) g hobj hL hat (Nat.le_refl _) h1 h2 (ZiW hat)
        rw[List.take_length] at this
        exact this
       ·cases h
      ·cases h
     ·rename_i l k
      split at h
      ·rename_i t xs hcs
       split at h
       ·rename_i hT'
        subst hT'
        split at h
        ·cases h
         obtain⟨hp,hk⟩:=conj_inv ho
         obtain⟨news,hn1,hn2⟩:=src hp
         obtain⟨L,hL,hobj,hat⟩:=g.get hs hcs
         obtain⟨K,hK,hpt⟩:=Zdu rs
         rw[hL] at hK;cases hK
         exact Zsf (ty:=ty) hτ htx hnx ht hi hsT hn1 hn2 g hobj hL hat hk hpt
        cases h
        obtain⟨hk,ho⟩:_∧_:=ho
        obtain⟨hp,h1,h2⟩:=conj_inv ho
        obtain⟨news,hn1,hn2⟩:=src hp
        obtain⟨L,hL,hobj,hat⟩:=g.get hs hcs
        obtain⟨K,hK,hpt⟩:=Zdu rs
        rw[hL] at hK;cases hK
        exact Zha (ty:=ty) hτ ht hi hz hsT hb hzz hpos hn1 (.inl ⟨dx,htx,hnx,hn2⟩) g hobj hL hat hk h1 h2 hpt
       ·cases h
      ·cases h
     ·cases h
    ·cases h
   ·split at h
    ·rename_i htx
     have htx:P.underlying tx=some (.int .i64):=(hτ tx _ htx).kind
     split at h
     ·rename_i m0
      obtain⟨m,hm0⟩:∃ m:Int,m=m0:=⟨m0,rfl⟩
      subst hm0
      have hd:=rx.int_inv
      subst hd
      split at h
      ·cases h
       obtain⟨h0,h1,h2⟩:0≤m∧m*bytes≤140737488355328∧m≤9223372036854775807:=ho
       cases rs with
       | nils a =>
         have hrun:=ZhL (P:=P) (ty:=ty) htx ht hi hz E.w (a:=a) h0 (by rw[hb];exact h1) h2
         split at hrun
         ·rename_i hm
          subst hm
          have hp:=Z7.push g (w:=E.w) (L:=⟨0,a,0,0,T.size⟩) (o:=.row T []) hf ⟨rfl,rfl,rfl,Nat.le_refl _,fun _ _ _=>rfl⟩
           ⟨rfl,hpos,rfl,e,[],rfl,.inl ⟨rfl,rfl⟩⟩ (fun hh=>absurd rfl hh)
          exact⟨E.setL E.w n ⟨0,a,0,0,T.size⟩,_,hrun,hp.1,hp.2,.osl (ZP _ _ _ _)⟩
         ·rename_i hm
          have hge:=grownCap_ge E.w m.toNat 0 e
          have hmx:=grownCap_le_maxLen E.w m.toNat 0 e (by unfold maxLen;omega)
          have hnz:¬ (m.toNat*info.size=0):=by
           rw[hsT]
           have:=Nat.mul_pos (show 0 < m.toNat by omega) hpos
           omega
          rw[if_neg hnz] at hrun
          obtain⟨E',hw,g1,g2,g3⟩:=ZgZ (xs:=List.replicate m.toNat T.dflt) (cap:=grownCap E.w m.toNat 0 e) g hf (w:=E.w.drew.alloc (.cells (Builtin.zeroCells z.cells m.toNat++Builtin.zeroCells z.cells (grownCap E.w m.toNat 0 e - m.toNat)) e))
           ⟨rfl,rfl,rfl,by simp,fun j hj _=>heap_alloc_old E.w.drew _ j hj⟩ (heap_alloc_new E.w.drew _) hpos (by simpa using hge) hmx (by
            simp only[Array.size_append,size_zeroCells,hzz,← Nat.add_mul]
            congr 1;omega) (Zb6 (hz0 E.w E.S) m.toNat) (by
            rw[List.length_replicate,← hzz,ZkE _ _ _ (by omega),← hzl])
          refine⟨E',_,by rw[hw];exact hrun,g1,g2,?_⟩
          rw[List.length_replicate] at g3
          exact .osl g3
      ·rename_i l
       split at h
       ·rename_i t xs hcs
        split at h
        ·rename_i hT'
         subst hT'
         cases h
         obtain⟨h0,h1,h2⟩:0≤m∧(xs.length+m.toNat)*bytes≤140737488355328∧xs.length+m.toNat≤9223372036854775807:=ho
         obtain⟨L,hL,hobj,hat⟩:=g.get hs hcs
         obtain⟨K,hK,rfl⟩:=Zcf rs
         rw[hL] at hK;cases hK
         obtain⟨hn1,hn2⟩:=Zny htx h0 (by rw[hb];exact h1) h2 hzz hpos (hzl▸hz0 E.w E.S) (w0:=E.w)
         have:=Zha (ty:=ty) (p:=some (0≤m∧(xs.length+m.toNat)*bytes≤140737488355328∧xs.length+m.toNat≤9223372036854775807)) hτ ht hi hz hsT hb hzz hpos hn1 hn2 g hobj hL hat (Nat.le_refl _) (by rw[List.length_replicate];exact h1) (by rw[List.length_replicate];exact h2) (ZiW hat)
         rw[List.take_length] at this
         exact this
        ·cases h
       ·cases h
      ·cases h
     ·cases h
    ·cases h
  ·cases h
 ·cases h
theorem Zj7 (hτ : Zbs P τ) {ts tx ty : TypeId} {s x : V} {ob : Option Prop} {v : V} {l : Nat} {T : Ty} {zs : List T.den} (h : Zeb τ os n ts tx s x = some ⟨ob, v, some (l, .row T zs, true)⟩) (hs : Sub os objs) (ho : okP ob) (g : Z7 P E objs) {c d : Value}
 (rs:Rep P E s c) (rx:Rep P E x d):v=.osl l∧∃ L xs,Zv l objs=some (.row T xs)∧E.loc l=some L∧Zxc P (Builtin.append_ #[ts,tx] ty #[c,d]) E L T xs zs:=by
 unfold Zeb at h
 split at h
 ·rename_i e sz by_ zero co hti
  have ht:P.underlying ts=some (.slice e):=(hτ ts _ hti).kind
  split at h
  ·rename_i k size bytes zero' T hei
   have hei:=hτ e _ hei
   obtain⟨hTs,hpos,hz0⟩:=hei.code T rfl
   have hTs:T.size=size:=hTs
   have hpos:0 < T.size:=by rw[hTs];exact hpos
   obtain⟨info,z,hi,hsz,hb,hz,hzl,hzs⟩:=hei.info
   have hsz:info.size=size:=hsz
   have hb:info.bytes=bytes:=hb
   have hzs:z.cells.size=size:=hzs
   have hzz:z.cells.size=T.size:=by rw[hzs,hTs]
   have hsT:info.size=T.size:=by rw[hsz,hTs]
   split at h
   ·rename_i he
    obtain⟨dx,htx,hnx⟩:∃ dx,P.underlying tx=some dx∧((∃ ex,dx=.slice ex)∨dx=.string):=by
     unfold ZvD at he
     split at he
     ·rename_i h;exact⟨_,(hτ tx _ h).kind,.inl ⟨_,rfl⟩⟩
     ·rename_i h;exact⟨_,(hτ tx _ h).kind,.inr rfl⟩
     ·cases he
    split at h
    ·rename_i ys p hys
     have src:okP p→∃ cs,Z3 E.w E.S T ys cs∧ZdJ E.w info.size ys.length cs d:=fun hp=>by rw[hsT];exact ZpF hys hs hp g rx
     have conj_inv:∀ {q:Prop},ZqD q p→okP p∧q:=fun {q} h=>by cases p with | none=>exact⟨trivial,h⟩ | some r=>exact h
     split at h
     ·cases h
     ·rename_i l
      split at h
      ·rename_i t xs hcs
       split at h
       ·rename_i hT'
        subst hT'
        cases h
        obtain⟨hp,h1,h2⟩:=conj_inv ho
        obtain⟨news,hn1,hn2⟩:=src hp
        obtain⟨L,hL,hobj,hat⟩:=g.get hs hcs
        obtain⟨K,hK,rfl⟩:=Zcf rs
        rw[hL] at hK;cases hK
        have:=ZdG (ty:=ty) hτ ht hi hz hsT hb hzz hpos hn1 (.inl ⟨dx,htx,hnx,hn2⟩) g hobj hL hat (Nat.le_refl _) h1 h2 (ZiW hat)
        rw[List.take_length] at this
        exact⟨rfl,L,xs,hobj,hL,this⟩
       ·cases h
      ·cases h
     ·rename_i l k
      split at h
      ·rename_i t xs hcs
       split at h
       ·rename_i hT'
        subst hT'
        split at h
        ·cases h
        cases h
        obtain⟨hk,ho⟩:_∧_:=ho
        obtain⟨hp,h1,h2⟩:=conj_inv ho
        obtain⟨news,hn1,hn2⟩:=src hp
        obtain⟨L,hL,hobj,hat⟩:=g.get hs hcs
        obtain⟨K,hK,hpt⟩:=Zdu rs
        rw[hL] at hK;cases hK
        exact⟨rfl,L,xs,hobj,hL,ZdG (ty:=ty) hτ ht hi hz hsT hb hzz hpos hn1 (.inl ⟨dx,htx,hnx,hn2⟩) g hobj hL hat hk h1 h2 hpt⟩
       ·cases h
      ·cases h
     ·cases h
    ·cases h
   ·split at h
    ·rename_i htx
     have htx:P.underlying tx=some (.int .i64):=(hτ tx _ htx).kind
     split at h
     ·rename_i m0
      obtain⟨m,hm0⟩:∃ m:Int,m=m0:=⟨m0,rfl⟩
      subst hm0
      have hd:=rx.int_inv
      subst hd
      split at h
      ·cases h
      ·rename_i l
       split at h
       ·rename_i t xs hcs
        split at h
        ·rename_i hT'
         subst hT'
         cases h
         obtain⟨h0,h1,h2⟩:0≤m∧(xs.length+m.toNat)*bytes≤140737488355328∧xs.length+m.toNat≤9223372036854775807:=ho
         obtain⟨L,hL,hobj,hat⟩:=g.get hs hcs
         obtain⟨K,hK,rfl⟩:=Zcf rs
         rw[hL] at hK;cases hK
         obtain⟨hn1,hn2⟩:=Zny htx h0 (by rw[hb];exact h1) h2 hzz hpos (hzl▸hz0 E.w E.S) (w0:=E.w)
         have:=ZdG (ty:=ty) hτ ht hi hz hsT hb hzz hpos hn1 hn2 g hobj hL hat (Nat.le_refl _) (by rw[List.length_replicate];exact h1) (by rw[List.length_replicate];exact h2) (ZiW hat)
         rw[List.take_length] at this
         exact⟨rfl,L,xs,hobj,hL,this⟩
        ·cases h
       ·cases h
      ·cases h
     ·cases h
    ·cases h
  ·cases h
 ·cases h
end
section
variable {P:Program} {τ:Zar} {E:Env} {os objs:Zat} {n:Nat}
theorem ZsC (hτ : Zbs P τ) {t ty : TypeId} {x : V} {out : Out} (h : ZsD τ os t x = some out) (hs : Sub os objs) (g : Z7 P E objs) {c : Value} (r : Rep P E x c) :
 ZdH P (Builtin.len_ #[t] ty #[c]) E objs out:=by
 have key:∀ {e:TypeId} {a:Option Addr} {m cap:Nat} {p:Option Prop},P.underlying t=some (.slice e)→c=.slice a m cap→ZdH P (Builtin.len_ #[t] ty #[c]) E objs ⟨p,.d (.int .i64) (m:Int),none⟩:=by
  intro e a m cap p ht hc
  subst hc
  exact .same g (v:=.int .i64 m) (by simp[Builtin.len_,run_underlying ht,goInt]) (.mk_int _ _)
 unfold ZsD at h
 split at h
 ·rename_i e sz by_ zero co hti
  have ht:P.underlying t=some (.slice e):=(hτ t _ hti).kind
  split at h
  ·cases h
   obtain⟨a,cap,hc,_⟩:=ZhH r
   exact key ht (by simpa using hc)
  ·cases h
   cases r
   exact key ht rfl
  ·split at h
   ·rename_i T xs hcs
    cases h
    obtain⟨L,hL,_,hat⟩:=g.get hs hcs
    obtain⟨K,hK,rfl⟩:=Zcf r
    rw[hL] at hK;cases hK
    rw[← hat.2.2.1]
    exact key ht rfl
   ·cases h
  ·cases h
   obtain⟨K,hK,a,rfl,_⟩:=Zdu r
   exact key ht rfl
  ·cases h
   obtain⟨K,hK,rfl⟩:=Zrr r
   exact key ht rfl
  ·cases h
 ·rename_i sz by_ zero co hti
  have ht:P.underlying t=some .string:=(hτ t _ hti).kind
  split at h
  ·rename_i s
   cases h
   rw[r.str_inv]
   exact .same g (v:=.int .i64 (ByteArray.size s)) (by simp[Builtin.len_,run_underlying ht,goInt]) (.mk_int _ _)
  ·cases h
 ·rename_i m e sz by_ zero co hti
  cases h
  have ht:P.underlying t=some (.array m e):=(hτ t _ hti).kind.1
  exact .same g (v:=.int .i64 m) (by simp[Builtin.len_,run_underlying ht,goInt]) (.mk_int _ _)
 ·cases h
theorem Zsr {w : World} {size m k : Nat} {news : List Value} {c : Value} (h : ZdJ w size m news c) (hsl : ∃ a m' cap, c = .slice a m' cap) (hk : k ≤ m) :
 (Builtin.firstCells size k c).run P w=.ok (news.take (k*size)).toArray w:=by
 obtain⟨h1,⟨a,cap,rfl,hx⟩ | ⟨s,rfl,_⟩⟩:=h
 ·have hm:k*size≤m*size:=Nat.mul_le_mul_right _ hk
  have:ZdJ w size k (news.take (k*size)) (.slice a k cap):=⟨by rw[List.length_take,h1];omega,.inl ⟨a,cap,rfl,fun hp=>by
   obtain⟨ad,h2,h3⟩:=hx (by omega)
   refine⟨ad,h2,fun j v hj=>h3 j v ?_⟩
   rw[List.getElem?_take] at hj
   split at hj
   ·exact hj
   ·cases hj⟩⟩
  have h4:=this.run (P:=P) (w':=w) rfl
  cases a<;>simpa[Builtin.firstCells] using h4
 ·obtain⟨_,_,_,h⟩:=hsl;cases h
theorem ZoT {td tx ty e : TypeId} {info : TypeInfo} {T : Ty} {ys : List T.den} {news : List Value} {c' : Value} (ht : P.underlying td = some (.slice e)) (hi : P.info? e = some info) (hsT : info.size = T.size)
 (hn1:Z3 E.w E.S T ys news) (hn2:ZdJ E.w T.size ys.length news c') (hsl:∃ a m' cap,c'=.slice a m' cap) (g:Z7 P E objs) {l lo k:Nat} {xs:List T.den} {L:Loc} (hobj:Zv l objs=some (.row T xs)) (hL:E.loc l=some L)
 (hat:ZaM P E L (.row T xs)) (hlo:lo+k≤xs.length) {p:Option Prop} {c0:Value} (hc0:L.Part lo k c0) :
 ZdH P (Builtin.copy_ #[td,tx] ty #[c0,c']) E objs ⟨p,.d (.int .i64) (min ys.length k:Nat),some (l,.row T (Zmr xs ys lo k),false)⟩:=by
 have hnl:=hn1.length
 have hmin:Nat.min ys.length k=min ys.length k:=rfl
 have hfirst:=Zsr (P:=P) hn2 hsl (Nat.min_le_left ys.length k)
 have hlen:=fun w=>hn2.lenOf (P:=P) w
 by_cases h0:min ys.length k=0
 ·
  have hcop:Zmr xs ys lo k=xs:=by
   simp only[Zmr,h0,List.take_zero,List.append_nil,Nat.add_zero,List.take_append_drop]
  rw[hcop]
  have hp:=Z7.put g (mv:=false) (L':=L) (o':=.row T xs) (w:=E.w) (row:=none) hobj hL ⟨rfl,rfl,rfl,Nat.le_refl _,fun _ _ _=>rfl⟩ (fun b hb=>by cases hb) (fun _=>rfl) (by
   refine hat.keep (⟨fun b hb=>⟨hb,rfl⟩,fun j K _ hK=>?_⟩:Ext E (E.setL E.w l L) []) (fun _=>rfl)
   by_cases e:j=l
   ·subst e;rw[hL] at hK;cases hK;exact ZP _ _ _ _
   ·rw[ZaB _ _ _ e];exact hK) (fun hh=>.inl ⟨hh,rfl⟩)
  refine⟨E.setL E.w l L,.int .i64 (0:Nat),?_,hp.1,hp.2,by rw[h0];exact .mk_int _ _⟩
  rw[h0] at hfirst
  simp only[Nat.zero_mul,List.take_zero] at hfirst
  rw[← hsT] at hfirst
  obtain⟨ad,rfl,_⟩:=hc0
  have hfc:(Builtin.firstCells info.size 0 c').run P E.w=.ok #[] E.w:=by simpa using hfirst
  show (Builtin.copy_ #[td,tx] ty #[.slice ad k (L.cap - lo),c']).run P E.w=.ok _ E.w
  simp only[Builtin.copy_,List.getElem?_toArray,List.getElem?_cons_zero,List.getElem?_cons_succ,Sem.run_bind,run_underlying ht,Result.andThen_ok,hlen,ZbN hi]
  show ((Builtin.firstCells info.size (Nat.min ys.length k) c').run P E.w).andThen _=_
  rw[hmin,h0,hfc]
  cases ad<;>simp[storeCells,goInt]
  all_goals (rw[show min k ys.length=0 by omega];rfl)
 ·have hk:0 < k:=by omega
  obtain⟨w,hst,g1,g2⟩:=Zg4 (lo:=lo) (ys:=ys.take (min ys.length k)) (vs:=news.take (min ys.length k*T.size)) g hobj hL hat (by rw[List.length_take];omega) (.inl (by rw[List.length_take];omega)) (hn1.take _)
  have htl:(ys.take (min ys.length k)).length=min ys.length k:=by rw[List.length_take];omega
  rw[htl] at g1 g2
  refine⟨E.setL w l L,.int .i64 (min ys.length k:Nat),?_,g1,g2,.mk_int _ _⟩
  rw[Zlp hat hlo hk hc0]
  rw[← hsT] at hfirst
  simp only[Builtin.copy_,List.getElem?_toArray,List.getElem?_cons_zero,List.getElem?_cons_succ,Sem.run_bind,run_underlying ht,Result.andThen_ok,hlen,ZbN hi]
  show ((Builtin.firstCells info.size (Nat.min ys.length k) c').run P E.w).andThen _=_
  rw[hmin,hfirst,hsT]
  simp only[Result.andThen_ok]
  show ((storeCells _ _).run P E.w).andThen _=_
  rw[hst]
  rfl
theorem Zp9 (hτ : Zbs P τ) {td tx ty : TypeId} {d x : V} {out : Out} (h : ZnD τ os td tx d x = some out) (hs : Sub os objs) (ho : okP out.ob) (g : Z7 P E objs) {c c' : Value} (rd : Rep P E d c) (rx : Rep P E x c') :
 ZdH P (Builtin.copy_ #[td,tx] ty #[c,c']) E objs out:=by
 unfold ZnD at h
 split at h
 ·rename_i e sz by_ zero co hti
  have ht:P.underlying td=some (.slice e):=(hτ td _ hti).kind
  split at h
  ·rename_i e2 sz2 by2 zero2 co2 hti2
   have htx:P.underlying tx=some (.slice e2):=(hτ tx _ hti2).kind
   split at h
   ·rename_i k size bytes zero' T hei
    have hei:=hτ e _ hei
    obtain⟨hTs,hpos,hz0⟩:=hei.code T rfl
    obtain⟨info,z,hi,hsz,_⟩:=hei.info
    have hsT:info.size=T.size:=by rw[hsz];exact hTs.symm
    split at h
    ·rename_i ys p hys
     have src:=fun hp:okP p=>Zo2 hys hs hp g rx
     have conj_inv:∀ {q:Prop},ZqD q p→okP p∧q:=fun {q} h=>by cases p with | none=>exact⟨trivial,h⟩ | some r=>exact h
     split at h
     ·split at h
      ·rename_i l t xs hcs
       split at h
       ·rename_i hT'
        subst hT'
        cases h
        obtain⟨⟨cs,hc1,hc2⟩,hsl⟩:=src ho
        obtain⟨L,hL,hobj,hat⟩:=g.get hs hcs
        obtain⟨K,hK,rfl⟩:=Zcf rd
        rw[hL] at hK;cases hK
        exact ZoT (ty:=ty) ht hi hsT hc1 hc2 hsl g hobj hL hat (by omega) (ZiW hat)
       ·cases h
      ·cases h
     ·split at h
      ·rename_i l lo k t xs hcs
       split at h
       ·rename_i hT'
        subst hT'
        cases h
        obtain⟨hp,hle⟩:=conj_inv ho
        obtain⟨⟨cs,hc1,hc2⟩,hsl⟩:=src hp
        obtain⟨L,hL,hobj,hat⟩:=g.get hs hcs
        obtain⟨K,hK,hpt⟩:=Zdu rd
        rw[hL] at hK;cases hK
        exact ZoT (ty:=ty) ht hi hsT hc1 hc2 hsl g hobj hL hat hle hpt
       ·cases h
      ·cases h
     ·cases h
    ·cases h
   ·cases h
  ·cases h
 ·cases h
end
section
variable {P:Program} {τ:Zar} {E:Env} {os objs:Zat} {n:Nat}
def Zgm(P:Program)(E:Env)(v:Option V)(c:Option Value):Prop:=match v,c with
 | none,none=>True
 | some v,some c=>Rep P E v c
 | _,_=>False
def Zkt(m:Nat)(lo hi:Option V):Option (Option Prop×Nat×Nat):=match lo,hi with
 | none,none=>some (none,0,m)
 | none,some (.d (.int _) h)=>some (some (0≤h∧h≤(m:Int)),0,Int.toNat h)
 | some (.d (.int _) a),none=>some (some (0≤a∧a≤(m:Int)),Int.toNat a,m)
 | some (.d (.int _) a),some (.d (.int _) h)=>some (some (0≤a∧a≤h∧h≤(m:Int)),Int.toNat a,Int.toNat h)
 | _,_=>none
theorem ZcG{k:IntKind}{i:Int}{y:Nat}{code:BoundsCode}(h0:0≤i)(h1:i≤(y:Int))(w:World):(Instr.sliceBound (.int k i) y code).run P w=.ok i.toNat w:=by
 simp[Instr.sliceBound,asIntOf,h0,h1]
theorem Zfn {m cap : Nat} {lo hi : Option V} {lo' hi' : Option Value} {ob : Option Prop} {l h : Nat} (hb : Zkt m lo hi = some (ob, l, h)) (ho : okP ob) (hcap : m ≤ cap) (rl : Zgm P E lo lo') (rh : Zgm P E hi hi') (w : World) :
 l≤h∧h≤m∧(Instr.sliceBounds true m cap lo' hi' none).run P w=.ok (l,h,cap) w:=by
 unfold Zkt at hb
 split at hb
 ·cases hb
  cases lo'<;>cases hi'<;>first | exact rl.elim | exact rh.elim | skip
  exact⟨Nat.zero_le _,Nat.le_refl _,by simp[Instr.sliceBounds]⟩
 ·rename_i k h0
  obtain⟨h1,hh⟩:∃ h1:Int,h1=h0:=⟨h0,rfl⟩
  subst hh
  cases hb
  obtain⟨h2,h3⟩:0≤h1∧h1≤(m:Int):=ho
  cases lo'<;>cases hi'<;>first | exact rl.elim | exact rh.elim | skip
  rename_i u
  have:=Rep.int_inv (show Rep P E (.d (.int k) h1) u from rh)
  subst this
  exact⟨Nat.zero_le _,by omega,by simp[Instr.sliceBounds,ZcG h2 (show h1≤(cap:Int) by omega)]⟩
 ·rename_i k a0
  obtain⟨a,hh⟩:∃ a:Int,a=a0:=⟨a0,rfl⟩
  subst hh
  cases hb
  obtain⟨h2,h3⟩:0≤a∧a≤(m:Int):=ho
  cases lo'<;>cases hi'<;>first | exact rl.elim | exact rh.elim | skip
  rename_i u
  have:=Rep.int_inv (show Rep P E (.d (.int k) a) u from rl)
  subst this
  exact⟨by omega,Nat.le_refl _,by simp[Instr.sliceBounds,ZcG h2 h3]⟩
 ·rename_i k a0 k2 h0
  obtain⟨a,hh⟩:∃ a:Int,a=a0:=⟨a0,rfl⟩
  subst hh
  obtain⟨h1,hh⟩:∃ h1:Int,h1=h0:=⟨h0,rfl⟩
  subst hh
  cases hb
  obtain⟨h2,h3,h4⟩:0≤a∧a≤h1∧h1≤(m:Int):=ho
  cases lo'<;>cases hi'<;>first | exact rl.elim | exact rh.elim | skip
  rename_i u u2
  have:=Rep.int_inv (show Rep P E (.d (.int k) a) u from rl)
  subst this
  have:=Rep.int_inv (show Rep P E (.d (.int k2) h1) u2 from rh)
  subst this
  have e2:((h1.toNat:Nat):Int)=h1:=Int.toNat_of_nonneg (by omega)
  exact⟨by omega,by omega,by simp[Instr.sliceBounds,ZcG (show (0:Int)≤h1 by omega) (show h1≤(cap:Int) by omega),ZcG h2 (show a≤((h1.toNat:Nat):Int) by omega)]⟩
 ·cases hb
theorem Zf8{mk:Nat→Nat→V}{base m:Nat}{lo hi:Option V}{out:Out}(h:ZjI mk base m lo hi=some out):∃ ob l k,Zkt m lo hi=some (ob,l,k)∧out.ob=ob∧out.ed=none∧out.v=mk (base+l) (k - l):=by
 unfold ZjI at h
 split at h
 ·split at h
  ·cases h;exact⟨_,_,_,rfl,rfl,rfl,rfl⟩
  ·split at h
   ·cases h;exact⟨_,_,_,rfl,rfl,rfl,rfl⟩
   ·cases h
 ·split at h
  ·split at h
   ·cases h;exact⟨_,_,_,rfl,rfl,rfl,rfl⟩
   ·split at h
    ·cases h;exact⟨_,_,_,rfl,rfl,rfl,rfl⟩
    ·cases h
  ·cases h
theorem ZkO {T : Ty} {l : List T.den} {a : Option Addr} {n cap : Nat} (h : ZbD E.w E.S (.sl T) l [.slice a n cap]) (hpos : 0 < T.size) (lo hi : Nat) (h1 : lo ≤ hi) (h2 : hi ≤ l.length) :
 ZbD E.w E.S (.sl T) ((l.take hi).drop lo) [.slice (if cap=lo then a else a.map (·.add (lo*T.size))) (hi - lo) (cap - lo)]:=by
 obtain⟨a',cap',hc,hcap,hl⟩:=h
 simp only[List.cons.injEq,Value.slice.injEq,and_true] at hc
 obtain⟨rfl,rfl,rfl⟩:=hc
 have hlen:((l.take hi).drop lo).length=hi - lo:=by simp;omega
 refine⟨_,_,by rw[hlen],by rw[hlen];omega,fun hne=>?_⟩
 have hlt:lo < hi:=by
  rcases Nat.lt_or_ge lo hi with h | h
  ·exact h
  ·exact absurd (List.eq_nil_of_length_eq_zero (by rw[hlen];omega)) hne
 obtain⟨b,off,rfl,hS,hx⟩:=hl (fun e=>by rw[e] at h2;simp at h2;omega)
 refine⟨b,off+lo*T.size,?_,hS,fun i x hi'=>?_⟩
 ·rw[if_neg (by omega)];simp[Addr.add_lit]
 ·rw[List.getElem?_drop,List.getElem?_take] at hi'
  split at hi'
  ·obtain⟨cs,h3,h4⟩:=hx (lo+i) x hi'
   refine⟨cs,h3,fun j u hj=>?_⟩
   rw[show off+lo*T.size+i*T.size+j=off+(lo+i)*T.size+j from by rw[Nat.add_mul];omega]
   exact h4 j u hj
  ·cases hi'
theorem Zej {t e : TypeId} {ei : TI} {a : Option Addr} {m cap l h c : Nat} {lo' hi' mx' : Option Value} (ht : P.underlying t = some (.slice e)) (hei : ei.Ok P e) (w : World)
 (hb:(Instr.sliceBounds true m cap lo' hi' mx').run P w=.ok (l,h,c) w) :
 (Instr.sliceAt t (.slice a m cap) lo' hi' mx').run P w=.ok (.slice (if c=l then a else a.map (·.add (l*ei.size))) (h - l) (c - l)) w:=by
 obtain⟨info,z,hinf,hs,_⟩:=hei.info
 simp[Instr.sliceAt,run_underlying ht,Instr.slice,hb,ZbN hinf,hs]
theorem Zvp {m cap : Nat} {lo hi mx : Option V} {lo' hi' mx' : Option Value} {ob p : Option Prop} {l h : Nat} (hb : Zkt m lo hi = some (ob, l, h)) (hne : ∃ q, mx = some q) (hm : ZrD mx m = some p) (ho : okP ob) (hp : okP p) (hcap : m ≤ cap)
 (rl:Zgm P E lo lo') (rh:Zgm P E hi hi') (rm:Zgm P E mx mx') (w:World) (hhi:∃ q,hi=some q):∃ c,(Instr.sliceBounds true m cap lo' hi' mx').run P w=.ok (l,h,c) w:=by
 obtain⟨q,rfl⟩:=hne
 unfold ZrD at hm
 split at hm
 ·cases ‹some q=none›
 ·rename_i k x0 hq
  obtain⟨x,hh⟩:∃ x:Int,x=x0:=⟨x0,rfl⟩
  subst hh
  cases hq
  cases hm
  have hx:x=(m:Int):=hp
  cases mx' with
  | none=>exact rm.elim
  | some u =>
    have:=Rep.int_inv (show Rep P E (.d (.int k) x) u from rm)
    subst this
    have hxc:(Instr.sliceBound (.int k x) cap .slice3Acap).run P w=.ok m w:=by rw[ZcG (by omega) (by omega),hx];rfl
    unfold Zkt at hb
    split at hb
    ·obtain⟨_,h⟩:=hhi;cases h
    ·rename_i k2 h0
     obtain⟨h1,hh⟩:∃ h1:Int,h1=h0:=⟨h0,rfl⟩
     subst hh
     cases hb
     obtain⟨h2,h3⟩:0≤h1∧h1≤(m:Int):=ho
     cases lo'<;>cases hi'<;>first | exact rl.elim | exact rh.elim | skip
     rename_i u2
     have:=Rep.int_inv (show Rep P E (.d (.int k2) h1) u2 from rh)
     subst this
     exact⟨m,by simp[Instr.sliceBounds,hxc,ZcG h2 h3]⟩
    ·obtain⟨_,h⟩:=hhi;cases h
    ·rename_i k1 a0 k2 h0
     obtain⟨a,hh⟩:∃ a:Int,a=a0:=⟨a0,rfl⟩
     subst hh
     obtain⟨h1,hh⟩:∃ h1:Int,h1=h0:=⟨h0,rfl⟩
     subst hh
     cases hb
     obtain⟨h2,h3,h4⟩:0≤a∧a≤h1∧h1≤(m:Int):=ho
     cases lo'<;>cases hi'<;>first | exact rl.elim | exact rh.elim | skip
     rename_i u1 u2
     have:=Rep.int_inv (show Rep P E (.d (.int k1) a) u1 from rl)
     subst this
     have:=Rep.int_inv (show Rep P E (.d (.int k2) h1) u2 from rh)
     subst this
     have e2:((h1.toNat:Nat):Int)=h1:=Int.toNat_of_nonneg (by omega)
     exact⟨m,by simp[Instr.sliceBounds,hxc,ZcG (show (0:Int)≤h1 by omega) h4,ZcG h2 (show a≤((h1.toNat:Nat):Int) by omega)]⟩
    ·cases hb
 ·cases hm
theorem ZnJ{L:Loc}{T:Ty}{xs:List T.den}(h:ZaM P E L (.row T xs)):xs.length≤L.cap:=by
 obtain⟨_,_,_,_,_,_,⟨h1,rfl⟩ | ⟨cur,_,_,h3,_⟩⟩:=h
 ·simp
 ·exact h3
theorem ZnV (hτ : Zbs P τ) {t : TypeId} {x : V} {lo hi mx : Option V} {out : Out} (h : Zl7 τ os t x lo hi mx = some out) (hs : Sub os objs) (ho : okP out.ob) (g : Z7 P E objs) {c : Value} {lo' hi' mx' : Option Value} (rx : Rep P E x c)
 (rl:Zgm P E lo lo') (rh:Zgm P E hi hi') (rm:Zgm P E mx mx'):ZdH P (Instr.sliceAt t c lo' hi' mx') E objs out:=by
 unfold Zl7 at h
 split at h
 ·rename_i e sz by_ zero co hti
  have ht:P.underlying t=some (.slice e):=(hτ t _ hti).kind
  split at h
  ·rename_i ei hei
   have hei:=hτ e _ hei
   split at h
   ·rename_i T l
    split at h
    ·rename_i hsz
     simp only[Bool.and_eq_true,Nat.blt_eq] at hsz
     obtain⟨hsz,hpos⟩:=hsz
     have hsz:=Nat.eq_of_beq_eq_true hsz
     have hc:=ZhH rx
     obtain⟨a,cap,hc',hcap,_⟩:=id hc
     have hc'':c=.slice a (List.length (α:=T.den) l) cap:=by simpa using hc'
     subst hc''
     split at h
     ·cases mx' with
      | some _=>exact rm.elim
      | none =>
        have key : ∀ {ob : Option Prop} {lo1 hi1 : Nat}, Zkt (List.length (α := T.den) l) lo hi = some (ob, lo1, hi1) → okP ob →
         ZdH P (Instr.sliceAt t (.slice a (List.length (α:=T.den) l) cap) lo' hi' none) E objs ⟨ob,.d (.sl T) ((List.take (α:=T.den) hi1 l).drop lo1),none⟩:=by
         intro ob lo1 hi1 hb ho
         obtain⟨h1,h2,h3⟩:=Zfn hb ho hcap.1 rl rh E.w
         have hp:=ZkO hc hpos lo1 hi1 h1 h2
         rw[hsz] at hp
         exact .same g (Zej ht hei E.w h3) (.d hp)
        split at h
        ·split at h
         ·cases h
          have:=key rfl trivial
          simpa using this
         ·split at h
          ·cases h
           have:=key rfl ho
           simpa using this
          ·cases h
        ·split at h
         ·split at h
          ·cases h
           have:=key rfl ho
           rw[List.take_length] at this
           exact this
          ·split at h
           ·cases h
            exact key rfl ho
           ·cases h
         ·cases h
     ·split at h
      ·rename_i m hz
       cases h
       unfold Zwl at hz
       split at hz
       ·split at hz
        ·split at hz
         ·rename_i k1 _ k2 hmx
          cases hmx
          cases lo' with
          | some _=>exact rl.elim
          | none =>
            cases hi' with
            | none=>exact rh.elim
            | some u =>
              cases mx' with
              | none=>exact rm.elim
              | some u2 =>
                have:=Rep.int_inv (show Rep P E (.d (.int k1) (0:Int)) u from rh)
                subst this
                have:=Rep.int_inv (show Rep P E (.d (.int k2) (0:Int)) u2 from rm)
                subst this
                have hb0:∀ (k:IntKind) (y:Nat) code,(Instr.sliceBound (.int k 0) y code).run P E.w=.ok 0 E.w:=fun k y code=>ZcG (by omega) (by omega) E.w
                exact .same g (Zej ht hei E.w (l:=0) (h:=0) (c:=0) (by simp[Instr.sliceBounds,hb0])) (.nils _)
         ·cases hz
        ·cases hz
       ·cases hz
      ·cases h
    ·cases h
   ·rename_i l
    split at h
    ·rename_i T xs hcs
     split at h
     ·rename_i hsz
      have hsz:=Nat.eq_of_beq_eq_true hsz
      obtain⟨L,hL,_,hat⟩:=g.get hs hcs
      obtain⟨K,hK,rfl⟩:=Zcf rx
      rw[hL] at hK;cases hK
      have hcap:=ZnJ hat
      split at h
      ·rename_i m hm
       split at h
       ·rename_i ob v ed hp
        obtain⟨ob',l1,k1,hb,h1,h2,h3⟩:=Zf8 hp
        simp only at h1 h2 h3
        subst h1 h2 h3
        split at h
        ·cases h
         have hmx:mx=none:=by
          unfold ZrD at hm
          split at hm
          ·rfl
          ·cases hm
          ·cases hm
         subst hmx
         cases mx' with
         | some _=>exact rm.elim
         | none =>
           obtain⟨h4,h5,h6⟩:=Zfn (cap:=L.cap) hb ho hcap rl rh E.w
           rw[Loc.v,hat.2.2.1]
           refine .same g (Zej ht hei E.w h6) ?_
           rw[Nat.zero_add]
           refine .osp hL ⟨_,rfl,fun hne=>?_⟩
           rw[if_neg hne,hat.1,hsz]
        ·rename_i m'
         split at h
         ·rename_i hi0
          cases h
          have hconj:∀ {q:Prop} {p:Option Prop},ZqD q p→okP p∧q:=fun {q p} h=>by cases p with | none=>exact⟨trivial,h⟩ | some r=>exact h
          obtain⟨ho1,ho2⟩:=hconj ho
          have hmx:∃ q,mx=some q:=by
           unfold ZrD at hm
           split at hm
           ·cases hm
           ·exact⟨_,rfl⟩
           ·cases hm
          obtain⟨c,h6⟩:=Zvp (cap:=L.cap) hb hmx hm ho1 ho2 hcap rl rh rm E.w ⟨_,rfl⟩
          rw[Loc.v,hat.2.2.1]
          exact .same g (Zej ht hei E.w h6) (.any _)
         ·cases h
       ·cases h
      ·cases h
     ·cases h
    ·cases h
   ·rename_i l base m
    split at h
    ·rename_i T xs hcs
     split at h
     ·rename_i hsz
      have hsz:=Nat.eq_of_beq_eq_true hsz
      obtain⟨L,hL,_,hat⟩:=g.get hs hcs
      obtain⟨K,hK,a,rfl,ha⟩:=Zdu rx
      rw[hL] at hK;cases hK
      have hcap:=ZnJ hat
      split at h
      ·cases mx' with
       | some _=>exact rm.elim
       | none =>
         split at h
         ·rename_i ob v ed hp
          obtain⟨ob',l1,k1,hb,h1,h2,h3⟩:=Zf8 hp
          simp only at h1 h2 h3
          subst h1 h2 h3
          cases h
          have hconj:∀ {q:Prop} {p:Option Prop},ZqD q p→okP p∧q:=fun {q p} h=>by cases p with | none=>exact⟨trivial,h⟩ | some r=>exact h
          obtain⟨ho1,ho2⟩:=hconj ho
          have hle : ZuX m (xs.length - base) hi ≤ xs.length - base := by cases hi with
           | none=>show m≤_;omega
           | some _=>exact Nat.le_refl _
          obtain⟨h4,h5,h6⟩:=Zfn (cap:=L.cap - base) hb ho1 (by omega) rl rh E.w
          replace h6:(Instr.sliceBounds true m (L.cap - base) lo' hi' none).run P E.w=.ok (l1,k1,L.cap - base) E.w:=by
           cases hi with
           | none=>exact h6
           | some q=>cases hi' with
             | none=>exact rh.elim
             | some u=>exact h6
          refine .same g (Zej ht hei E.w h6) (.osp hL ⟨_,by rw[Nat.sub_sub],fun hne=>?_⟩)
          rw[if_neg (by omega),ha (by omega),← hsz,← hat.1]
          obtain⟨hesz,hpos,hlen,e',cs,h9,h10⟩:=hat
          rcases h10 with ⟨h11,rfl⟩ | ⟨cur,hv1,_⟩
          ·simp at ho2;omega
          ·simp[hv1,Addr.add_lit,Nat.add_mul]
         ·cases h
      ·cases h
     ·cases h
    ·cases h
   ·split at h
    ·cases mx' with
     | some _=>exact rm.elim
     | none =>
       split at h
       ·rename_i o hp
        cases h
        obtain⟨ob',l1,k1,hb,h1,h2,h3⟩:=Zf8 hp
        cases rx with
        | nils a =>
          obtain⟨h4,h5,h6⟩:=Zfn (cap:=0) hb (h1▸ho) (Nat.le_refl 0) rl rh E.w
          have hl1:l1=0:=by omega
          have hk1:k1=0:=by omega
          subst hl1 hk1
          exact .same' g h2 (Zej ht hei E.w h6) (by rw[h3];exact .nils _)
       ·cases h
    ·cases h
   ·cases h
  ·cases h
 ·cases h
end
section
variable {P:Program} {τ:Zar} {E:Env} {os objs:Zat} {n:Nat}
def ZhR(w:World)(b:Nat)(o:Go.Obj):World:={ w with heap:=w.heap.setIfInBounds b o }
theorem ZkQ{w:World}{b clock:Nat}{es:Array MapEntry}(hb:w.heap[b]?=some (.map es clock)):(getObj b).run P w=.ok (.map es clock) w:=by simp[getObj,Sem.run,hb]
theorem Zqz{w:World}{b clock:Nat}{es:Array MapEntry}(hb:w.heap[b]?=some (.map es clock))(o:Go.Obj):(setObj b o).run P w=.ok () (ZhR w b o):=by
 simp only[setObj,Sem.run,hb,ZhR]
section
variable {κ:Type} [DecidableEq κ] {f:κ→Value} {d:TypeDesc} {kt:TypeId}
theorem ZjS (hs : ∀ a b, Instr.sameNow d (f a) (f b) = some (decide (a = b))) (a : κ) : ∀ (l : List MapEntry) (i : Nat), (∀ e ∈ l, ∃ k, e.key = f k) →
 (∃ j e,l[j]?=some e∧e.key=f a∧Instr.findNow d (f a) l i=some (some (i+j,e.val)))∨((∀ e∈l,∀ k,e.key=f k→k≠a)∧Instr.findNow d (f a) l i=some none)
 | [],i,_=>.inr ⟨fun e he=>by simp at he,rfl⟩
 | e::l,i,h=>by
   obtain⟨k,hk⟩:=h e (by simp)
   by_cases hka:a=k
   ·subst hka
    exact .inl ⟨0,e,rfl,hk,by simp[Instr.findNow,hk,hs]⟩
   ·rcases ZjS hs a l (i+1) (fun e he=>h e (by simp[he])) with ⟨j,e',h1,h2,h3⟩ | ⟨h1,h2⟩
    ·exact .inl ⟨j+1,e',by simpa using h1,h2,by simp[Instr.findNow,hk,hs,hka,h3];omega⟩
    ·refine .inr ⟨fun x hx k' hk'=>?_,by simp[Instr.findNow,hk,hs,hka,h2]⟩
     rcases List.mem_cons.1 hx with rfl | hx
     ·intro e'
      subst e'
      have:Instr.sameNow d (f k') (f k)=some true:=by rw[← hk,hk',hs];simp
      rw[hs] at this
      simp at this
      exact hka this
     ·exact h1 x hx k' hk'
theorem Zjo (hd : P.underlying kt = some d) (hs : ∀ a b, Instr.sameNow d (f a) (f b) = some (decide (a = b))) (a : κ) (l : List MapEntry) (h : ∀ e ∈ l, ∃ k, e.key = f k) :
 (∃ j e,l[j]?=some e∧e.key=f a∧∀ w,(Instr.findKey kt (f a) l).run P w=.ok (some (j,e.val)) w)∨((∀ e∈l,∀ k,e.key=f k→k≠a)∧∀ w,(Instr.findKey kt (f a) l).run P w=.ok none w):=by
 rcases ZjS hs a l 0 h with ⟨j,e,h1,h2,h3⟩ | ⟨h1,h2⟩
 ·exact .inl ⟨j,e,h1,h2,fun w=>by simp[Instr.findKey,run_underlying hd,h3]⟩
 ·exact .inr ⟨h1,fun w=>by simp[Instr.findKey,run_underlying hd,h2]⟩
theorem ZqS(hs:∀ a b,Instr.sameNow d (f a) (f b)=some (decide (a=b))){a b:κ}(h:f a=f b):a=b:=by
 have h1:=hs a b
 rw[h,hs b b] at h1
 simp at h1
 exact h1
theorem Zi1 {t e : TypeId} {T : Ty} {m : κ → Option T.den} {es : Array MapEntry} {w : World} {clock b : Nat} {z : Value} (ht : P.underlying t = some (.map kt e)) (hd : P.underlying kt = some d)
 (hs:∀ a b,Instr.sameNow d (f a) (f b)=some (decide (a=b))) (hck:∀ a w b n,(Instr.checkKey b (n+1) kt (f a)).run P w=.ok () w) (hz:(zeroValue e).run P w=.ok z w) (hz1:ZbD w E.S T T.dflt [z])
 (hb:w.heap[b]?=some (.map es clock)) (h:Zeq f w E.S T m es) (a:κ) :
 ∃ v,ZbD w E.S T ((m a).getD T.dflt) [v]∧∀ ok,(Instr.lookup t (.map (some b)) (f a) ok).run P w=.ok (if ok then .tuple #[v,.bool (m a).isSome] else v) w:=by
 obtain⟨h1,h2,h3⟩:=h
 have hck':∀ b,(Instr.checkKey b 10000 kt (f a)).run P w=.ok () w:=fun b=>hck a w b 9999
 have hg:=ZkQ (P:=P) hb
 rcases Zjo (P:=P) hd hs a es.toList (fun e he=>let ⟨k,_,hk,_⟩:=h1 e he;⟨k,hk⟩) with ⟨j,e0,h4,h5,h6⟩ | ⟨h4,h5⟩
 ·obtain⟨k,x,h7,h8,h9⟩:=h1 e0 (List.mem_of_getElem? h4)
  have hk:=ZqS hs (h5.symm.trans h7)
  subst hk
  refine⟨e0.val,by rw[h8];exact h9,fun ok=>?_⟩
  cases ok<;>simp[Instr.lookup,run_underlying ht,hg,hck',h6,h8]
 ·have hn:m a=none:=by
   cases hm:m a with
   | none=>rfl
   | some x =>
     obtain⟨e0,he0,hk⟩:=h2 a x hm
     exact absurd rfl (h4 e0 he0 a hk)
  refine⟨z,by rw[hn];exact hz1,fun ok=>?_⟩
  cases ok<;>simp[Instr.lookup,run_underlying ht,hg,hck',h5,hz,hn]
theorem Ziz {t e : TypeId} {T : Ty} {m : κ → Option T.den} {es : Array MapEntry} {w : World} {clock b : Nat} {v : Value} {x : T.den} (ht : P.underlying t = some (.map kt e)) (hd : P.underlying kt = some d)
 (hs:∀ a b,Instr.sameNow d (f a) (f b)=some (decide (a=b))) (hck:∀ a w b n,(Instr.checkKey b (n+1) kt (f a)).run P w=.ok () w) (hbits:∀ a,Instr.sameBits 10000 (f a) (f a)=true)
 (hv:ZbD w E.S T x [v]) (hb:w.heap[b]?=some (.map es clock)) (h:Zeq f w E.S T m es) (a:κ) :
 ∃ es' clock',(Instr.mapUpdate t (.map (some b)) (f a) v).run P w=.ok () (ZhR w b (.map es' clock'))∧Zeq f w E.S T (ZdP m a x) es':=by
 obtain⟨h1,h2,h3⟩:=h
 have hck':(Instr.checkKey false 10000 kt (f a)).run P w=.ok () w:=hck a w false 9999
 have hg:=ZkQ (P:=P) hb
 have hset:=Zqz (P:=P) hb
 rcases Zjo (P:=P) hd hs a es.toList (fun e he=>let ⟨k,_,hk,_⟩:=h1 e he;⟨k,hk⟩) with ⟨j,e0,h4,h5,h6⟩ | ⟨h4,h5⟩
 ·have hj:es[j]?=some e0:=by simpa using h4
  have hjl:j < es.toList.length:=(List.getElem?_eq_some_iff.1 h4).1
  refine⟨es.modify j fun e=>{ e with key:=f a,val:=v },clock,?_,fun e1 he1=>?_,fun k y hk=>?_,?_⟩
  ·simp[Instr.mapUpdate,run_underlying ht,hg,hck',h6,hj,Instr.keyThatStays,h5,hbits,hset]
  ·simp only[Array.toList_modify] at he1
   obtain⟨i,hi⟩:=List.mem_iff_getElem?.1 he1
   rw[List.getElem?_modify] at hi
   by_cases hij:j=i
   ·subst hij
    simp[hj] at hi
    subst hi
    exact⟨a,x,rfl,by simp[ZdP],hv⟩
   ·have hi2:es.toList[i]?=some e1:=by simpa[hij] using hi
    clear hi
    obtain⟨k,y,h7,h8,h9⟩:=h1 e1 (List.mem_of_getElem? hi2)
    refine⟨k,y,h7,?_,h9⟩
    unfold ZdP
    rw[if_neg ?_]
    ·exact h8
    ·intro hk
     subst hk
     have hii:i < es.toList.length:=(List.getElem?_eq_some_iff.1 hi2).1
     have hk1:(es.toList.map fun e=>e.key)[j]?=some (f k):=by rw[List.getElem?_map,h4];simp[h5]
     have hk2:(es.toList.map fun e=>e.key)[i]?=some (f k):=by rw[List.getElem?_map,hi2];simp[h7]
     obtain⟨hj1,hj2⟩:=List.getElem?_eq_some_iff.1 hk1
     obtain⟨hi3,hi4⟩:=List.getElem?_eq_some_iff.1 hk2
     rcases Nat.lt_or_gt_of_ne hij with hlt | hgt
     ·exact List.pairwise_iff_getElem.1 h3 j i hj1 hi3 hlt (hj2.trans hi4.symm)
     ·exact List.pairwise_iff_getElem.1 h3 i j hi3 hj1 hgt (hi4.trans hj2.symm)
  ·unfold ZdP at hk
   by_cases hka:k=a
   ·subst hka
    exact⟨{ e0 with key:=f k,val:=v },List.mem_of_getElem? (i:=j) (by simp[hj]),rfl⟩
   ·rw[if_neg hka] at hk
    obtain⟨e1,he1,hk1⟩:=h2 k y hk
    obtain⟨i,hi⟩:=List.mem_iff_getElem?.1 he1
    refine⟨e1,List.mem_of_getElem? (i:=i) ?_,hk1⟩
    simp only[Array.toList_modify,List.getElem?_modify]
    by_cases hij:j=i
    ·subst hij
     rw[h4] at hi
     cases hi
     exact absurd (ZqS hs (hk1.symm.trans h5)) hka
    ·simp[hij];simpa using hi
  ·have:(es.modify j fun e=>{ e with key:=f a,val:=v }).toList.map (fun e=>e.key)=es.toList.map fun e=>e.key:=by
    apply List.ext_getElem?
    intro i
    simp only[Array.toList_modify,List.getElem?_map,List.getElem?_modify]
    by_cases hij:j=i
    ·subst hij;simp[hj,h5]
    ·simp[hij]
   rw[this]
   exact h3
 ·refine⟨es.push { key:=f a,val:=v,born:=clock },clock+1,?_,fun e1 he1=>?_,fun k y hk=>?_,?_⟩
  ·simp[Instr.mapUpdate,run_underlying ht,hg,hck',h5,hset]
  ·simp only[Array.toList_push,List.mem_append,List.mem_singleton] at he1
   rcases he1 with he1 | rfl
   ·obtain⟨k,y,h7,h8,h9⟩:=h1 e1 he1
    refine⟨k,y,h7,?_,h9⟩
    unfold ZdP
    rw[if_neg (h4 e1 he1 k h7)]
    exact h8
   ·exact⟨a,x,rfl,by simp[ZdP],hv⟩
  ·unfold ZdP at hk
   by_cases hka:k=a
   ·subst hka
    exact⟨{ key:=f k,val:=v,born:=clock },by simp,rfl⟩
   ·rw[if_neg hka] at hk
    obtain⟨e1,he1,hk1⟩:=h2 k y hk
    exact⟨e1,by simp[Array.mem_toList_iff.1 he1],hk1⟩
  ·simp only[Array.toList_push,List.map_append,List.map_cons,List.map_nil]
   rw[List.nodup_append]
   refine⟨h3,by simp,fun u hu v' hv'=>?_⟩
   simp only[List.mem_singleton] at hv'
   subst hv'
   obtain⟨e1,he1,rfl⟩:=List.mem_map.1 hu
   obtain⟨k,y,h7,_⟩:=h1 e1 he1
   intro he
   exact h4 e1 he1 k h7 (ZqS hs (h7.symm.trans he))
end
theorem ZoE (g : Z7 P E objs) (hf : E.loc n = none) {κ : Type} {f : κ → Value} {T : Ty} (o : Obj)
 (hobj:∀ (E':Env) (L:Loc),(∃ es clock,E'.w.heap[L.b]?=some (.map es clock)∧Zeq f E'.w E'.S T (fun _=>none) es)→ZaM P E' L o) :
 ∃ E',E'.w=E.w.alloc (.map #[] 0)∧Z7 P E' ((n,o)::objs)∧ZcH E objs E' ((n,o)::objs) []∧Rep P E' (.map n) (.map (some E.w.heap.size)):=by
 have hw:=World.grownBy_alloc E.w (.map #[] 0) none
 let L:Loc:={ b:=E.w.heap.size }
 have h:=Z7.push g (L:=L) (o:=o) hf hw (hobj _ _ ⟨#[],0,heap_alloc_new _ _,fun e he=>by simp at he,fun k x hk=>by simp at hk,by simp⟩) (fun _=>Nat.le_refl _)
 exact⟨_,rfl,h.1,h.2,.map (ZP _ _ _ _)⟩
theorem Zlu(hτ:Zbs P τ){t:TypeId}{out:Out}(h:Zg8 τ n t=some out)(g:Z7 P E objs)(hf:E.loc n=none):ZdH P (Instr.makeMap t none) E objs out:=by
 unfold Zg8 at h
 split at h
 ·split at h
  ·rename_i T _
   split at h
   ·split at h
    ·cases h
     obtain⟨E',hw,h1,h2,h3⟩:=ZoE g hf (f:=Value.string) (T:=T) (.smap T fun _=>none) (fun E' L h=>h)
     exact⟨E',_,by rw[hw];simp[Instr.makeMap],h1,h2,h3⟩
    ·cases h
     obtain⟨E',hw,h1,h2,h3⟩:=ZoE g hf (f:=Value.int .i64) (T:=T) (.imap T fun _=>none) (fun E' L h=>h)
     exact⟨E',_,by rw[hw];simp[Instr.makeMap],h1,h2,h3⟩
    ·cases h
   ·cases h
  ·cases h
 ·cases h
theorem Zkf {e : TypeId} {ei : TI} {T : Ty} (hei : ei.Ok P e) (hT : ei.code = some T) (h1 : T.size = 1) (hz : ∃ ie ze, P.info? e = some ie ∧ ie.zero = some ze ∧ ze.oneCell' = true) :
 ∃ z,(∀ w,(zeroValue e).run P w=.ok z w)∧∀ w S,ZbD w S T T.dflt [z]:=by
 obtain⟨ie,ze,hi,hz1,hz2⟩:=hz
 obtain⟨info,z,hinf,hs,hb,hz3,hzl,hzs⟩:=hei.info
 rw[hi] at hinf
 cases hinf
 rw[hz1] at hz3
 cases hz3
 refine⟨ze,fun w=>ZdW hi hz1 w,fun w S=>?_⟩
 have:=(hei.code T hT).2.2 w S
 rw[← hzl,ZeP hz2] at this
 exact this
theorem ZuI(a b:ByteArray):(a == b)=decide (a=b):=by
 obtain⟨a⟩:=a
 obtain⟨b⟩:=b
 show (a == b)=_
 by_cases h:a=b
 ·subst h;simp
 ·have h2:¬ (ByteArray.mk a=ByteArray.mk b):=fun e=>h (by cases e;rfl)
  simp[h]
theorem Zpr:∀ a b:ByteArray,Instr.sameNow .string (.string a) (.string b)=some (decide (a=b)):=fun a b=>by
 simp only[Instr.sameNow,ZuI]
theorem Zpj(q:IntKind):∀ a b:Int,Instr.sameNow (.int q) (.int .i64 a) (.int .i64 b)=some (decide (a=b)):=fun a b=>by
 by_cases h:a=b
 ·subst h;simp[Instr.sameNow]
 ·simp[Instr.sameNow,h]
theorem Zm7{T:Ty}{x:Option T.den}{ok:Bool}{v:Value}(h:ZbD E.w E.S T (x.getD T.dflt) [v]):Rep P E (ZvG ok T x) (if ok then .tuple #[v,.bool x.isSome] else v):=by
 cases ok with
 | false=>exact .d h
 | true =>
   refine .tup rfl (fun j hj=>?_)
   match j,hj with
   | 0,_=>exact .d h
   | 1,_=>exact .mk_bool _
theorem Zmn (hτ : Zbs P τ) {t : TypeId} {m k : V} {ok : Bool} {out : Out} (h : ZiJ τ os t m k ok = some out) (hs : Sub os objs) (g : Z7 P E objs) {c d : Value} (rm : Rep P E m c) (rk : Rep P E k d) :
 ZdH P (Instr.lookup t c d ok) E objs out:=by
 unfold ZiJ at h
 split at h
 ·rename_i kt e _ _ _ _ hti
  obtain⟨ht,hz⟩:=(hτ t _ hti).kind
  split at h
  ·rename_i l
   obtain⟨K,hK,rfl⟩:=ZrQ rm
   split at h
   ·rename_i k0 sz by_ zero T h2
    split at h
    ·rename_i h1
     have hkd:P.underlying kt=some .string:=(hτ kt _ h1).kind
     split at h
     ·rename_i T' f h3
      split at h
      ·rename_i s
       split at h
       ·rename_i hT
        subst hT
        split at h
        ·rename_i hsz
         cases h
         obtain⟨L,hL,_,es,clock,hb,hm⟩:=g.get hs h3
         rw[hL] at hK;cases hK
         rw[rk.str_inv]
         obtain⟨z,hz1,hz2⟩:=Zkf (hτ e _ h2) rfl (Nat.eq_of_beq_eq_true hsz) hz
         obtain⟨v,hv1,hv2⟩:=Zi1 (P:=P) ht hkd Zpr (fun a w b n=>by simp[Instr.checkKey,run_underlying hkd]) (hz1 E.w) (hz2 _ _) hb hm s
         exact .same g (hv2 ok) (Zm7 hv1)
        ·cases h
       ·cases h
      ·cases h
     ·cases h
    ·rename_i h1
     have hkd:P.underlying kt=some (.int .i64):=(hτ kt _ h1).kind
     split at h
     ·rename_i T' f h3
      split at h
      ·rename_i s
       split at h
       ·rename_i hT
        subst hT
        split at h
        ·rename_i hsz
         cases h
         obtain⟨L,hL,_,es,clock,hb,hm⟩:=g.get hs h3
         rw[hL] at hK;cases hK
         rw[rk.int_inv]
         obtain⟨z,hz1,hz2⟩:=Zkf (hτ e _ h2) rfl (Nat.eq_of_beq_eq_true hsz) hz
         obtain⟨v,hv1,hv2⟩:=Zi1 (P:=P) ht hkd (Zpj _) (fun a w b n=>by simp[Instr.checkKey,run_underlying hkd]) (hz1 E.w) (hz2 _ _) hb hm s
         exact .same g (hv2 ok) (Zm7 hv1)
        ·cases h
       ·cases h
      ·cases h
     ·cases h
    ·cases h
   ·cases h
  ·cases h
 ·cases h
theorem ZrA (g : Z7 P E objs) {l : Nat} {L : Loc} {o o' : Obj} {es' : Array MapEntry} {clock' : Nat} (hl : Zv l objs = some o) (hL : E.loc l = some L) (hh : o.has L)
 (ho:∀ E':Env,E'.w.heap[L.b]?=some (.map es' clock')→Ext E E' []→ZaM P E' L o') :
 ∃ E',E'.w=ZhR E.w L.b (.map es' clock')∧Z7 P E' ((l,o')::objs)∧ZcH E objs E' ((l,o')::objs) []:=by
 have hlt:=g.own_lt ⟨l,o,L,hl,hL,hh,rfl⟩
 have hgr:E.w.grownBy (ZhR E.w L.b (.map es' clock')) (some L.b) :=
  ⟨rfl,rfl,rfl,by simp[ZhR],fun k _ hk=>by simp only[ZhR];rw[Array.getElem?_setIfInBounds_ne (fun e=>hk (by rw[e]))]⟩
 have hrow:∀ b,some L.b=some b→o.has L∧b=L.b:=fun b e=>⟨hh,by cases e;rfl⟩
 have hx:=Zf1 g (M:=[]) (L':=L) hl hL hgr hrow (fun _=>rfl)
 have h:=Z7.put g (mv:=false) (o':=o') hl hL hgr hrow (fun _=>rfl) (ho _ (by simp[Env.setL,ZhR,hlt]) hx) (fun _=>.inl ⟨hh,rfl⟩)
 exact⟨_,rfl,h.1,h.2⟩
theorem Zi7 (hτ : Zbs P τ) {t : TypeId} {m k x : V} {out : Out} (h : ZeT τ os t m k x = some out) (hs : Sub os objs) (g : Z7 P E objs) {c d v : Value} (rm : Rep P E m c) (rk : Rep P E k d) (rx : Rep P E x v) :
 ZxY P (Instr.mapUpdate t c d v) E objs out∧out.v=.tup []:=by
 unfold ZeT at h
 split at h
 ·rename_i kt e _ _ _ _ hti
  obtain⟨ht,hz⟩:=(hτ t _ hti).kind
  split at h
  ·rename_i l
   obtain⟨K,hK,rfl⟩:=ZrQ rm
   split at h
   ·rename_i h1
    have hkd:P.underlying kt=some .string:=(hτ kt _ h1).kind
    split at h
    ·rename_i T f h3
     split at h
     ·rename_i s
      split at h
      ·rename_i y hy
       cases h
       have hc:=Zcg hy (Zby.cons rx .nil)
       obtain⟨L,hL,hobj,es,clock,hb,hm⟩:=g.get hs h3
       rw[hL] at hK;cases hK
       rw[rk.str_inv]
       obtain⟨es',clock',h4,h5⟩:=Ziz (P:=P) ht hkd Zpr (fun a w b n=>by simp[Instr.checkKey,run_underlying hkd]) (fun a=>by simp[Instr.sameBits,ZuI]) hc hb hm s
       obtain⟨E',hw,g',st⟩:=ZrA g (o':=.smap T (ZdP f s y)) hobj hL trivial (fun E' hb' hx=>⟨es',clock',hb',h5.mono hx.S⟩)
       exact⟨⟨E',by rw[hw];exact h4,g',st⟩,rfl⟩
      ·cases h
     ·cases h
    ·cases h
   ·rename_i h1
    have hkd:P.underlying kt=some (.int .i64):=(hτ kt _ h1).kind
    split at h
    ·rename_i T f h3
     split at h
     ·rename_i s
      split at h
      ·rename_i y hy
       cases h
       have hc:=Zcg hy (Zby.cons rx .nil)
       obtain⟨L,hL,hobj,es,clock,hb,hm⟩:=g.get hs h3
       rw[hL] at hK;cases hK
       rw[rk.int_inv]
       obtain⟨es',clock',h4,h5⟩:=Ziz (P:=P) ht hkd (Zpj _) (fun a w b n=>by simp[Instr.checkKey,run_underlying hkd]) (fun a=>by simp[Instr.sameBits]) hc hb hm s
       obtain⟨E',hw,g',st⟩:=ZrA g (o':=.imap T (ZdP f s y)) hobj hL trivial (fun E' hb' hx=>⟨es',clock',hb',h5.mono hx.S⟩)
       exact⟨⟨E',by rw[hw];exact h4,g',st⟩,rfl⟩
      ·cases h
     ·cases h
    ·cases h
   ·cases h
  ·cases h
 ·cases h
theorem Zn4(l:List Int):∀ s:ByteArray,(l.foldl (fun r n=>r.push (UInt8.ofNat n.toNat)) s)=⟨s.data++(l.map fun n=>UInt8.ofNat n.toNat).toArray⟩:=by
 induction l with
 | nil=>intro s;simp
 | cons n l ih =>
   intro s
   rw[List.foldl_cons,ih]
   simp[ByteArray.push]
theorem Zpa{w:World}{S:Nat→Prop}:∀ {l:List Int} {cs:List Value},Z3 w S (.int .u8) l cs→cs=l.map (Value.int .u8)
 | [],_,h=>h
 | n::l,_,⟨c1,c2,h,h1,h2⟩=>by
   rw[h,show c1=[.int .u8 n] from h1,Zpa h2];rfl
theorem ZlP(hτ:Zbs P τ){a b:TypeId}{x:V}{out:Out}(h:Zhi τ os a b x=some out)(hs:Sub os objs)(ho:okP out.ob)(g:Z7 P E objs){c:Value}(rx:Rep P E x c):ZdH P (convert a b c) E objs out:=by
 unfold Zhi at h
 split at h
 ·rename_i k1 _ _ _ _ h1
  have ha:P.underlying a=some (.int k1):=(hτ a _ h1).kind
  split at h
  ·rename_i k2 _ _ _ _ h2
   have hb:P.underlying b=some (.int k2):=(hτ b _ h2).kind
   split at h
   ·cases h
    rw[rx.int_inv]
    obtain⟨c,rfl,hc⟩:=Zrk (P:=P) ho
    exact .same' g (Ztd _ _) (by simp[convert,run_underlying ha,run_underlying hb,Conv.intToInt]) (hc E)
   ·cases h
  ·cases h
 ·rename_i e _ _ _ _ h1
  have ha:P.underlying a=some (.slice e):=(hτ a _ h1).kind
  split at h
  ·rename_i h2
   have hb:P.underlying b=some .string:=(hτ b _ h2).kind
   split at h
   ·rename_i h3
    have he:P.underlying e=some (.int .u8):=(hτ e _ h3).kind
    split at h
    ·rename_i l
     split at h
     ·rename_i xs hcs
      cases h
      obtain⟨L,hL,_,hat⟩:=g.get hs hcs
      obtain⟨K,hK,rfl⟩:=Zcf rx
      rw[hL] at hK;cases hK
      obtain⟨cs,hc1,hl,hsrc⟩:=ZoG hat
      rcases hsrc with ⟨ad,cap,hv,hx⟩ | ⟨s,hv,_⟩
      ·rw[hv]
       have hcs':=Zpa hc1
       have hrun:=run_convert_bytes_string (P:=P) E.w a b e ad (List.length (α:=Int) xs) cap ha he hb
       cases ad with
       | none =>
         have h0:xs=[]:=by
          cases xs with
          | nil=>rfl
          | cons x xs=>obtain⟨ad,h,_⟩:=hx (by simp);cases h
         subst h0
         exact .same g (v:=.string ByteArray.empty) (by
          have:=hrun
          simp only[List.length_nil] at this ⊢
          rw[this];simp[Conv.bytesToString]) (.mk_str _)
       | some ad =>
         have hld:(loadCells ad (List.length (α:=Int) xs)).run P E.w=.ok (List.map (Value.int .u8) xs).toArray E.w:=by
          have:=run_loadCells_list (P:=P) E.w ad (List.map (Value.int .u8) xs) (fun j v hj=>by
           have hpos:0 < List.length (α:=Int) xs:=by
            have:=(List.getElem?_eq_some_iff.1 hj).1
            rw[List.length_map] at this;omega
           obtain⟨ad',h,hx'⟩:=hx hpos
           cases h
           exact hx' j v (by rw[hcs'];exact hj))
          rw[List.length_map] at this
          exact this
         refine .same g (v:=.string (Zce xs)) ?_ (.mk_str _)
         refine hrun.trans ?_
         rw[run_bytesToString E.w ad (List.length (α:=Int) xs) cap xs hld,Zn4]
         simp[Zce,ByteArray.empty,ByteArray.emptyWithCapacity]
         rfl
      ·cases hv
     ·cases h
    ·cases h
     cases rx with
     | nils a' =>
       have hrun:=run_convert_bytes_string (P:=P) E.w a b e a' 0 0 ha he hb
       exact .same g (v:=.string ByteArray.empty) (by rw[hrun];cases a'<;>simp[Conv.bytesToString,loadCells,loadCellsFrom]) (.mk_str _)
    ·cases h
   ·cases h
  ·cases h
 ·cases h
theorem Zn3 (hτ : Zbs P τ) {t ty : TypeId} {x : V} {out : Out} (h : Zk7 τ os t x = some out) (hs : Sub os objs) (ho : okP out.ob) (g : Z7 P E objs) {c : Value} (rx : Rep P E x c) :
 ZdH P (Builtin.clear_ #[t] ty #[c]) E objs out:=by
 unfold Zk7 at h
 split at h
 ·rename_i e sz by_ zero co hti
  have ht:P.underlying t=some (.slice e):=(hτ t _ hti).kind
  split at h
  ·rename_i l lo m
   split at h
   ·rename_i k2 sz2 by2 zero2 T he
    have hei:=hτ e _ he
    obtain⟨hTs,hpos,hcz⟩:=hei.code _ rfl
    obtain⟨info,z,hi,hsz,hb,hz,hzl,hzs⟩:=hei.info
    have hTs:T.size=sz2:=hTs
    have hpos:0 < T.size:=by rw[hTs];exact hpos
    have hzl:z.cells.toList=zero2:=hzl
    have hzs:z.cells.size=sz2:=hzs
    split at h
    ·rename_i t' xs hcs
     split at h
     ·rename_i hT
      subst hT
      cases h
      have hle:lo+m≤xs.length:=ho
      obtain⟨L,hL,hobj,hat⟩:=g.get hs hcs
      obtain⟨K,hK,hpt⟩:=Zdu rx
      rw[hL] at hK;cases hK
      by_cases hm:m=0
      ·subst hm
       have hxs:xs.take lo++List.replicate 0 t'.dflt++xs.drop (lo+0)=xs:=by simp
       rw[hxs]
       have hp:=Z7.put g (mv:=false) (L':=L) (o':=.row t' xs) (w:=E.w) (row:=none) hobj hL ⟨rfl,rfl,rfl,Nat.le_refl _,fun _ _ _=>rfl⟩ (fun b hb=>by cases hb) (fun _=>rfl) (by
        refine hat.keep (⟨fun b hb=>⟨hb,rfl⟩,fun j K _ hK=>?_⟩:Ext E (E.setL E.w l L) []) (fun _=>rfl)
        by_cases e:j=l
        ·subst e;rw[hL] at hK;cases hK;exact ZP _ _ _ _
        ·rw[ZaB _ _ _ e];exact hK) (fun hh=>.inl ⟨hh,rfl⟩)
       obtain⟨a,rfl,_⟩:=hpt
       refine⟨E.setL E.w l L,.tuple #[],?_,hp.1,hp.2,.tup rfl (fun j hj=>by simp at hj)⟩
       show _=Result.ok _ E.w
       cases a<;>simp[Builtin.clear_,run_underlying ht]
      ·have hzc:(Builtin.zeroCells z.cells m).toList=(List.replicate m zero2).flatten:=by
        have hz0:0 < z.cells.size:=by rw[hzs,← hTs];exact hpos
        have:=Ziy (z:=z.cells) (n:=m) (c:=m) hz0 (Nat.le_refl _)
        rw[hzl] at this
        rw[← this]
        show _=((Builtin.zeroCells z.cells m).toList).take _
        rw[List.take_of_length_le (by simp[size_zeroCells])]
       obtain⟨w,hst,g1,g2⟩:=Zg4 (ys:=List.replicate m t'.dflt) (lo:=lo) g hobj hL hat (by simpa using hle) (by simp;omega) (Zb6 (hcz E.w E.S) m)
       rw[List.length_replicate] at g1 g2
       refine⟨E.setL w l L,.tuple #[],?_,g1,g2,.tup rfl (fun j hj=>by simp at hj)⟩
       rw[Zlp hat hle (by omega) hpt]
       cases m with
       | zero=>exact absurd rfl hm
       | succ m=>simp[Builtin.clear_,run_underlying ht,ZdW hi hz,hzc,hst];rfl
     ·cases h
    ·cases h
   ·cases h
  ·cases h
 ·cases h
end
section
variable {P:Program} {τ:Zar} {E:Env} {os objs:Zat} {n:Nat}
def Ran(P:Program)(o:Oper)(ρ:Operand→Value)(E:Env)(objs:Zat)(out:Out):Prop :=
 ∃ E' n v,(execOp ρ o).run P E.w=.ok n E'.w∧(n=.value v∨(n=.skip∧v=undef))∧Z7 P E' (edit objs out.ed)∧ZcH E objs E' (edit objs out.ed) (moved out.ed)∧Rep P E' out.v v
theorem ZdH.ran{o:Oper}{ρ:Operand→Value}{out:Out}{s:Sem Value}(h:ZdH P s E objs out)(he:execOp ρ o=(do let v ← s;pure (Next.value v))):Ran P o ρ E objs out:=by
 obtain⟨E',v,h1,h2,h3,h4⟩:=h
 exact⟨E',.value v,v,by rw[he];simp[h1],.inl rfl,h2,h3,h4⟩
theorem ZcB{tmps:List (Nat×V)}{ρ:Operand→Value}:∀ {xs:List Operand},(∀ x∈xs,Rep P E (evV tmps x) (ρ x))→Zby P E (Zb4 tmps xs) (xs.map ρ)
 | [],_=>.nil
 | x::xs,h=>.cons (h x (by simp)) (ZcB fun y hy=>h y (by simp[hy]))
theorem Zhb{tmps:List (Nat×V)}:∀ {xs:List (Nat×Operand)},(ZgA tmps xs).map (·.1)=xs.map (·.1)
 | []=>rfl
 | (i,x)::xs=>by simp only[ZgA,List.map_cons,Zhb]
theorem Zhx{tmps:List (Nat×V)}:∀ {xs:List (Nat×Operand)} (j:Nat),(ZgA tmps xs)[j]?=(xs[j]?).map fun p=>(p.1,evV tmps p.2)
 | [],j=>by simp[ZgA]
 | (i,x)::xs,0=>by simp[ZgA]
 | (i,x)::xs,j+1=>by simpa[ZgA] using Zhx j
theorem ZiU{tmps:List (Nat×V)}{xs:List Operand}{v:V}(h:Zb4 tmps xs=[v]):∃ x,xs=[x]∧evV tmps x=v:=by
 match xs,h with
 | [x],h=>exact⟨x,rfl,by simpa[Zb4] using h⟩
 | [],h=>simp[Zb4] at h
 | _::_::_,h=>simp[Zb4] at h
theorem ZeR{tmps:List (Nat×V)}{xs:List Operand}{u v:V}(h:Zb4 tmps xs=[u,v]):∃ x y,xs=[x,y]∧evV tmps x=u∧evV tmps y=v:=by
 match xs,h with
 | [x,y],h=>exact⟨x,y,rfl,by simpa[Zb4] using h⟩
 | [],h=>simp[Zb4] at h
 | [_],h=>simp[Zb4] at h
 | _::_::_::_,h=>simp[Zb4] at h
set_option maxHeartbeats 1000000 in
theorem Zwy (hτ : Zbs P τ) {o : Oper} {tmps : List (Nat × V)} {out : Out} (h : eff τ o.op tmps os n = some out) (hs : Sub os objs) (ho : okP out.ob) (g : Z7 P E objs) (hf : E.loc n = none) {ρ : Operand → Value}
 (hρ:∀ x∈o.op.operands,Rep P E (evV tmps x) (ρ x)) (hc:∀ v,ρ (.const v)=v):Ran P o ρ E objs out:=by
 obtain⟨dst,op,type,pos,after,guard⟩:=o
 cases op<;>simp only[eff] at h<;>try (cases h;done)
 case move x =>
  cases h
  exact (ZdH.same g (s:=pure (ρ x)) (by simp) (hρ x (by simp[Op.operands]))).ran rfl
 case assign x =>
  cases h
  exact (ZdH.same g (s:=pure (ρ x)) (by simp) (hρ x (by simp[Op.operands]))).ran rfl
 case pick c a b =>
  have:=ZqC (P:=P) h ho g (hρ c (by simp[Op.operands])) (hρ a (by simp[Op.operands])) (hρ b (by simp[Op.operands])) (fun v e=>by subst e;exact hc _) (fun v e=>by subst e;exact hc _)
  exact this.ran (by simp[execOp])
 case alloc t=>exact (Zoh hτ h g hf).ran rfl
 case box t x=>exact (Zr8 h g hf (hρ x (by simp[Op.operands]))).ran rfl
 case build t parts =>
  refine (ZnP (vals:=parts.map fun (i,x)=>(i,ρ x)) hτ h g (by rw[Zhb];simp) (fun j p q hp hq=>?_)).ran rfl
  rw[Zhx,Option.map_eq_some_iff] at hp
  simp only[Array.toList_map,List.getElem?_map,Option.map_eq_some_iff] at hq
  obtain⟨x,hx1,rfl⟩:=hp
  obtain⟨y,hy1,rfl⟩:=hq
  rw[hx1] at hy1
  cases hy1
  exact hρ _ (by simp only[Op.operands];exact List.mem_toArray.2 (List.mem_map.2 ⟨x,List.mem_of_getElem? hx1,rfl⟩))
 case buildSlice t m parts =>
  refine (Zh2 (vals:=parts.map fun (i,x)=>(i,ρ x)) hτ h g hf (by rw[Zhb];simp) (fun j p q hp hq=>?_)).ran rfl
  rw[Zhx,Option.map_eq_some_iff] at hp
  simp only[Array.toList_map,List.getElem?_map,Option.map_eq_some_iff] at hq
  obtain⟨x,hx1,rfl⟩:=hp
  obtain⟨y,hy1,rfl⟩:=hq
  rw[hx1] at hy1
  cases hy1
  exact hρ _ (by simp only[Op.operands];exact List.mem_toArray.2 (List.mem_map.2 ⟨x,List.mem_of_getElem? hx1,rfl⟩))
 case load t a=>exact (Zqs hτ h hs ho g (hρ a (by simp[Op.operands]))).ran rfl
 case store t a x =>
  obtain⟨⟨E',h1,h2,h3⟩,hv⟩:=Zou hτ h hs ho g (hρ a (by simp[Op.operands])) (hρ x (by simp[Op.operands]))
  exact⟨E',.skip,undef,by simp[execOp,h1],.inr ⟨rfl,rfl⟩,h2,h3,by rw[hv];exact .tup rfl (fun j hj=>by simp at hj)⟩
 case nilCheck x =>
  have r:=hρ x (by simp[Op.operands])
  split at h
  ·rename_i l o e
   cases h
   rw[e] at r
   obtain⟨L,hL,hq⟩:=Zhk r
   exact (ZdH.same g (s:=pure (ρ x)) (by simp) r).ran (by simp[execOp,hq])
  ·rename_i cs e
   cases h
   rw[e] at r
   obtain⟨b,off,vals,hq,_⟩:=Zmv r
   exact (ZdH.same g (s:=pure (ρ x)) (by simp) r).ran (by simp[execOp,hq])
  ·rename_i b cs e
   cases h
   rw[e] at r
   cases r with
   | opt h1 h2 =>
     have r':=h1 ho
     obtain⟨b,off,vals,hq,_⟩:=Zmv r'
     exact (ZdH.same g (s:=pure (ρ x)) (by simp) r').ran (by simp[execOp,hq])
  ·rename_i f a b e
   cases h
   rw[e] at r
   cases hq:ρ x with
   | func fn fs cs =>
     rw[hq] at r
     have r2:=r
     cases r2
     exact (ZdH.same g (s:=pure (.func (.func f) fs cs)) (by simp) r).ran (by simp[execOp,hq])
   | _=>rw[hq] at r;cases r
  ·cases h
 case binOp op xt x y yt=>exact (ZsE (ox:=x) (oy:=y) hτ h ho g (hρ x (by simp[Op.operands])) (hρ y (by simp[Op.operands]))).ran rfl
 case unOp op xt x=>exact (Ztv h ho g (hρ x (by simp[Op.operands]))).ran rfl
 case convert a b x=>exact (ZlP hτ h hs ho g (hρ x (by simp[Op.operands]))).ran rfl
 case makeFunc f a b =>
  cases h
  have h1:Zby P E (Zb4 tmps a.toList) (a.toList.map ρ):=ZcB fun x hx=>hρ x (by simp[Op.operands,Array.mem_toList_iff.1 hx])
  have h2:Zby P E (Zb4 tmps b.toList) (b.toList.map ρ):=ZcB fun x hx=>hρ x (by simp[Op.operands,Array.mem_toList_iff.1 hx])
  refine (ZdH.same g (s:=Instr.makeFunc f (a.map ρ) (b.map ρ)) (v:=.func f (a.map ρ) (b.map ρ)) (by simp[Instr.makeFunc]) (.fn (by simpa using h1.1) (by simpa using h2.1) (fun j hj=>?_) (fun j hj=>?_))).ran rfl
  ·have:=h1.2 j hj
   simpa[Array.getD_eq_getD_getElem?,List.getD_eq_getElem?_getD] using this
  ·have:=h2.2 j hj
   simpa[Array.getD_eq_getD_getElem?,List.getD_eq_getElem?_getD] using this
 case makeSlice t l c=>exact (Zjn hτ h ho g hf (hρ l (by simp[Op.operands])) (hρ c (by simp[Op.operands]))).ran rfl
 case slice t x lo hi mx =>
  have hopt:∀ y:Option Operand,(∀ z,y=some z→Rep P E (evV tmps z) (ρ z))→Zgm P E (Zs8 tmps y) (y.map ρ):=by
   intro y hy
   cases y with
   | none=>trivial
   | some z=>exact hy z rfl
  exact (ZnV (lo':=lo.map ρ) (hi':=hi.map ρ) (mx':=mx.map ρ) hτ h hs ho g (hρ x (by simp[Op.operands])) (hopt lo fun z e=>hρ z (by subst e;simp[Op.operands])) (hopt hi fun z e=>hρ z (by subst e;simp[Op.operands]))
   (hopt mx fun z e=>hρ z (by subst e;simp[Op.operands]))).ran rfl
 case fieldAddr t x f=>exact (Zjv hτ h g (hρ x (by simp[Op.operands]))).ran rfl
 case indexAddr t x i=>exact (Zjr hτ h hs ho g (hρ x (by simp[Op.operands])) (hρ i (by simp[Op.operands]))).ran rfl
 case index t x i=>exact (Zi3 hτ h g (hρ x (by simp[Op.operands])) (hρ i (by simp[Op.operands]))).ran rfl
 case makeMap t r =>
  cases r with
  | some _=>cases h
  | none=>exact (Zlu hτ h g hf).ran (by simp[execOp])
 case lookup t m k ok=>exact (Zmn hτ h hs g (hρ m (by simp[Op.operands])) (hρ k (by simp[Op.operands]))).ran rfl
 case mapUpdate t m k x =>
  obtain⟨⟨E',h1,h2,h3⟩,hv⟩:=Zi7 hτ h hs g (hρ m (by simp[Op.operands])) (hρ k (by simp[Op.operands])) (hρ x (by simp[Op.operands]))
  exact⟨E',.skip,undef,by simp[execOp,h1],.inr ⟨rfl,rfl⟩,h2,h3,by rw[hv];exact .tup rfl (fun j hj=>by simp at hj)⟩
 case extract x i =>
  have r:=hρ x (by simp[Op.operands])
  split at h
  ·rename_i vs e
   split at h
   ·rename_i v hv
    cases h
    rw[e] at r
    cases hq:ρ x with
    | tuple us =>
      rw[hq] at r
      cases r with
      | tup h1 h2 =>
        have hi:i < vs.length:=(List.getElem?_eq_some_iff.1 hv).1
        have:=h2 i hi
        rw[List.getD_eq_getElem?_getD,hv] at this
        have hu:us[i]?=some (us.getD i undef):=by
         rw[Array.getD_eq_getD_getElem?,Array.getElem?_eq_getElem (by omega)];rfl
        exact (ZdH.same g (s:=Instr.extract (ρ x) i) (v:=us.getD i undef) (by rw[hq];simp only[Instr.extract,hu];rfl) this).ran rfl
    | _=>rw[hq] at r;cases r
   ·cases h
  ·cases h
 case call c =>
  obtain⟨callee,args,argTypes⟩:=c
  cases callee<;>simp only at h<;>try (cases h;done)
  rename_i b
  have hargs:∀ x∈args.toList,Rep P E (evV tmps x) (ρ x):=fun x hx=>hρ x (by simp[Op.operands,Call.operands,Array.mem_toList_iff.1 hx])
  obtain⟨al⟩:=args
  obtain⟨tl⟩:=argTypes
  unfold Zhg at h
  cases b<;>simp only at h<;>try (cases h;done)
  case len =>
   split at h
   ·split at h
    ·rename_i t _ x e2
     obtain⟨y,rfl,rfl⟩:=ZiU e2
     exact (ZsC (ty:=type) hτ h hs g (hargs y (by simp))).ran (by simp[execOp,resolve,invoke,builtin])
    ·cases h
   ·cases h
  case append =>
   split at h
   ·split at h
    ·rename_i t u _ x y e2
     obtain⟨a,b,rfl,rfl,rfl⟩:=ZeR e2
     exact (ZmO (ty:=type) hτ h hs ho g hf (hargs a (by simp)) (hargs b (by simp))).ran (by simp[execOp,resolve,invoke,builtin])
    ·cases h
   ·cases h
  case copy =>
   split at h
   ·split at h
    ·rename_i t u _ x y e2
     obtain⟨a,b,rfl,rfl,rfl⟩:=ZeR e2
     exact (Zp9 (ty:=type) hτ h hs ho g (hargs a (by simp)) (hargs b (by simp))).ran (by simp[execOp,resolve,invoke,builtin])
    ·cases h
   ·cases h
  case min =>
   split at h
   ·rename_i x y e2
    obtain⟨a,b,rfl,rfl,rfl⟩:=ZeR e2
    exact (ZhK (mx:=false) h g (hargs a (by simp)) (hargs b (by simp)) ⟨_⟩ type).ran (by simp[execOp,resolve,invoke,builtin];rfl)
   ·cases h
  case max =>
   split at h
   ·rename_i x y e2
    obtain⟨a,b,rfl,rfl,rfl⟩:=ZeR e2
    exact (ZhK (mx:=true) h g (hargs a (by simp)) (hargs b (by simp)) ⟨_⟩ type).ran (by simp[execOp,resolve,invoke,builtin];rfl)
   ·cases h
  case clear =>
   split at h
   ·split at h
    ·rename_i t _ x e2
     obtain⟨y,rfl,rfl⟩:=ZiU e2
     exact (Zn3 (ty:=type) hτ h hs ho g (hargs y (by simp))).ran (by simp[execOp,resolve,invoke,builtin])
    ·cases h
   ·cases h
  case cap =>
   split at h
   ·split at h
    ·rename_i t _ e2
     obtain⟨y,rfl,hy⟩:=ZiU e2
     split at h
     ·rename_i e _ _ _ _ hti
      have ht:P.underlying t=some (.slice e):=(hτ t _ hti).kind
      cases h
      have r:=hargs y (by simp)
      rw[hy] at r
      cases hq:ρ y with
      | slice a n c =>
        rw[hq] at r
        cases r with
        | nils=>exact (ZdH.same g (s:=Builtin.cap_ #[t] type #[.slice a 0 0]) (v:=.int .i64 0) (by simp[Builtin.cap_,run_underlying ht,goInt]) (.mk_int _ _)).ran (by simp[execOp,resolve,invoke,builtin,hq])
      | _=>rw[hq] at r;cases r
     ·cases h
    ·cases h
   ·cases h
end
section
def fz(r:Option Nat):Fence:={ Fence.wide with round:=r }
theorem Zia{P:Program}{r:Option Nat}{n:Nat}{f:FuncId}{args:Array Value}{w:World}{R:Ending→World→Prop}(h:Calls P f args w R):CallsIn (fz r) n P f args w R :=
 (callsIn_wide (n:=n)).2 h
inductive Df where
 | mark (l:Nat)
 | fn (g:FuncId) (cs:List V)
structure St where
 nt:Nat
 tmps:List (Nat×V)
 objs:Zat
 nx:Nat
 df:List Df
 wr:List Nat
 di:List Nat
 mv:List Nat
structure Cx where
 E:Env
 imp:Zat
def Zd3(P:Program)(E:Env):List Df→List Deferred→Prop
 | [],ds=>ds=[]
 | .mark l::r,ds=>∃ L rest,ds=⟨.collected L,#[]⟩::rest∧(∃ K,E.loc l=some K∧K.b=L)∧Zd3 P E r rest
 | .fn g cs::r,ds=>∃ q rest,ds=⟨.fn (.func g) q,#[]⟩::rest∧Zby P E cs q.toList∧Zd3 P E r rest
structure ZcR (P:Program) (cx:Cx) (s:St) (a:Act) (E:Env):Prop where
 good:Z7 P E s.objs
 fresh:∀ l,s.nx≤l→E.loc l=none
 step:ZcH cx.E cx.imp E s.objs s.mv
 drawn:cx.E.w.drawn≤E.w.drawn
 size:a.tmps.size=s.nt
 df:Zd3 P E s.df a.defers
 rep:∀ t,Rep P E (ZbE t s.tmps) (a.tmps.getD t undef)
def Rel(P:Program)(cx:Cx)(s:St)(a:Act)(w:World):Prop:=∃ E,E.w=w∧ZcR P cx s a E
def Wk(P:Program)(cx:Cx)(s s':St):Prop:=∀ a w,Rel P cx s a w→Rel P cx s' a w
theorem Wk.refl{P:Program}{cx:Cx}(s:St):Wk P cx s s:=fun _ _ h=>h
theorem Wk.trans{P:Program}{cx:Cx}{s s' s'':St}(h:Wk P cx s s')(k:Wk P cx s' s''):Wk P cx s s'':=fun a w r=>k a w (h a w r)
abbrev ZjV:=Exit→Act→World→Prop
section rules
variable {P:Program} {r:Option Nat} {cx:Cx} {R:ZjV} {s:St} {a:Act} {w:World}
theorem Ztb{c:Code}(h:c.wpIn (fz r) 0 P (fun e a w=>match e with | .goto _=>False | e=>R e a w) a w):(Code.scope c).wpIn (fz r) 0 P R a w:=by
 intro b k cs hro hb hr
 obtain⟨e,a₁,w₁,hq,harr⟩:=h b (.inScope c::k) cs hro hb hr
 have s1:StepsIn (Machine.fenced P (fz r)) P (lone (b.atR a (.code (.scope c)::k)) cs w) (lone (b.atR a (.code c::.inScope c::k)) cs w) :=
  .one (fenced_calm hb hr rfl) (step_lone_go (by simp[stepG,stepG.exec,Frame.atR]))
 have s2:∀ a w,StepsIn (Machine.fenced P (fz r)) P (lone (b.atR a (.inScope c::k)) cs w) (lone (b.atR a k) cs w) :=
  fun a w=>.one (fenced_calm (fr:=b.atR a (.inScope c::k)) hb hr rfl) (step_lone_go (by simp[stepG,stepG.exec,Frame.atR]))
 have hx:∀ id,exitTo id (.inScope c::k)=exitTo id k:=fun id=>by simp[exitTo]
 cases e with
 | normal=>exact⟨.normal,a₁,w₁,hq,s1.trans (StepsIn.trans harr (s2 _ _))⟩
 | exit id=>exact⟨.exit id,a₁,w₁,hq,fun k' hk=>s1.trans (harr.1 k' (by rw[hx];exact hk)),fun h1 h2=>let ⟨k₁,h3,h4⟩:=harr.2 h1 (by rw[hx];exact h2);⟨k₁,h3,s1.trans h4⟩⟩
 | goto l=>exact hq.elim
 | ret=>exact⟨_,a₁,w₁,hq,.of_steps s1 harr⟩
 | panic ch=>exact⟨_,a₁,w₁,hq,.of_steps s1 harr⟩
 | outgrown=>exact⟨_,a₁,w₁,hq,.of_steps s1 harr⟩
def ZfP(F:Fence)(P:Program)(c:Code)(R:ZjV)(a:Act)(w:World):Prop :=
 ∀ (b:Frame) (k:List Item) (cs:List Frame),b.roundOf=F.round→F.fn b.fn→F.room (cs.length+1+0) →
  ∃ e a' w',R e a' w'∧ArrivesIn (Machine.fenced P F) P (lone (b.atR a (.code c::.inLoop c::k)) cs w) b k cs e a' w'
theorem ZfP.loop{F:Fence}{c:Code}(h:ZfP F P c R a w):(Code.loop c).wpIn F 0 P R a w:=by
 intro b k cs hro hb hr
 obtain⟨e,a',w',hq,harr⟩:=h b k cs hro hb hr
 exact⟨e,a',w',hq,.of_steps (.one (fenced_calm hb hr rfl) stepR_loop) harr⟩
theorem ZfP.round{F:Fence}{c:Code}(h:c.wpIn F 0 P (Exit.then (ZfP F P c R) R) a w):ZfP F P c R a w:=by
 intro b k cs hro hb hr
 obtain⟨e,a₁,w₁,hq,harr⟩:=h b (.inLoop c::k) cs hro hb hr
 cases e with
 | normal =>
   obtain⟨e₂,a₂,w₂,hq₂,harr₂⟩:=hq b k cs hro hb hr
   exact⟨e₂,a₂,w₂,hq₂,.of_steps (StepsIn.trans harr (.one (fenced_calm hb hr rfl) stepR_inLoop)) harr₂⟩
 | exit id=>exact⟨_,a₁,w₁,hq,.pass (x:=.inLoop c) rfl (fun _ _=>.inl (by simp)) harr⟩
 | goto l=>exact⟨_,a₁,w₁,hq,.pass (x:=.inLoop c) rfl (fun _ _=>.inl (by simp)) harr⟩
 | ret=>exact⟨_,a₁,w₁,hq,.pass (x:=.inLoop c) rfl (fun _ _=>.inl (by simp)) harr⟩
 | panic ch=>exact⟨_,a₁,w₁,hq,.pass (x:=.inLoop c) rfl (fun _ _=>.inl (by simp)) harr⟩
 | outgrown=>exact⟨_,a₁,w₁,hq,.pass (x:=.inLoop c) rfl (fun _ _=>.inl (by simp)) harr⟩
theorem Zen{E:Env}{tmps:List (Nat×V)}(h:∀ t,Rep P E (ZbE t tmps) (a.tmps.getD t undef))(x:Operand):Rep P E (evV tmps x) (a.eval x):=by
 cases x with
 | tmp t=>exact h t
 | const v=>exact Zft v
 | global g=>exact .any _
 | func f=>exact .fn rfl rfl (fun j hj=>by simp at hj) (fun j hj=>by simp at hj)
end rules
mutual
def V.has(l:Nat):V→Bool
 | .fn _ a b=>Zs6 l a||Zs6 l b
 | .agg cs=>Zs6 l cs
 | .tup cs=>Zs6 l cs
 | .er cs=>Zs6 l cs
 | .when _ v=>V.has l v
 | .opt _ v=>V.has l v
 | .ref k _=>Nat.beq k l
 | .rref k _ _=>Nat.beq k l
 | .osl k=>Nat.beq k l
 | .osp k _ _=>Nat.beq k l
 | .map k=>Nat.beq k l
 | .yl k=>Nat.beq k l
 | .bsl k _=>Nat.beq k l
 | _=>false
def Zs6(l:Nat):List V→Bool
 | []=>false
 | v::r=>V.has l v||Zs6 l r
end
mutual
theorem ZgC{l:Nat}{f:V→V}(hf:∀ v,v.isRef=true→v.has l=false→f v=v):∀ {v:V},v.has l=false→v.subst f=v
 | .fn g a b,h=>by simp only[V.has,Bool.or_eq_false_iff] at h;simp only[V.subst,ZcJ hf h.1,ZcJ hf h.2]
 | .agg cs,h=>by simp only[V.has] at h;simp only[V.subst,ZcJ hf h]
 | .tup cs,h=>by simp only[V.has] at h;simp only[V.subst,ZcJ hf h]
 | .er cs,h=>by simp only[V.has] at h;simp only[V.subst,ZcJ hf h]
 | .when b v,h=>by simp only[V.has] at h;simp only[V.subst,ZgC hf h]
 | .opt b v,h=>by simp only[V.has] at h;simp only[V.subst,ZgC hf h]
 | .ref k o,h=>hf _ rfl h
 | .rref k i o,h=>hf _ rfl h
 | .osl k,h=>hf _ rfl h
 | .osp k lo n,h=>hf _ rfl h
 | .map k,h=>hf _ rfl h
 | .yl k,h=>hf _ rfl h
 | .bsl k n,h=>hf _ rfl h
 | .any,_=>rfl
 | .d _ _,_=>rfl
 | .nilp,_=>rfl
 | .nilf,_=>rfl
 | .nils,_=>rfl
 | .nilm,_=>rfl
 | .pf _ _ _ _,_=>rfl
theorem ZcJ{l:Nat}{f:V→V}(hf:∀ v,v.isRef=true→v.has l=false→f v=v):∀ {cs:List V},Zs6 l cs=false→ZbR f cs=cs
 | [],_=>rfl
 | v::r,h=>by simp only[Zs6,Bool.or_eq_false_iff] at h;simp only[ZbR,ZgC hf h.1,ZcJ hf h.2]
end
theorem Zvf{l:Nat}(v:V)(hr:v.isRef=true)(h:v.has l=false):Zhq l v=v:=by
 cases v<;>simp only[V.isRef,Bool.false_eq_true] at hr<;>simp only[V.has] at h<;>simp only[Zhq,V.key,h]
def Zts(l:Nat):List (Nat×V)→List Nat
 | []=>[]
 | (t,v)::r=>match v.has l with
   | true=>t::Zts l r
   | false=>Zts l r
def Obj.hasR(l:Nat):Obj→Bool
 | .box cs | .vrow _ _ cs _=>Zs6 l cs
 | .lrec _ tmps _ _ _ _ _=>match Zts l tmps with | []=>false | _=>true
 | _=>false
def ZwA(l:Nat):Zat→List Nat
 | []=>[]
 | (k,o)::r=>match o.hasR l with
   | true=>k::ZwA l r
   | false=>ZwA l r
def Df.subst(f:V→V):Df→Df
 | .mark l=>.mark l
 | .fn g cs=>.fn g (ZbR f cs)
def ZfN(f:V→V):List Df→List Df
 | []=>[]
 | d::r=>d.subst f::ZfN f r
def Zv6(l:Nat):List Df→Bool
 | []=>false
 | .mark _::r=>Zv6 l r
 | .fn _ cs::r=>Zs6 l cs||Zv6 l r
def ZcI(f:V→V):List (Nat×V)→List (Nat×V)
 | []=>[]
 | (t,v)::r=>(t,v.subst f)::ZcI f r
theorem ZcD(f:V→V):∀ l,ZcI f l=l.map fun p=>(p.1,p.2.subst f)
 | []=>rfl
 | (t,v)::r=>by simp only[ZcI,ZcD f r,List.map_cons]
def St.subst(l:Nat)(f:V→V):St→St
 | ⟨nt,tmps,objs,nx,df,wr,di,mv⟩=>⟨nt,ZcI f tmps,substO f objs,nx,ZfN f df,(match Zv6 l df with | true=>nt::(Zts l tmps++wr) | false=>Zts l tmps++wr),ZwA l objs++di,mv⟩
def Zs5(l nx:Nat):Nat:=match Nat.beq l nx with | true=>nx+1 | false=>nx
def St.edit(s:St):Option (Nat×Obj×Bool)→St
 | none=>s
 | some (l,o,false)=>match s with
   | ⟨nt,tmps,objs,nx,df,wr,di,mv⟩=>⟨nt,tmps,(l,o)::objs,Zs5 l nx,df,wr,l::di,mv⟩
 | some (l,o,true)=>match s.subst l (Zhq l) with
   | ⟨nt,tmps,objs,nx,df,wr,di,mv⟩=>⟨nt,tmps,(l,o)::objs,Zs5 l nx,df,wr,l::di,l::mv⟩
def St.setT(s:St)(dst:Option Nat)(v:V):Option St:=match dst with
 | none=>some s
 | some d=>match Nat.blt d s.nt with
   | true=>match s with
     | ⟨nt,tmps,objs,nx,df,wr,di,mv⟩=>some ⟨nt,(d,v)::tmps,objs,nx,df,d::wr,di,mv⟩
   | false=>none
structure Inv (s s':St):Prop where
 nt:s'.nt=s.nt
 nx:s.nx≤s'.nx
 wr:∀ t∈s.wr,t∈s'.wr
 di:∀ l∈s.di,l∈s'.di
 mv:∀ l∈s.mv,l∈s'.mv
 tmp:∀ t,t∉s'.wr→ZbE t s'.tmps=ZbE t s.tmps
 obj:∀ l,l∉s'.di→Zv l s'.objs=Zv l s.objs
 df:s.nt∉s'.wr→s'.df=s.df
theorem Inv.refl(s:St):Inv s s:=⟨rfl,Nat.le_refl _,fun _ h=>h,fun _ h=>h,fun _ h=>h,fun _ _=>rfl,fun _ _=>rfl,fun _=>rfl⟩
theorem Inv.trans{s s' s'':St}(h:Inv s s')(k:Inv s' s''):Inv s s'' :=
 ⟨k.nt.trans h.nt,Nat.le_trans h.nx k.nx,fun t ht=>k.wr t (h.wr t ht),fun t ht=>k.di t (h.di t ht),fun t ht=>k.mv t (h.mv t ht),
  fun t ht=>(k.tmp t ht).trans (h.tmp t fun hm=>ht (k.wr t hm)),fun l hl=>(k.obj l hl).trans (h.obj l fun hm=>hl (k.di l hm)),fun hn=>(k.df (h.nt▸hn)).trans (h.df fun hm=>hn (k.wr _ hm))⟩
theorem Zgf{f:V→V}{l:Nat}(hf:∀ v,v.isRef=true→v.has l=false→f v=v){t:Nat}:∀ {tmps:List (Nat×V)},t∉Zts l tmps→ZbE t (ZcI f tmps)=ZbE t tmps
 | [],_=>rfl
 | (u,v)::r,h=>by
   simp only[Zts] at h
   rw[ZcI,Zah,Zah]
   cases hv:v.has l with
   | true =>
     rw[hv] at h
     simp only[List.mem_cons,not_or] at h
     rw[if_neg (Ne.symm h.1),if_neg (Ne.symm h.1)]
     exact Zgf hf h.2
   | false =>
     rw[hv] at h
     rw[ZgC hf hv]
     split
     ·rfl
     ·exact Zgf hf h
theorem ZmI{f:V→V}{l:Nat}(hf:∀ v,v.isRef=true→v.has l=false→f v=v):∀ {tmps:List (Nat×V)},Zts l tmps=[]→ZcI f tmps=tmps
 | [],_=>rfl
 | (u,v)::r,h=>by
   simp only[Zts] at h
   cases hv:v.has l with
   | true=>rw[hv] at h;simp at h
   | false=>rw[hv] at h;simp only[ZcI,ZgC hf hv,ZmI hf h]
theorem ZnL{f:V→V}{l:Nat}(hf:∀ v,v.isRef=true→v.has l=false→f v=v){o:Obj}(h:o.hasR l=false):o.subst f=o:=by
 cases o with
 | box cs=>simp only[Obj.hasR] at h;simp only[Obj.subst,ZcJ hf h]
 | vrow t xs cs m=>simp only[Obj.hasR] at h;simp only[Obj.subst,ZcJ hf h]
 | lrec nt tmps ps a b st j =>
   simp only[Obj.hasR] at h
   split at h
   ·rename_i h1
    simp only[Obj.subst]
    rw[← ZcD,ZmI hf h1]
   ·cases h
 | _=>rfl
theorem Zf9{f:V→V}{l:Nat}(hf:∀ v,v.isRef=true→v.has l=false→f v=v){k:Nat}:∀ {objs:Zat},k∉ZwA l objs→Zv k (substO f objs)=Zv k objs
 | [],_=>rfl
 | (u,o)::r,h=>by
   simp only[ZwA] at h
   rw[substO,Zl,Zl]
   cases hv:o.hasR l with
   | true =>
     rw[hv] at h
     simp only[List.mem_cons,not_or] at h
     rw[if_neg (Ne.symm h.1),if_neg (Ne.symm h.1)]
     exact Zf9 hf h.2
   | false =>
     rw[hv] at h
     rw[ZnL hf hv]
     split
     ·rfl
     ·exact Zf9 hf h
theorem ZjF{f:V→V}{l:Nat}(hf:∀ v,v.isRef=true→v.has l=false→f v=v):∀ {df:List Df},Zv6 l df=false→ZfN f df=df
 | [],_=>rfl
 | .mark _::r,h=>by simp only[Zv6] at h;simp only[ZfN,Df.subst,ZjF hf h]
 | .fn g cs::r,h=>by simp only[Zv6,Bool.or_eq_false_iff] at h;simp only[ZfN,Df.subst,ZcJ hf h.1,ZjF hf h.2]
theorem Inv.subst{s:St}{l:Nat}{f:V→V}(hf:∀ v,v.isRef=true→v.has l=false→f v=v):Inv s (s.subst l f):=by
 obtain⟨nt,tmps,objs,nx,df,wr,di,mv⟩:=s
 simp only[St.subst]
 refine⟨rfl,Nat.le_refl _,fun t ht=>?_,fun t ht=>List.mem_append_right _ ht,fun _ h=>h,fun t ht=>Zgf hf fun hm=>ht ?_,fun k hk=>Zf9 hf fun hm=>hk (List.mem_append_left _ hm),fun hn=>?_⟩
 ·dsimp only
  split
  ·exact List.mem_cons_of_mem _ (List.mem_append_right _ ht)
  ·exact List.mem_append_right _ ht
 ·dsimp only
  split
  ·exact List.mem_cons_of_mem _ (List.mem_append_left _ hm)
  ·exact List.mem_append_left _ hm
 ·dsimp only at hn ⊢
  split at hn
  ·simp at hn
  ·rename_i h;exact ZjF hf h
theorem ZrF(l nx:Nat):nx≤Zs5 l nx:=by unfold Zs5;split<;>omega
theorem Inv.edit(s:St)(ed:Option (Nat×Obj×Bool)):Inv s (s.edit ed):=by
 match ed with
 | none=>exact .refl s
 | some (l,o,false) =>
   obtain⟨nt,tmps,objs,nx,df,wr,di,mv⟩:=s
   exact⟨rfl,ZrF _ _,fun _ h=>h,fun _ h=>List.mem_cons_of_mem _ h,fun _ h=>h,fun _ _=>rfl,fun k hk=>by
    simp only[St.edit,List.mem_cons,not_or] at hk
    simp only[St.edit];rw[Zl,if_neg (Ne.symm hk.1)],fun _=>rfl⟩
 | some (l,o,true) =>
   have h:=Inv.subst (s:=s) (l:=l) (f:=Zhq l) Zvf
   have e:s.edit (some (l,o,true))=(match s.subst l (Zhq l) with
    | ⟨nt,tmps,objs,nx,df,wr,di,mv⟩=>⟨nt,tmps,(l,o)::objs,Zs5 l nx,df,wr,l::di,l::mv⟩):=rfl
   rw[e]
   generalize s.subst l (Zhq l)=s1 at h
   refine h.trans ?_
   obtain⟨nt,tmps,objs,nx,df,wr,di,mv⟩:=s1
   exact⟨rfl,ZrF _ _,fun _ h=>h,fun _ h=>List.mem_cons_of_mem _ h,fun _ h=>List.mem_cons_of_mem _ h,fun _ _=>rfl,fun k hk=>by
    simp only[List.mem_cons,not_or] at hk
    simp only;rw[Zl,if_neg (Ne.symm hk.1)],fun _=>rfl⟩
theorem Inv.setT{s s':St}{dst:Option Nat}{v:V}(h:s.setT dst v=some s'):Inv s s':=by
 unfold St.setT at h
 split at h
 ·cases h;exact .refl s
 ·split at h
  ·rename_i d hd
   obtain⟨nt,tmps,objs,nx,df,wr,di,mv⟩:=s
   cases h
   exact⟨rfl,Nat.le_refl _,fun _ h=>List.mem_cons_of_mem _ h,fun _ h=>h,fun _ h=>h,fun t ht=>by
    simp only[List.mem_cons,not_or] at ht
    simp only;rw[Zah,if_neg (Ne.symm ht.1)],fun _ _=>rfl,fun _=>rfl⟩
  ·cases h
end
section
variable {P:Program} {τ:Zar} {E:Env} {objs:Zat}
def frz(l:Nat)(o:Obj)(v:V):V:=match v with
 | .osl k=>match Nat.beq k l with
   | false=>v
   | true=>match o with
     | .row T xs=>.d (.sl T) xs
     | _=>.any
 | .ref k off=>match Nat.beq k l with
   | false=>v
   | true=>match o with
     | .box cs=>.er (Zip off cs)
     | _=>.any
 | v=>Zhq l v
theorem Zw3{l:Nat}{o:Obj}(v:V)(hr:v.isRef=true)(h:v.has l=false):frz l o v=v:=by
 cases v<;>simp only[V.isRef,Bool.false_eq_true] at hr<;>simp only[V.has] at h<;>simp only[frz,Zhq,V.key,h]
theorem Z3.cell {w : World} {S : Nat → Prop} {b : Nat} {cur : Array Value} {e : TypeId} (hb : w.heap[b]? = some (.cells cur e (0, 0))) {T : Ty} {xs : List T.den} (h : Z3 w S T xs (cur.toList.take (xs.length * T.size))) (i : Nat) (x : T.den) (hx : xs[i]? = some x) :
 ∃ c,ZbD w S T x c∧∀ j u,c[j]?=some u→w.cell? ⟨b,0+i*T.size+j,none⟩=some u:=by
 obtain⟨c,h1,h2⟩:=h.get i x hx
 refine⟨c,h1,fun j u hj=>?_⟩
 have h3:=h2 j u hj
 rw[ZcZ hb,Nat.zero_add]
 rw[List.getElem?_take] at h3
 split at h3
 ·simpa using h3
 ·cases h3
theorem ZiI(g:Z7 P E objs){l:Nat}{o:Obj}(hl:Zv l objs=some o){L:Loc}(hL:E.loc l=some L){E2:Env}(h2:E2=E.still L.b (o.has L)){v:V}{c:Value}(hr:v.isRef=true)(r:Rep P E v c):Rep P E2 (frz l o v) c:=by
 subst h2
 have hx:Ext E (E.still L.b (o.has L)) []:=⟨fun b hs=>⟨.inl hs,rfl⟩,fun j K _ hK=>hK⟩
 have hat:ZaM P E L o:=by
  obtain⟨K,hK,ha⟩:=g.at_ l o hl
  rw[hL] at hK;cases hK;exact ha
 have hinv:∀ v,Rep P E v c→Rep P (E.still L.b (o.has L)) (Zhq l v) c:=fun v r=>by
  unfold Zhq
  split
  ·split
   ·exact .any _
   ·exact r.mono hx
  ·exact r.mono hx
 cases v<;>simp only[V.isRef,Bool.false_eq_true] at hr<;>simp only[frz]
 case osl k =>
  split
  ·exact r.mono hx
  ·rename_i hk
   have:=Nat.eq_of_beq_eq_true hk
   subst this
   split
   ·rename_i T xs
    obtain⟨K,hK,rfl⟩:=Zcf r
    rw[hL] at hK;cases hK
    have hat':=hat.keep hx (fun _=>rfl)
    obtain⟨h1,h2,h3,e,cs,h4,h5 | ⟨cur,h5,h6,h7,h8,h9,h10,h11⟩⟩:=hat'
    ·obtain⟨h5,rfl⟩:=h5
     refine .d ⟨L.a,L.cap,by simp[Loc.v,h3],⟨by simp,by rw[h5];simp[maxLen]⟩,fun h=>absurd rfl h⟩
    ·refine .d ⟨L.a,L.cap,by simp[Loc.v,h3],⟨h7,h9⟩,fun _=>⟨L.b,0,h5,.inr ⟨by simp only[Obj.has];omega,rfl⟩,fun i x hx=>?_⟩⟩
     subst h11
     exact h4.cell h6 i x hx
   ·exact .any _
 case ref k off =>
  split
  ·exact r.mono hx
  ·rename_i hk
   have:=Nat.eq_of_beq_eq_true hk
   subst this
   split
   ·rename_i cs
    obtain⟨K,hK,rfl⟩:=Zhk r
    rw[hL] at hK;cases hK
    obtain⟨vals,t,h1,h2,h3⟩:=hat
    have hlen:(Zip off cs).length=cs.length - off:=by rw[Zex];simp
    refine .er (fun j=>vals.getD (off+j) undef) (.inr ⟨trivial,rfl⟩) (fun j hj=>?_) (fun j hj=>?_)
    ·rw[show (E.still L.b ((Obj.box cs).has L)).w=E.w from rfl,ZcZ h1]
     rw[Array.getD_eq_getD_getElem?,Array.getElem?_eq_getElem (by omega)];rfl
    ·have:=(h3 (off+j) (by omega)).mono hx
     rw[Zex,List.getD_eq_getElem?_getD,List.getElem?_drop,← List.getD_eq_getElem?_getD]
     exact this
   ·exact .any _
 all_goals exact hinv _ r
theorem Z7.substO{f:V→V}(g:Z7 P E objs)(hf:∀ v c,v.isRef=true→Rep P E v c→Rep P E (f v) c):Z7 P E (substO f objs):=by
 have hget:∀ {l o},Zv l (YtgpdnmfpgkkgcaaGreatDoor.substO f objs)=some o→∃ q,Zv l objs=some q∧o=q.subst f:=by
  intro l o h
  rw[ZbS,Option.map_eq_some_iff] at h
  obtain⟨q,hq,rfl⟩:=h
  exact⟨q,hq,rfl⟩
 refine⟨fun l o h=>?_,fun b h=>g.ns b (ZkW.1 h),g.sl,g.tab,fun i j p q K K' h1 h2 h3 h4 h5 h6 h7=>?_⟩
 ·obtain⟨q,hq,rfl⟩:=hget h
  obtain⟨L,hL,ha⟩:=g.at_ l q hq
  exact⟨L,hL,ha.keepS (fun v c r=>Zcq (fun b hb=>⟨hb,rfl⟩) hf r) (fun b hb=>⟨hb,rfl⟩) (fun _=>rfl)⟩
 ·obtain⟨p',k1,rfl⟩:=hget h1
  obtain⟨q',k2,rfl⟩:=hget h2
  exact g.inj i j p' q' K K' k1 k2 h3 h4 (Obj.has_subst.1 h5) (Obj.has_subst.1 h6) h7
theorem ZcH.substO{E0 E:Env}{imp objs:Zat}{M:List Nat}{f:V→V}(h:ZcH E0 imp E objs M):ZcH E0 imp E (substO f objs) M :=
 ⟨h.ext,h.os,h.tape,h.output,h.size,h.frame,fun b hb=>h.own b (ZkW.1 hb),h.st,fun l hl=>h.keys l (by rw[ZbS] at hl;simpa using hl),fun l hl=>h.dom l (by rw[ZbS] at hl;simpa using hl)⟩
theorem Zd3.mono{E E':Env}{f:V→V}(hf:∀ v c,Rep P E v c→Rep P E' (v.subst f) c)(hl:∀ l L,E.loc l=some L→∃ L',E'.loc l=some L'∧L'.b=L.b):∀ {df:List Df} {ds:List Deferred},Zd3 P E df ds→Zd3 P E' (ZfN f df) ds
 | [],_,h=>h
 | .mark l::r,_,⟨L,rest,h1,⟨K,hK,h2⟩,h3⟩=>by
   obtain⟨K',hK',e⟩:=hl l K hK
   exact⟨L,rest,h1,⟨K',hK',e.trans h2⟩,h3.mono hf hl⟩
 | .fn g cs::r,_,⟨q,rest,h1,h2,h3⟩=>⟨q,rest,h1,⟨by rw[h2.1,Zcc];simp,fun j hj=>by
  rw[Zcc,List.length_map] at hj
  have:=hf _ _ (h2.2 j hj)
  rw[ZbY hj];exact this⟩,h3.mono hf hl⟩
theorem Zel:∀ {df:List Df},ZfN (fun v=>v) df=df
 | []=>rfl
 | .mark _::r=>by simp only[ZfN,Df.subst,Zel]
 | .fn g cs::r=>by
   have h:∀ v:V,v.subst (fun v=>v)=v:=fun v=>subst_none v
   simp only[ZfN,Df.subst,Zel,Zcc,List.map_congr_left (fun v _=>h v),List.map_id']
where
 subst_none:∀ v:V,v.subst (fun v=>v)=v
  | .fn g a b=>by simp only[V.subst,list a,list b]
  | .agg cs=>by simp only[V.subst,list cs]
  | .tup cs=>by simp only[V.subst,list cs]
  | .er cs=>by simp only[V.subst,list cs]
  | .when b v=>by simp only[V.subst,subst_none v]
  | .opt b v=>by simp only[V.subst,subst_none v]
  | .ref .. | .rref .. | .osl _ | .osp .. | .map _ | .yl _ | .bsl .. | .any | .d .. | .nilp | .nilf | .nils | .nilm | .pf ..=>rfl
 list:∀ l:List V,ZbR (fun v=>v) l=l
  | []=>rfl
  | v::l=>by simp only[ZbR,subst_none v,list l]
theorem Zd3.ext{E E':Env}(hx:Ext E E' []){df:List Df}{ds:List Deferred}(h:Zd3 P E df ds):Zd3 P E' df ds:=by
 have:=h.mono (f:=fun v=>v) (E':=E') (fun v c r=>by rw[Zel.subst_none];exact r.mono hx) (fun l L hl=>⟨L,hx.loc l L (by simp) hl,rfl⟩)
 rwa [Zel] at this
theorem ZcR.subst {cx : Cx} {s : St} {a : Act} {E E' : Env} {l : Nat} {f : V → V} (r : ZcR P cx s a E) (hf : ∀ v c, v.isRef = true → Rep P E v c → Rep P E' (f v) c) (hw : E'.w = E.w) (hlo : E'.loc = E.loc) (hS : ∀ b, E.S b → E'.S b)
 (g:Z7 P E' (substO f s.objs)) (st:ZcH cx.E cx.imp E' (substO f s.objs) s.mv):ZcR P cx (s.subst l f) a E':=by
 obtain⟨nt,tmps,objs,nx,df,wr,di,mv⟩:=s
 have hr:∀ v c,Rep P E v c→Rep P E' (v.subst f) c:=fun v c h=>Zcq (fun b hb=>⟨hS b hb,by rw[hw]⟩) hf h
 refine⟨g,fun k hk=>by rw[hlo];exact r.fresh k hk,st,by rw[hw];exact r.drawn,r.size,r.df.mono hr (fun k K hK=>⟨K,by rw[hlo];exact hK,rfl⟩),fun t=>?_⟩
 show Rep P E' (ZbE t (ZcI f tmps)) _
 rw[ZcD,ZcS]
 exact hr _ _ (r.rep t)
def St.freeze(l:Nat)(s:St):St:=match Zv l s.objs with
 | some o=>match s.subst l (frz l o) with
   | ⟨nt,tmps,objs,nx,df,wr,di,mv⟩=>⟨nt,tmps,(l,.dead)::objs,nx,df,wr,l::di,mv⟩
 | none=>s
theorem Zkg{cx:Cx}{s:St}{a:Act}{E:Env}{o:Obj}{L:Loc}(l:Nat)(ho:Zv l s.objs=some o)(hL:E.loc l=some L)(r:ZcR P cx s a E):ZcR P cx (s.freeze l) a (E.still L.b (o.has L)):=by
 unfold St.freeze
 split
 ·rename_i o' ho'
  rw[ho] at ho'
  cases ho'
  obtain⟨g1,s1⟩:=r.good.still ho hL
  have hf:∀ v c,v.isRef=true→Rep P E v c→Rep P (E.still L.b (o.has L)) (frz l o v) c:=fun v c hr h=>ZiI r.good ho hL rfl hr h
  have hx:Ext E (E.still L.b (o.has L)) []:=⟨fun b hs=>⟨.inl hs,rfl⟩,fun j K _ hK=>hK⟩
  have hf1:∀ v c,v.isRef=true→Rep P (E.still L.b (o.has L)) v c→Rep P (E.still L.b (o.has L)) (frz l o v) c:=fun v c hr h=>by
   refine hf v c hr ?_
   cases h<;>simp only[V.isRef,Bool.false_eq_true] at hr
   ·rename_i h;exact .ref h
   ·rename_i h;exact .rref h
   ·rename_i h;exact .osl h
   ·rename_i h hp;exact .osp h hp
   ·rename_i h;exact .map h
   ·rename_i h;exact .yl h
   ·rename_i h;exact .bsl h
  have g2:=g1.substO hf1
  obtain⟨nt,tmps,objs,nx,df,wr,di,mv⟩:=s
  have hr:∀ v c,Rep P E v c→Rep P (E.still L.b (o.has L)) (v.subst (frz l o)) c:=fun v c h=>Zcq hx.S hf h
  refine⟨g2,r.fresh,?_,r.drawn,r.size,r.df.mono hr (fun k K hK=>⟨K,hK,rfl⟩),fun t=>?_⟩
  ·exact (r.step.trans s1).substO (f:=frz l o)
  ·show Rep P _ (ZbE t (ZcI _ tmps)) _
   rw[ZcD,ZcS]
   exact hr _ _ (r.rep t)
 ·rename_i hn;rw[ho] at hn;cases hn
theorem Ze8{cx:Cx}{s:St}(l:Nat):Wk P cx s (s.freeze l):=by
 rintro a w ⟨E,rfl,r⟩
 cases h:Zv l s.objs with
 | none=>exact⟨E,rfl,by unfold St.freeze;rw[h];exact r⟩
 | some o =>
   obtain⟨L,hL,_⟩:=r.good.at_ l o h
   exact⟨E.still L.b (o.has L),rfl,Zkg l h hL r⟩
theorem Inv.freeze(l:Nat)(s:St):Inv s (s.freeze l):=by
 unfold St.freeze
 split
 ·rename_i o ho
  have h:=Inv.subst (s:=s) (l:=l) (f:=frz l o) Zw3
  generalize s.subst l (frz l o)=s1 at h
  refine h.trans ?_
  obtain⟨nt,tmps,objs,nx,df,wr,di,mv⟩:=s1
  exact⟨rfl,Nat.le_refl _,fun _ h=>h,fun _ h=>List.mem_cons_of_mem _ h,fun _ h=>h,fun _ _=>rfl,fun k hk=>by
   simp only[List.mem_cons,not_or] at hk
   simp only;rw[Zl,if_neg (Ne.symm hk.1)],fun _=>rfl⟩
 ·exact .refl s
end
section
variable {P:Program} {τ:Zar} {E:Env} {objs:Zat}
def ZqK:(T:Ty)→T.den→V
 | .pair a b,x=>.agg (flat (.pair a b) x)
 | .int k,x=>.d (.int k) x
 | .bool,x=>.d .bool x
 | .str,x=>.d .str x
 | .sl t,x=>.d (.sl t) x
 | .unit,x=>.d .unit x
def Zql:(ts:List Ty)→ZeI ts→List V
 | [],_=>[]
 | [t],x=>[ZqK t x]
 | t::u::l,x=>ZqK t x.1::Zql (u::l) x.2
def Zbo:(rs:List Ty)→ZeI rs→V
 | [],_=>.tup []
 | [t],x=>ZqK t x
 | t::u::l,x=>.tup (Zql (t::u::l) x)
def getD:(T:Ty)→V→Option T.den
 | .pair a b,v=>match v with
   | .agg cs=>Zmm (.pair a b) cs
   | _=>none
 | .int k,v=>ZpR k [v]
 | .bool,v=>ZvJ [v]
 | .str,v=>Zu1 [v]
 | .sl t,v=>ZwC t v
 | .unit,_=>none
def Zos:(ts:List Ty)→List V→Option (ZeI ts)
 | [],vs=>match vs with
   | []=>some ()
   | _=>none
 | [t],vs=>match vs with
   | [v]=>getD t v
   | _=>none
 | t::u::l,vs=>match vs with
   | v::r=>match getD t v with
     | some x=>match Zos (u::l) r with
       | some y=>some (x,y)
       | none=>none
     | none=>none
   | _=>none
def Zog:(rs:List Ty)→V→Option (ZeI rs)
 | [],v=>match v with
   | .tup []=>some ()
   | _=>none
 | [t],v=>getD t v
 | t::u::l,v=>match v with
   | .tup vs=>Zos (t::u::l) vs
   | _=>none
def Zt3:(rs:List Ty)→ZeI rs
 | []=>()
 | [t]=>t.dflt
 | t::u::l=>(t.dflt,Zt3 (u::l))
theorem Zio{w:World}{S:Nat→Prop}{lo:Nat→Option Loc}:∀ {T:Ty} {x:T.den} {c:Value},ZoA w S T x c→Rep P ⟨w,S,lo⟩ (ZqK T x) c
 | .pair a b,x,c,⟨cs,h1,h2⟩=>by
   subst h1
   have:=ZdS (P:=P) (E:=⟨w,S,lo⟩) h2
   exact .agg (by simpa using this.1) (fun j hj=>by
    have:=this.2 j hj
    simpa[Array.getD_eq_getD_getElem?,List.getD_eq_getElem?_getD] using this)
 | .int k,x,c,h=>.d h
 | .bool,x,c,h=>.d h
 | .str,x,c,h=>.d h
 | .sl t,x,c,h=>.d h
 | .unit,x,c,h=>.d h
theorem Zib{w:World}{S:Nat→Prop}{lo:Nat→Option Loc}:∀ {ts:List Ty} {x:ZeI ts} {cs:List Value},Zka w S ts x cs→Zby P ⟨w,S,lo⟩ (Zql ts x) cs
 | [],_,_,h=>by rw[show _=_ from h];exact .nil
 | [t],_,_,⟨v,h1,h2⟩=>by rw[h1];exact .cons (Zio h2) .nil
 | t::u::l,_,_,⟨v,r,h1,h2,h3⟩=>by rw[h1];exact .cons (Zio h2) (Zib h3)
theorem Zoz{cs:List V}{c:Value}(r:Rep P E (.agg cs) c):∃ a:Array Value,c=.agg a∧Zby P E cs a.toList:=by
 cases r with
 | agg h1 h2 =>
   rename_i a
   exact⟨a,rfl,by simpa using h1,fun j hj=>by simpa[Array.getD_eq_getD_getElem?,List.getD_eq_getElem?_getD] using h2 j hj⟩
theorem ZrH{cs:List V}{c:Value}(r:Rep P E (.tup cs) c):∃ a:Array Value,c=.tuple a∧Zby P E cs a.toList:=by
 cases r with
 | tup h1 h2 =>
   rename_i a
   exact⟨a,rfl,by simpa using h1,fun j hj=>by simpa[Array.getD_eq_getD_getElem?,List.getD_eq_getElem?_getD] using h2 j hj⟩
theorem ZkR{f:Fn}{fs cs:List V}{c:Value}(r:Rep P E (.fn f fs cs) c):∃ a b:Array Value,c=.func f a b∧Zby P E fs a.toList∧Zby P E cs b.toList:=by
 cases r with
 | fn h1 h2 h3 h4 =>
   rename_i a b
   exact ⟨a, b, rfl, ⟨by simpa using h1, fun j hj => by simpa [Array.getD_eq_getD_getElem?, List.getD_eq_getElem?_getD] using h3 j hj⟩,
    ⟨by simpa using h2,fun j hj=>by simpa[Array.getD_eq_getD_getElem?,List.getD_eq_getElem?_getD] using h4 j hj⟩⟩
theorem ZdV:∀ {T:Ty} {v:V} {x:T.den} {c:Value},getD T v=some x→Rep P E v c→ZoA E.w E.S T x c
 | .pair a b,v,x,c,h,r=>by
   simp only[getD] at h
   split at h
   ·obtain⟨ca,rfl,rs⟩:=Zoz r
    exact⟨ca,rfl,Zcg h rs⟩
   ·cases h
 | .int k,v,x,c,h,r=>Zcg (t:=.int k) (vs:=[v]) h (.cons r .nil)
 | .bool,v,x,c,h,r=>Zcg (t:=.bool) (vs:=[v]) h (.cons r .nil)
 | .str,v,x,c,h,r=>Zcg (t:=.str) (vs:=[v]) h (.cons r .nil)
 | .sl t,v,x,c,h,r=>Zcg (t:=.sl t) (vs:=[v]) h (.cons r .nil)
 | .unit,v,x,c,h,r=>by cases h
theorem Zg7:∀ {ts:List Ty} {vs:List V} {x:ZeI ts} {cs:List Value},Zos ts vs=some x→Zby P E vs cs→Zka E.w E.S ts x cs
 | [],vs,x,cs,h,r=>by
   simp only[Zos] at h
   split at h
   ·exact List.eq_nil_of_length_eq_zero (by simpa using r.1)
   ·cases h
 | [t],vs,x,cs,h,r=>by
   simp only[Zos] at h
   split at h
   ·obtain⟨c,rfl,r1⟩:=r.single
    exact⟨c,rfl,ZdV h r1⟩
   ·cases h
 | t::u::l,vs,x,cs,h,r=>by
   simp only[Zos] at h
   split at h
   ·rename_i v r'
    split at h
    ·rename_i x' hx
     split at h
     ·rename_i y hy
      cases h
      match cs,r with
      | c::cs,r=>exact⟨c,cs,rfl,ZdV hx r.head,Zg7 hy r.tail⟩
      | [],r=>exact absurd r.1 (by simp)
     ·cases h
    ·cases h
   ·cases h
theorem Zoj{w:World}{S:Nat→Prop}{lo:Nat→Option Loc}:∀ {rs:List Ty} {x:ZeI rs} {c:Value},ZvC w S rs x c→Rep P ⟨w,S,lo⟩ (Zbo rs x) c
 | [],_,_,h=>by rw[show _=_ from h];exact .tup rfl (fun j hj=>by simp at hj)
 | [t],_,_,h=>Zio h
 | t::u::l,x,_,⟨vs,h1,h2⟩=>by
   have:=Zib (P:=P) (lo:=lo) h2
   rw[h1]
   exact .tup (by simpa using this.1) (fun j hj=>by
    have:=this.2 j hj
    simpa[Array.getD_eq_getD_getElem?,List.getD_eq_getElem?_getD] using this)
theorem ZjR:∀ {rs:List Ty} {v:V} {x:ZeI rs} {c:Value},Zog rs v=some x→Rep P E v c→ZvC E.w E.S rs x c
 | [],v,x,c,h,r=>by
   simp only[Zog] at h
   split at h
   ·obtain⟨a,rfl,hr⟩:=ZrH r
    have:a=#[]:=by have:=hr.1;simpa using this
    subst this;rfl
   ·cases h
 | [t],v,x,c,h,r=>ZdV h r
 | t::u::l,v,x,c,h,r=>by
   simp only[Zog] at h
   split at h
   ·obtain⟨a,rfl,hr⟩:=ZrH r
    exact⟨a,rfl,Zg7 h hr⟩
   ·cases h
mutual
def V.fk:V→Option Nat
 | .fn _ a b=>match fkL a with
   | some l=>some l
   | none=>fkL b
 | .agg cs=>fkL cs
 | .tup cs=>fkL cs
 | .er cs=>fkL cs
 | .when _ v=>V.fk v
 | .opt _ v=>V.fk v
 | .ref k _=>some k
 | .rref k _ _=>some k
 | .osl k=>some k
 | .osp k _ _=>some k
 | .map k=>some k
 | .yl k=>some k
 | .bsl k _=>some k
 | _=>none
def fkL:List V→Option Nat
 | []=>none
 | v::r=>match V.fk v with
   | some l=>some l
   | none=>fkL r
end
theorem Zgc:∀ {l:List V},fkL l=none→∀ j,(l.getD j .any).fk=none
 | [],_,j=>by simp[V.fk]
 | v::r,h,j=>by
   simp only[fkL] at h
   split at h
   ·cases h
   ·rename_i h1
    cases j with
    | zero=>simpa using h1
    | succ j=>simpa using Zgc h j
theorem Zkc{E E':Env}(hS:∀ b,E.S b→E'.S b∧E'.w.heap[b]?=E.w.heap[b]?){v:V}{c:Value}(r:Rep P E v c):v.fk=none→Rep P E' v c:=by
 induction r with
 | any v=>exact fun _=>.any v
 | d hc=>exact fun _=>.d (hc.mono hS)
 | nilp=>exact fun _=>.nilp
 | nilf=>exact fun _=>.nilf
 | nils a=>exact fun _=>.nils a
 | nilm=>exact fun _=>.nilm
 | fn h1 h2 _ _ i1 i2 =>
   intro h
   simp only[V.fk] at h
   split at h
   ·cases h
   ·rename_i h0
    exact .fn h1 h2 (fun j hj=>i1 j hj (Zgc h0 j)) (fun j hj=>i2 j hj (Zgc h j))
 | agg h1 _ i1=>exact fun h=>.agg h1 (fun j hj=>i1 j hj (Zgc h j))
 | tup h1 _ i1=>exact fun h=>.tup h1 (fun j hj=>i1 j hj (Zgc h j))
 | er c hb hc _ i=>exact fun h=>.er c (hS _ hb).1 (fun j hj=>(ZdL (hS _ hb).2 _).trans (hc j hj)) (fun j hj=>i j hj (Zgc h j))
 | ref k=>intro h;cases h
 | rref k=>intro h;cases h
 | osl k=>intro h;cases h
 | osp k kp=>intro h;cases h
 | map k=>intro h;cases h
 | when _ h2 i1=>exact fun h=>.when (fun e=>i1 e h) h2
 | opt _ h2 i1=>exact fun h=>.opt (fun e=>i1 e h) h2
 | pf k=>exact fun _=>.pf (k.mono hS)
 | yl k=>intro h;cases h
 | bsl k=>intro h;cases h
theorem Zds{E E':Env}(hS:∀ b,E.S b→E'.S b∧E'.w.heap[b]?=E.w.heap[b]?){vs:List V}{cs:List Value}(r:Zby P E vs cs)(h:fkL vs=none):Zby P E' vs cs :=
 ⟨r.1,fun j hj=>Zkc hS (r.2 j hj) (Zgc h j)⟩
def Ty.plain:Ty→Bool
 | .sl _=>false
 | .pair a b=>match a.plain with
   | true=>b.plain
   | false=>false
 | _=>true
mutual
def V.plain:V→Bool
 | .d t _=>t.plain
 | .agg cs=>Zm1 cs
 | .tup cs=>Zm1 cs
 | _=>false
def Zm1:List V→Bool
 | []=>true
 | v::r=>match V.plain v with
   | true=>Zm1 r
   | false=>false
end
theorem Zhp:∀ {l:List V},Zm1 l=true→∀ j,j < l.length→(l.getD j .any).plain=true
 | [],_,j,hj=>by simp at hj
 | v::r,h,j,hj=>by
   simp only[Zm1] at h
   split at h
   ·rename_i h1
    cases j with
    | zero=>simpa using h1
    | succ j=>simpa using Zhp h j (by simpa using hj)
   ·cases h
theorem ZfW{w w':World}{S S':Nat→Prop}:∀ {t:Ty} {x:t.den} {cs:List Value},t.plain=true→ZbD w S t x cs→ZbD w' S' t x cs
 | .int _,_,_,_,h=>h
 | .bool,_,_,_,h=>h
 | .str,_,_,_,h=>h
 | .sl _,_,_,h,_=>by cases h
 | .pair a b,_,_,h,⟨c1,c2,e,h1,h2⟩=>by
   simp only[Ty.plain] at h
   split at h
   ·rename_i ha;exact⟨c1,c2,e,ZfW ha h1,ZfW h h2⟩
   ·cases h
 | .unit,_,_,_,h=>h
theorem ZsQ{E E':Env}{v:V}{c:Value}(r:Rep P E v c):v.plain=true→Rep P E' v c:=by
 induction r with
 | d hc=>exact fun h=>.d (ZfW h hc)
 | agg h1 _ i1=>exact fun h=>.agg h1 (fun j hj=>i1 j hj (Zhp h j hj))
 | tup h1 _ i1=>exact fun h=>.tup h1 (fun j hj=>i1 j hj (Zhp h j hj))
 | _=>intro h;cases h
inductive PS where
 | d (T:Ty)
 | e (T:Ty)
 | f (ts rs:List Ty)
@[reducible] def PS.den:PS→Type
 | .d T=>T.den
 | .e T=>T.den
 | .f ts rs=>(ZeI ts→Prop)×(ZeI ts→ZeI rs)
@[reducible] def Zcs:List PS→Type
 | []=>Unit
 | p::l=>p.den×Zcs l
def PS.toV:(p:PS)→p.den→V
 | .d T,x=>ZqK T x
 | .e T,x=>.er (flat T x)
 | .f ts rs,x=>.pf ts rs x.1 x.2
def Zj2:(ps:List PS)→Zcs ps→List V
 | [],_=>[]
 | p::l,x=>p.toV x.1::Zj2 l x.2
structure Con where
 ps:List PS
 pre:Option (Zcs ps→Prop)
 res:Zcs ps→V
def Con.ob(c:Con)(xs:Zcs c.ps):Option Prop:=match c.pre with
 | none=>none
 | some p=>some (p xs)
def ZQ(P:Program)(f:FuncId)(c:Con):Prop :=
 ZbT P f∧∀ (w:World) (S:Nat→Prop) (xs:Zcs c.ps),Sok P w S→okP (c.ob xs)→∀ args:Array Value,Zby P ⟨w,S,fun _=>none⟩ (Zj2 c.ps xs) args.toList →
  Calls P f args w fun e w2=>∃ v S2,e=.returned v∧ZhY w S w2 S2∧Rep P ⟨w2,S2,fun _=>none⟩ (c.res xs) v
def ZeC(P:Program)(E:Env)(L:Loc)(T:Ty)(xs:List T.den)(w:World)(K:Loc)(zs:List T.den):Prop :=
 ∃ row:Option Nat,E.w.grownBy w row∧(∀ b,row=some b→(Obj.row T xs).has L∧b=L.b)∧(∀ lo,ZaM P ⟨w,E.S,lo⟩ K (.row T zs))∧((Obj.row T zs).has K→((Obj.row T xs).has L∧K.b=L.b)∨E.w.heap.size≤K.b)∧E.w.drawn≤w.drawn
structure ZqN where
 T:Ty
 own:Bool
 ps:List PS
 pre:List T.den→Zcs ps→Prop
 fn:List T.den→Zcs ps→List T.den
def Zlk(P:Program)(f:FuncId)(r:ZqN):Prop:=ZbT P f∧match r.own with
 | false=>∀ (w:World) (S:Nat→Prop) (ys:Zcs r.ps),Sok P w S→r.pre [] ys→∀ args:Array Value,Zby P ⟨w,S,fun _=>none⟩ (Zj2 r.ps ys) args.toList →
   Calls P f args w fun e w2=>∃ K,e=.returned K.v∧w.grownBy w2 none∧w.drawn≤w2.drawn∧(∀ lo,ZaM P ⟨w2,S,lo⟩ K (.row r.T (r.fn [] ys)))∧((Obj.row r.T (r.fn [] ys)).has K→w.heap.size≤K.b)
 | true=>∀ (E:Env) (objs:Zat) (l:Nat) (L:Loc) (xs:List r.T.den) (ys:Zcs r.ps),Z7 P E objs→Zv l objs=some (.row r.T xs)→E.loc l=some L→r.pre xs ys→∀ args:List Value,Zby P ⟨E.w,E.S,fun _=>none⟩ (Zj2 r.ps ys) args →
   Calls P f (L.v::args).toArray E.w fun e w2=>∃ K,e=.returned K.v∧ZeC P E L r.T xs w2 K (r.fn xs ys)
def Zxb(P:Program)(f:FuncId):Prop:=ZbT P f∧∀ (E:Env) (objs:Zat) (l k:Nat) (L K:Loc) (xs zs:List Int) (i:Int),Z7 P E objs→Zv l objs=some (.row (.int .i64) xs)→Zv k objs=some (.row (.int .i64) zs)→l≠k→E.loc l=some L→E.loc k=some K →
 0≤i→i≤(xs.length:Int)→(xs.length+zs.length)*8≤140737488355328→Calls P f #[L.v,.int .i64 i,K.v] E.w fun e w2=>∃ M,e=.returned M.v∧ZeC P E L (.int .i64) xs w2 M (xs.take i.toNat++zs++xs.drop i.toNat)
def Zun(P:Program)(f h:FuncId):Prop:=ZbT P f∧∀ (E:Env) (objs:Zat) (v:V) (c:Value),Z7 P E objs→v.solid=true→Rep P E v c →
 Calls P f #[c] E.w fun e w2=>∃ u E',e=.returned u∧E'.w=w2∧Z7 P E' objs∧ZcH E objs E' objs []∧E.w.drawn≤w2.drawn∧Rep P E' (.fn (.func h) [] [.er [v]]) u
structure Zxd where
 ps:List PS
 pre:Zcs ps→Prop
 fn:Zcs ps→List Int×Int
def ZqR(P:Program)(f:FuncId)(c:Zxd):Prop:=ZbT P f∧∀ (E:Env) (objs:Zat) (n:Nat) (ys:Zcs c.ps),Z7 P E objs→E.loc n=none→c.pre ys→∀ args:Array Value,Zby P ⟨E.w,E.S,fun _=>none⟩ (Zj2 c.ps ys) args.toList →
 Calls P f args E.w fun e w2=>∃ u E',e=.returned u∧E'.w=w2∧Z7 P E' ((n,.row (.int .i64) (c.fn ys).1)::objs)∧ZcH E objs E' ((n,.row (.int .i64) (c.fn ys).1)::objs) []∧E.w.drawn≤w2.drawn∧Rep P E' (.agg [.osl n,.d (.int .i64) (c.fn ys).2]) u
inductive CX where
 | con (c:Con)
 | row (r:ZqN)
 | ins
 | clo (h:Nat)
 | lin (c:Zxd)
def CX.Ok(P:Program)(f:FuncId):CX→Prop
 | .con c=>ZQ P f c
 | .row r=>Zlk P f r
 | .ins=>Zxb P f
 | .clo h=>Zun P f h
 | .lin c=>ZqR P f c
abbrev Z1:=Nat→Option CX
def Zak(P:Program)(κ:Z1):Prop:=∀ f c,κ f=some c→c.Ok P f
def Zu4(κ:Z1)(ts rs:List Ty)(get:(ps:List PS)→List V→Option (Zcs ps))(g:FuncId)(fst caps:List V)(xs:ZeI ts):Prop :=
 match κ g with
 | some (.con c)=>match get c.ps (fst++(Zql ts xs++caps)) with
   | none=>False
   | some ys=>match Zog rs (c.res ys) with
     | none=>False
     | some _=>okP (c.ob ys)
 | _=>False
def ZxD(κ:Z1)(ts rs:List Ty)(get:(ps:List PS)→List V→Option (Zcs ps))(g:FuncId)(fst caps:List V)(xs:ZeI ts):ZeI rs :=
 match κ g with
 | some (.con c)=>match get c.ps (fst++(Zql ts xs++caps)) with
   | none=>Zt3 rs
   | some ys=>match Zog rs (c.res ys) with
     | none=>Zt3 rs
     | some r=>r
 | _=>Zt3 rs
abbrev Zqo:=(ps:List PS)→List V→Option (Zcs ps)
def Ze0(κ:Z1)(rec:Zqo):Zqo
 | [],vs=>match vs with
   | []=>some ()
   | _=>none
 | .d T::l,vs=>match vs with
   | v::r=>match getD T v with
     | some x=>match Ze0 κ rec l r with
       | some y=>some (x,y)
       | none=>none
     | none=>none
   | []=>none
 | .e T::l,vs=>match vs with
   | v::r=>match v with
     | .er cs=>match Zmm T cs with
       | some x=>match Ze0 κ rec l r with
         | some y=>some (x,y)
         | none=>none
       | none=>none
     | _=>none
   | []=>none
 | .f ts rs::l,vs=>match vs with
   | v::r=>match v with
     | .pf ts' rs' pre f => if h : ts' = ts ∧ rs' = rs then match Ze0 κ rec l r with
      | some y=>some ((fun x=>pre (h.1.symm▸x),fun x=>h.2▸f (h.1.symm▸x)),y)
      | none=>none
      else none
     | .fn (.func g) fst caps=>match κ g with
       | some (.con _)=>match fkL fst with
         | none=>match fkL caps with
           | none=>match Ze0 κ rec l r with
             | some y=>some ((Zu4 κ ts rs rec g fst caps,ZxD κ ts rs rec g fst caps),y)
             | none=>none
           | some _=>none
         | some _=>none
       | _=>none
     | _=>none
   | []=>none
def ZkY(κ:Z1):Nat→Zqo
 | 0=>Ze0 κ fun _ _=>none
 | n+1=>Ze0 κ (ZkY κ n)
def Zt6(P:Program)(get:Zqo):Prop:=∀ (E:Env) ps vs xs cs,get ps vs=some xs→Zby P E vs cs→Zby P E (Zj2 ps xs) cs
theorem ZxA {κ : Z1} (hκ : Zak P κ) {get : Zqo} (hg : Zt6 P get) {ts rs : List Ty} {g : FuncId} {fst caps : List V} {c : Value} (r : Rep P E (.fn (.func g) fst caps) c) (h1 : fkL fst = none) (h2 : fkL caps = none)
 (hc:∃ k,κ g=some (.con k)):Rep P E (.pf ts rs (Zu4 κ ts rs get g fst caps) (ZxD κ ts rs get g fst caps)) c:=by
 obtain⟨a,b,rfl,ra,rb⟩:=ZkR r
 obtain⟨k,hk⟩:=hc
 have hok:ZQ P g k:=hκ g _ hk
 refine .pf ⟨g,a,b,rfl,hok.1,fun w1 S1 hS hlt xs hpre cargs hargs=>?_⟩
 simp only[Zu4,hk] at hpre
 simp only[ZxD,hk]
 split at hpre
 ·exact hpre.elim
 ·rename_i ys hys
  split at hpre
  ·exact hpre.elim
  ·rename_i r' hr'
   have rs0:Zby P ⟨w1,S1,fun _=>none⟩ (fst++(Zql ts xs++caps)) (a++cargs++b).toList:=by
    have:=(Zds (E':=⟨w1,S1,fun _=>none⟩) hS ra h1).append ((Zib (P:=P) (lo:=fun _=>none) hargs).append (Zds (E':=⟨w1,S1,fun _=>none⟩) hS rb h2))
    simpa using this
   have rs1:=hg _ _ _ _ _ hys rs0
   refine Calls.mono (hok.2 w1 S1 ys hlt hpre _ rs1) ?_
   rintro e w2 ⟨v,S2,rfl,hgr,hv⟩
   exact⟨v,S2,rfl,hgr,ZjR hr' hv⟩
theorem ZmH{κ:Z1}(hκ:Zak P κ){rec:Zqo}(hr:Zt6 P rec):Zt6 P (Ze0 κ rec):=by
 intro E ps
 induction ps with
 | nil =>
   intro vs xs cs h r
   simp only[Ze0] at h
   split at h
   ·cases h;exact r
   ·cases h
 | cons p l ih =>
   intro vs xs cs h r
   cases p with
   | d T =>
     simp only[Ze0] at h
     split at h
     ·rename_i v r'
      split at h
      ·rename_i x hx
       split at h
       ·rename_i y hy
        cases h
        match cs,r with
        | c::cs,r=>exact .cons (Zio (ZdV hx r.head)) (ih _ _ _ hy r.tail)
        | [],r=>exact absurd r.1 (by simp)
       ·cases h
      ·cases h
     ·cases h
   | e T =>
     simp only[Ze0] at h
     split at h
     ·rename_i v r'
      match cs,r with
      | [],r=>exact absurd r.1 (by simp)
      | c::cs,r =>
        split at h
        ·rename_i es _
         split at h
         ·rename_i x hx
          split at h
          ·rename_i y hy
           cases h
           refine .cons ?_ (ih _ _ _ hy r.tail)
           have rh:=r.head
           cases rh with
           | er f hb hc hr =>
             rename_i b off
             have rs:Zby P E es ((List.range es.length).map f):=⟨by simp,fun j hj=>by
              have:=hr j hj
              simpa[List.getD_eq_getElem?_getD,hj] using this⟩
             have hcells:=Zcg hx rs
             have hlen:=hcells.length
             simp only[List.length_map,List.length_range] at hlen
             have rf:=ZdS (P:=P) (E:=E) hcells
             refine .er f hb (fun j hj=>hc j ?_) (fun j hj=>?_)
             ·rw[Zep] at hj;omega
             ·have:=rf.2 j hj
              rw[Zep,← hlen] at hj
              simpa[List.getD_eq_getElem?_getD,hj] using this
          ·cases h
         ·cases h
        ·cases h
     ·cases h
   | f ts rs =>
     simp only[Ze0] at h
     split at h
     ·rename_i v r'
      match cs,r with
      | [],r=>exact absurd r.1 (by simp)
      | c::cs,r =>
        split at h
        ·rename_i ts' rs' pre f
         split at h
         ·rename_i hh
          obtain⟨rfl,rfl⟩:=hh
          split at h
          ·rename_i y hy
           cases h
           exact .cons r.head (ih _ _ _ hy r.tail)
          ·cases h
         ·cases h
        ·split at h
         ·rename_i k hk
          split at h
          ·rename_i h1
           split at h
           ·rename_i h2
            split at h
            ·rename_i y hy
             cases h
             exact .cons (ZxA hκ hr r.head h1 h2 ⟨k,hk⟩) (ih _ _ _ hy r.tail)
            ·cases h
           ·cases h
          ·cases h
         ·cases h
        ·cases h
     ·cases h
theorem ZeW{κ:Z1}(hκ:Zak P κ):∀ n,Zt6 P (ZkY κ n)
 | 0=>ZmH hκ fun _ _ _ _ _ h=>by cases h
 | n+1=>ZmH hκ (ZeW hκ n)
end
section
variable {P:Program} {τ:Zar} {κ:Z1} {E:Env} {objs:Zat}
def Zut:Nat→Zat→List V→Option (List V×List Nat)
 | 0,_,_=>none
 | n+1,os,vs=>match fkL vs with
   | none=>some (vs,[])
   | some l=>match Zv l os with
     | some o=>match Zut n ((l,.dead)::os) (ZbR (frz l o) vs) with
       | some (r,ks)=>some (r,l::ks)
       | none=>none
     | none=>none
theorem Zke{E E':Env}{f:V→V}(h:∀ v c,Rep P E v c→Rep P E' (v.subst f) c){vs:List V}{cs:List Value}(r:Zby P E vs cs):Zby P E' (ZbR f vs) cs :=
 ⟨by rw[Zcc,List.length_map];exact r.1,fun j hj=>by
  rw[Zcc,List.length_map] at hj
  rw[ZbY hj];exact h _ _ (r.2 j hj)⟩
theorem ZlM : ∀ {n : Nat} {os : Zat} {vs vs' : List V} {ks : List Nat} {E : Env} {cs : List Value}, Zut n os vs = some (vs', ks) → Z7 P E os → Zby P E vs cs →
 ∃ S',(∀ b,E.S b→S' b)∧(∀ b,S' b→b < E.w.heap.size)∧(ks=[]→S'=E.S)∧fkL vs'=none∧Zby P ⟨E.w,S',E.loc⟩ vs' cs∧∀ b,S' b→E.S b∨ZdI E os b
 | 0,_,_,_,_,_,_,h,_,_=>by cases h
 | n+1,os,vs,vs',ks,E,cs,h,g,r=>by
   simp only[Zut] at h
   split at h
   ·rename_i hk
    cases h
    exact⟨E.S,fun _ h=>h,g.sl,fun _=>rfl,hk,r,fun _ h=>.inl h⟩
   ·rename_i l hl
    split at h
    ·rename_i o ho
     split at h
     ·rename_i r' ks' h'
      cases h
      obtain⟨L,hL,_⟩:=g.at_ l o ho
      obtain⟨g1,s1⟩:=g.still ho hL
      have hx:Ext E (E.still L.b (o.has L)) []:=⟨fun b hs=>⟨.inl hs,rfl⟩,fun j K _ hK=>hK⟩
      have r1:Zby P (E.still L.b (o.has L)) (ZbR (frz l o) vs) cs:=Zke (fun v c h=>Zcq hx.S (fun v c hr h=>ZiI g ho hL rfl hr h) h) r
      obtain⟨S',k1,k2,_,k3,k4,k5⟩:=ZlM h' g1 r1
      refine⟨S',fun b hb=>k1 b (.inl hb),k2,fun h=>by simp at h,k3,k4,fun b hb=>?_⟩
      rcases k5 b hb with (h | ⟨h1,h2⟩) | h
      ·exact .inl h
      ·exact .inr ⟨l,o,L,ho,hL,h1,h2.symm⟩
      ·rcases s1.own b h with h3 | h3
       ·have:=g1.own_lt h
        have h3:E.w.heap.size≤b:=h3
        have this:b < E.w.heap.size:=this
        omega
       ·exact .inr h3
     ·cases h
    ·cases h
def Zt9(κ:Z1)(f:V)(args:List V):Option (Option Prop×V):=match f with
 | .fn (.func g) fst caps=>match κ g with
   | some (.con c)=>match ZkY κ 3 c.ps (fst++(args++caps)) with
     | none=>none
     | some xs=>some (c.ob xs,c.res xs)
   | _=>none
 | .pf ts rs pre f=>match Zos ts args with
   | none=>none
   | some xs=>some (some (pre xs),Zbo rs (f xs))
 | _=>none
inductive CR where
 | ok (ob:Option Prop) (v:V)
 | frz (ks:List Nat)
 | no
def ZjK(κ:Z1)(os:Zat)(f:V)(args:List V):CR:=match Zut 9 os (f::args) with
 | some (f'::args',ks)=>match Zt9 κ f' args' with
   | some (ob,v)=>match ks with
     | []=>.ok ob v
     | _=>match v.plain with
       | true=>.ok ob v
       | false=>.frz ks
   | none=>.no
 | _=>.no
def Did(P:Program)(r:Option Nat)(o:Oper)(a:Act)(E:Env)(objs:Zat)(out:Out):Prop :=
 ∀ (next:Act→World→Prop) (Q:ZjV),(∀ E' v,Z7 P E' (edit objs out.ed)→ZcH E objs E' (edit objs out.ed) (moved out.ed)→E.w.drawn≤E'.w.drawn→Rep P E' out.v v→next (a.put o.dst v) E'.w) →
  o.wpIn (fz r) 0 P a E.w next Q
theorem Ran.did{r:Option Nat}{o:Oper}{a:Act}{out:Out}(h:Ran P o a.eval E objs out)(hd:∀ c,o.op≠.defer c):Did P r o a E objs out:=by
 intro next Q hn
 obtain⟨E',n,v,h1,h2,h3,h4,h5⟩:=h
 refine⟨fun _ _=>trivial,?_⟩
 rw[Oper.semAt_eq _ _ _ hd,h1]
 rcases h2 with rfl | ⟨rfl,rfl⟩
 ·exact hn E' v h3 h4 (ZgQ _ _ _ _ h1) h5
 ·exact hn E' _ h3 h4 (ZgQ _ _ _ _ h1) h5
theorem Zfh{f:FuncId}(h:ZbT P f)(args:Array Value)(w:World):(callFunc f args).run P w=.ok (.enter f args) w:=by
 obtain⟨fn,h1,h2,h3⟩:=h
 have h4:fn.body.isNone=false:=by cases hb:fn.body<;>simp_all
 simp only[callFunc,Sem.run_bind,run_program,Result.andThen_ok,h1,h3,h4,Bool.false_eq_true,if_false,Sem.run_pure]
theorem Zlf {o : Oper} {x : Operand} {args : Array Operand} {tys : Array TypeId} (hop : o.op = .call { callee := .value x, args, argTypes := tys }) {f : FuncId} (hc : ZbT P f) {ρ : Operand → Value} {a b : Array Value}
 (hx:ρ x=.func (.func f) a b) (w:World):(execOp ρ o).run P w=.ok (.enter f (a++args.map ρ++b)) w:=by
 simp[execOp,hop,resolve,hx,Deferred.ofValue,invoke,Zfh hc]
theorem ZtU (hκ : Zak P κ) {f : V} {args : List V} {ob : Option Prop} {v : V} (h : Zt9 κ f args = some (ob, v)) (ho : okP ob) {S' : Nat → Prop} (hS : Sok P E.w S') {c : Value} {cs : List Value}
 (hk:fkL (f::args)=none) (r:Zby P ⟨E.w,S',E.loc⟩ (f::args) (c::cs)):∃ g a b,c=.func (.func g) a b∧ZbT P g∧Calls P g (a++cs.toArray++b) E.w fun e w2=>∃ u S2,e=.returned u∧ZhY E.w S' w2 S2∧Rep P ⟨w2,S2,E.loc⟩ v u:=by
 simp only[Zt9] at h
 split at h
 ·rename_i g fst caps
  split at h
  case h_2=>cases h
  ·rename_i k hk'
   split at h
   ·cases h
   ·rename_i xs hxs
    cases h
    obtain⟨a,b,rfl,ra,rb⟩:=ZkR r.head
    have hok:ZQ P g k:=hκ g _ hk'
    refine⟨g,a,b,rfl,hok.1,?_⟩
    have hcl:∀ vs ds,fkL vs=none→Zby P ⟨E.w,S',E.loc⟩ vs ds→Zby P ⟨E.w,S',fun _=>none⟩ vs ds:=fun vs ds hf h=>Zds (E:=⟨E.w,S',E.loc⟩) (E':=⟨E.w,S',fun _=>none⟩) (fun b hb=>⟨hb,rfl⟩) h hf
    have hf:(V.fn (.func g) fst caps).fk=none:=by
     simp only[fkL] at hk;split at hk
     ·cases hk
     ·rename_i h;exact h
    have hargs:fkL args=none:=by
     simp only[fkL,hf] at hk;exact hk
    have hfst:fkL fst=none:=by
     simp only[V.fk] at hf;split at hf
     ·cases hf
     ·rename_i h;exact h
    have hcaps:fkL caps=none:=by simp only[V.fk,hfst] at hf;exact hf
    have rs:Zby P ⟨E.w,S',fun _=>none⟩ (fst++(args++caps)) (a++cs.toArray++b).toList:=by
     have:=(hcl _ _ hfst ra).append ((hcl _ _ hargs r.tail).append (hcl _ _ hcaps rb))
     simpa using this
    refine Calls.mono (hok.2 E.w S' xs hS ho _ (ZeW hκ 3 _ _ _ _ _ hxs rs)) ?_
    rintro e w2 ⟨u,S2,rfl,hg,hu⟩
    refine⟨u,S2,rfl,hg,?_⟩
    exact Rep.mono (E:=⟨w2,S2,fun _=>none⟩) (E':=⟨w2,S2,E.loc⟩) ⟨fun b hb=>⟨hb,rfl⟩,fun l L _ h=>by cases h⟩ hu
 ·rename_i ts rs pre fn
  split at h
  ·cases h
  ·rename_i xs hxs
   cases h
   have r0:=r.head
   cases r0 with
   | pf hp =>
     obtain⟨g,a,b,rfl,hc,hcall⟩:=hp
     refine⟨g,a,b,rfl,hc,Calls.mono (hcall E.w S' (fun k hk=>⟨hk,rfl⟩) hS xs ho cs.toArray (by simpa using Zg7 hxs r.tail)) ?_⟩
     rintro e w2 ⟨u,S2,rfl,hg,hu⟩
     exact⟨u,S2,rfl,hg,Zoj hu⟩
 ·cases h
theorem Z7.os{E:Env}{os objs:Zat}(g:Z7 P E objs)(hs:Sub os objs):Z7 P E os :=
 ⟨fun l o h=>g.at_ l o (hs l o h),fun b h=>by
  obtain⟨l,o,L,h1,h2,h3,h4⟩:=h
  exact g.ns b ⟨l,o,L,hs l o h1,h2,h3,h4⟩,g.sl,g.tab,fun i j o o' L L' h1 h2 h3 h4 h5 h6 h7=>g.inj i j o o' L L' (hs i o h1) (hs j o' h2) h3 h4 h5 h6 h7⟩
theorem Ztj (hκ : Zak P κ) {r : Option Nat} {o : Oper} {a : Act} {x : Operand} {args : Array Operand} {tys : Array TypeId} (hop : o.op = .call { callee := .value x, args, argTypes := tys }) {tmps : List (Nat × V)} {ob : Option Prop} {v : V}
 {os:Zat} (h:ZjK κ os (evV tmps x) (Zb4 tmps args.toList)=.ok ob v) (ho:okP ob) (hs:Sub os objs) (g:Z7 P E objs) (hx:Rep P E (evV tmps x) (a.eval x)) (hr:∀ y∈args.toList,Rep P E (evV tmps y) (a.eval y)):Did P r o a E objs ⟨ob,v,none⟩:=by
 intro next Q hn
 have hargs:Zby P E (evV tmps x::Zb4 tmps args.toList) (a.eval x::args.toList.map a.eval):=.cons hx (ZcB hr)
 have key:∀ f' args' ks,Zut 9 os (evV tmps x::Zb4 tmps args.toList)=some (f'::args',ks)→Zt9 κ f' args'=some (ob,v)→(ks=[]∨v.plain=true)→o.wpIn (fz r) 0 P a E.w next Q:=by
  intro f' args' ks h1 h2 h3
  obtain⟨S',k1,k2,k3,k4,k5,_⟩:=ZlM h1 (g.os hs) hargs
  obtain⟨gf,p,q,e1,e2,e3⟩:=ZtU (E:=E) hκ h2 ho ⟨k2,g.tab.mono fun b hb=>⟨k1 b hb,rfl⟩⟩ k4 k5
  refine⟨fun _ _=>trivial,?_⟩
  rw[Oper.semAt_eq _ _ _ (fun c=>by rw[hop];simp),Zlf hop e2 e1,Oper.uponIn_enter]
  refine⟨fun h=>by simp[fz,Fence.wide] at h,Zia ?_⟩
  have e3':Calls P gf (p++args.map a.eval++q) E.w fun e w2=>∃ u S2,e=.returned u∧ZhY E.w S' w2 S2∧Rep P ⟨w2,S2,E.loc⟩ v u:=by
   have:(args.toList.map a.eval).toArray=args.map a.eval:=Array.ext' (by rw[Array.toList_map])
   rw[this] at e3;exact e3
  refine Calls.mono e3' ?_
  rintro e w2 ⟨u,S2,rfl,hg,hu⟩
  rcases h3 with h3 | h3
  ·have e:=k3 h3
   subst e
   have:=g.grow hg
   exact hn ⟨w2,S2,E.loc⟩ u this.1 this.2 hg.drawn hu
  ·have:=g.grow (w:=w2) (S:=E.S) ⟨hg.drawn,hg.os,hg.tape,hg.output,hg.size,hg.frame,fun _ h=>h,fun _ h=>.inl h,fun b hb=>Nat.lt_of_lt_of_le (g.sl b hb) hg.size⟩
   exact hn ⟨w2,E.S,E.loc⟩ u this.1 this.2 hg.drawn (ZsQ hu h3)
 simp only[ZjK] at h
 split at h
 ·rename_i f' args' ks h1
  split at h
  ·rename_i ob' v' h2
   split at h
   ·cases h
    exact key _ _ _ h1 h2 (.inl rfl)
   ·split at h
    ·rename_i hp
     cases h
     exact key _ _ _ h1 h2 (.inr hp)
    ·cases h
  ·cases h
 ·cases h
def Zkd(l:Nat):List Df→Bool
 | []=>false
 | .mark k::r=>match Nat.beq k l with
   | true=>true
   | false=>Zkd l r
 | .fn _ _::r=>Zkd l r
def ZuB(nx:Nat)(df:List Df):Option (Nat×Obj×Bool)→Bool
 | none=>true
 | some (l,_,false)=>Nat.ble l nx
 | some (l,_,true)=>match Nat.ble l nx with
   | true=>!Zkd l df
   | false=>false
theorem Zd3.moved{E E':Env}{l:Nat}(hx:Ext E E' [l]):∀ {df:List Df} {ds:List Deferred},Zkd l df=false→Zd3 P E df ds→Zd3 P E' (ZfN (Zhq l) df) ds
 | [],_,_,h=>h
 | .mark k::r,_,hm,⟨L,rest,h1,⟨K,hK,h2⟩,h3⟩=>by
   simp only[Zkd] at hm
   split at hm
   ·cases hm
   ·rename_i hne
    exact⟨L,rest,h1,⟨K,hx.loc k K (by simp;exact Nat.ne_of_beq_eq_false hne) hK,h2⟩,h3.moved hx hm⟩
 | .fn g cs::r,_,hm,⟨q,rest,h1,h2,h3⟩=>⟨q,rest,h1,Zke (fun v c h=>ZiF hx h) h2,h3.moved hx hm⟩
theorem ZpN{a:Act}{d t:Nat}{v:Value}(hd:d < a.tmps.size):(a.put (some d) v).tmps.getD t undef=if d=t then v else a.tmps.getD t undef:=by
 simp only[Act.put,Array.getD_eq_getD_getElem?,Array.getElem?_setIfInBounds]
 split
 ·rename_i e;subst e;simp
 ·rfl
theorem ZcR.setT{cx:Cx}{s s':St}{a:Act}{dst:Option Nat}{v:V}{c:Value}(r:ZcR P cx s a E)(h:s.setT dst v=some s')(rv:Rep P E v c):ZcR P cx s' (a.put dst c) E:=by
 unfold St.setT at h
 split at h
 ·cases h
  exact⟨r.good,r.fresh,r.step,r.drawn,r.size,r.df,r.rep⟩
 ·rename_i d
  split at h
  ·rename_i hd
   obtain⟨nt,tmps,objs,nx,df,wr,di,mv⟩:=s
   cases h
   have hd:d < nt:=Nat.le_of_ble_eq_true hd
   have hsz:a.tmps.size=nt:=r.size
   refine⟨r.good,r.fresh,r.step,r.drawn,by simp[Act.put,hsz],r.df,fun t=>?_⟩
   rw[ZpN (by omega)]
   show Rep P E (ZbE t ((d,v)::tmps)) _
   rw[Zah]
   split
   ·exact rv
   ·exact r.rep t
  ·cases h
theorem ZcR.edit {cx : Cx} {s : St} {a : Act} {E' : Env} {ed : Option (Nat × Obj × Bool)} (r : ZcR P cx s a E) (hed : ZuB s.nx s.df ed = true) (hd : E.w.drawn ≤ E'.w.drawn) (g : Z7 P E' (YtgpdnmfpgkkgcaaGreatDoor.edit s.objs ed)) (st : ZcH E s.objs E' (YtgpdnmfpgkkgcaaGreatDoor.edit s.objs ed) (YtgpdnmfpgkkgcaaGreatDoor.moved ed)) :
 ZcR P cx (s.edit ed) a E':=by
 obtain⟨nt,tmps,objs,nx,df,wr,di,mv⟩:=s
 have hnew:∀ k,nx≤k→Zv k objs=none:=fun k hk=>by
  cases h:Zv k objs with
  | none=>rfl
  | some o=>obtain⟨L,hL,_⟩:=r.good.at_ k o h;rw[r.fresh k hk] at hL;cases hL
 have hfr:∀ l,l≤nx→∀ k,Zs5 l nx≤k→nx≤k∧k≠l:=fun l hl k hk=>by
  unfold Zs5 at hk
  split at hk
  ·rename_i e;have:=Nat.eq_of_beq_eq_true e;omega
  ·rename_i e;have:=Nat.ne_of_beq_eq_false e;omega
 match ed,hed,g,st with
 | none,_,g,st =>
   refine⟨g,fun k hk=>?_,r.step.trans st,Nat.le_trans r.drawn hd,r.size,r.df.ext st.ext,fun t=>(r.rep t).mono st.ext⟩
   rw[st.dom k (hnew k hk)];exact r.fresh k hk
 | some (l,o,false),hed,g,st =>
   have hl:l≤nx:=Nat.le_of_ble_eq_true hed
   refine⟨g,fun k hk=>?_,r.step.trans st,Nat.le_trans r.drawn hd,r.size,r.df.ext st.ext,fun t=>(r.rep t).mono st.ext⟩
   obtain⟨h1,h2⟩:=hfr l hl k hk
   have:Zv k (YtgpdnmfpgkkgcaaGreatDoor.edit objs (some (l,o,false)))=none:=by
    simp only[YtgpdnmfpgkkgcaaGreatDoor.edit];rw[Zl,if_neg (Ne.symm h2)];exact hnew k h1
   rw[st.dom k this];exact r.fresh k h1
 | some (l,o,true),hed,g,st =>
   simp only[ZuB] at hed
   split at hed
   ·rename_i hl
    have hl:l≤nx:=Nat.le_of_ble_eq_true hl
    refine⟨g,fun k hk=>?_,r.step.trans st,Nat.le_trans r.drawn hd,r.size,r.df.moved st.ext (by simpa using hed),fun t=>?_⟩
    ·obtain⟨h1,h2⟩:=hfr l hl k hk
     have:Zv k (YtgpdnmfpgkkgcaaGreatDoor.edit objs (some (l,o,true)))=none:=by
      simp only[YtgpdnmfpgkkgcaaGreatDoor.edit];rw[Zl,if_neg (Ne.symm h2),ZbS,hnew k h1];rfl
     rw[st.dom k this];exact r.fresh k h1
    ·show Rep P E' (ZbE t (ZcI (Zhq l) tmps)) _
     rw[ZcD,ZcS]
     exact ZiF st.ext (r.rep t)
   ·cases hed
end
end Go.Proofs.YtgpdnmfpgkkgcaaGreatDoor
