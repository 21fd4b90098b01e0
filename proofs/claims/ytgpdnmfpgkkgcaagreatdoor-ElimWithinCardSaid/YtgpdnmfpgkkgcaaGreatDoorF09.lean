/- Part of a proof that a law of the program holds for every input: how abstract states follow the program. No conditions. -/
import Derived.Shelf.Slices.Clone
import Derived.Shelf.Slices.Delete
import Derived.Test.YtgpdnmfpgkkgcaaGreatDoorK08
namespace Go.Proofs.YtgpdnmfpgkkgcaaGreatDoor
open Go Go.Lib Go.Proofs Go.RowKit Go.Shelf Go.Sort
set_option linter.unusedVariables false
section
variable {P:Program} {ρ:Ren}
abbrev iT:Ty:=.int .i64
def Zra:ZqN:=⟨iT,false,[.d (.sl iT)],fun _ ys=>ys.1.length*8≤140737488355328,fun _ ys=>ys.1⟩
def Zf3:ZqN:=⟨iT,true,[.d iT,.d iT],fun xs ys=>xs≠[]∧0≤ys.1∧ys.1≤ys.2.1∧ys.2.1≤(xs.length:Int),fun xs ys=>xs.take ys.1.toNat++xs.drop ys.2.1.toNat⟩
theorem Zwj:Zbs P (fun _=>none):=fun _ _ h=>by cases h
theorem Zyc{n m:Nat}{r:ZqN}(h:n=m)(hc:ZbT P m)(k:ZbT P n→Zlk P n r):Zlk P m r:=by subst h;exact k hc
theorem Zjz(w:World)(S:Nat→Prop):∀ l:List Int,Z3 w S iT l (l.map (Value.int .i64))
 | []=>rfl
 | n::l=>⟨[.int .i64 n],l.map (Value.int .i64),rfl,rfl,Zjz w S l⟩
theorem ZfL{w:World}{S:Nat→Prop}:∀ {l:List Int} {cs:List Value},Z3 w S iT l cs→cs=l.map (Value.int .i64)
 | [],cs,h=>h
 | n::l,cs,⟨c1,c2,h,h1,h2⟩=>by rw[h,show c1=[Value.int .i64 n] from h1,ZfL h2];rfl
set_option maxHeartbeats 6400000 in
set_option maxRecDepth 100000 in
theorem Zqg (L : Lays2.n15 P ρ) (a : Addr) (c : Nat) (xs : List Int) {w : World} {S : Nat → Prop} (hS : Sok P w S) (hc : ZbD w S (.sl iT) xs [.slice (some a) xs.length c]) (hbig : xs.length * 8 ≤ 140737488355328) :
 Calls P (ρ.f 15) #[.slice (some a) xs.length c] w fun e w2=>∃ K,e=.returned K.v∧w.grownBy w2 none∧w.drawn≤w2.drawn∧(∀ lo,ZaM P ⟨w2,S,lo⟩ K (.row iT xs))∧((Obj.row iT xs).has K→w.heap.size≤K.b):=by
 have mixed:=L.mixed;have t3:=L.t3;have a3:=L.a3;have z3:=L.z3;have v3:=L.v3;have t4:=L.t4;have a4:=L.a4;have z4:=L.z4;have v4:=L.v4;have t22:=L.t22;have a22:=L.a22;have z22:=L.z22;have v22:=L.v22
 obtain⟨i0,hi,hz0,hz1,hz2⟩:=info_parts L.i3
 have q22:∀ (w:World) (a:Option Addr) (n c n' c':Nat),(binOp .eql (ρ.t 22) (.slice a n c) (.slice none n' c')).run P w=.ok (.bool a.isNone) w:=fun w a n c n' c'=>Lib.run_eql_slice_nil w _ _ a n c n' c' L.t22
 have u22:∀ w,Sem.run P (underlying (ρ.t 22)) w=.ok (TypeDesc.slice (ρ.t 3)) w:=run_underlying t22
 obtain⟨K0,hK0⟩:∃ K0:Loc,K0=⟨w.heap.size,some ⟨w.heap.size,0,none⟩,0,0,1⟩:=⟨_,rfl⟩
 have HB:Hid (∀ o:Go.Obj,∃ E:Env,E.w=w.alloc o∧E.S=S∧E.loc 0=some K0∧Z7 P E [(0,.row iT [])]∧∃ cs,Z3 E.w E.S iT xs cs∧ZdJ E.w iT.size xs.length cs (.slice (some a) xs.length c)):=by
  intro o
  obtain⟨g,_⟩:=Z7.push (P:=P) (E:=⟨w,S,fun _=>none⟩) (objs:=[]) (ZgI hS) (w:=w.alloc o) (l:=0) (L:=K0) (o:=.row iT []) rfl (World.grownBy_alloc w o none) (by
   rw[hK0];exact⟨rfl,by decide,rfl,0,[],rfl,.inl ⟨rfl,rfl⟩⟩) (fun h=>by rw[hK0] at h;exact absurd rfl h)
  refine⟨_,rfl,rfl,ZP _ _ _ _,g,?_⟩
  refine Zuu (E:=(⟨w,S,fun _=>none⟩:Env).setL (w.alloc o) 0 K0) (T:=iT) (hc.mono fun b hb=>⟨hb,?_⟩)
  exact (World.grownBy_alloc w o none).block b (hS.lt b hb) (by simp)
 have HK:Hid (K0=⟨w.heap.size,some ⟨w.heap.size,0,none⟩,0,0,1⟩):=hK0
 have HG:Hid (∀ (o:Go.Obj) (E:Env) (w1:World) (K:Loc),E.w=w.alloc o→E.S=S→ZeC P E K0 iT [] w1 K ([]++xs)→w.grownBy w1 none∧w.drawn≤w1.drawn∧(∀ lo,ZaM P ⟨w1,S,lo⟩ K (.row iT xs))∧((Obj.row iT xs).has K→w.heap.size≤K.b)):=by
  rintro o ⟨Ew,ES,Elo⟩ w1 K e1 e2 ⟨row,h1,h2,h3,h4,h5⟩
  simp only at e1 e2 h1 h3 h4 h5
  subst e1 e2
  have hr:row=none:=by
   cases row with
   | none=>rfl
   | some b=>obtain⟨h,_⟩:=h2 b rfl;rw[hK0] at h;exact absurd rfl h
  subst hr
  have ga:=World.grownBy_alloc w o none
  refine⟨⟨h1.os.trans ga.os,h1.tape.trans ga.tape,h1.output.trans ga.output,Nat.le_trans ga.size h1.size,fun j hj hn=>?_⟩,h5,h3,fun hh=>?_⟩
  ·have:=ga.size
   rw[h1.block j (by omega) hn,ga.block j hj hn]
  ·rcases h4 hh with ⟨h,_⟩ | h
   ·rw[hK0] at h;exact absurd rfl h
   ·exact Nat.le_trans ga.size h
 have HS:Hid (Value.slice (some ⟨w.heap.size,0,none⟩) 0 0=K0.v):=(by rw[hK0];rfl:Value.slice (some ⟨w.heap.size,0,none⟩) 0 0=K0.v)
 clear hc hS hK0
 go_enter L.f15,Body2.n15_ntmps ρ
 obtain⟨E,hE1,hE2,hE3,hE4,cs,hE5,hE6⟩:=HB.out (.cells #[] (ρ.t 3))
 have HE:Hid (E.w=w.alloc (.cells #[] (ρ.t 3))∧E.S=S∧E.loc 0=some K0∧Z7 P E [(0,.row iT [])]∧Z3 E.w E.S iT xs cs∧ZdJ E.w iT.size xs.length cs (.slice (some a) xs.length c)):=⟨hE1,hE2,hE3,hE4,hE5,hE6⟩
 clear hE1 hE2 hE3 hE4 hE5 hE6
 go_wp2_with (at_builtin;(rw[← HE.out.1]);refine ZcO (E:=E) (objs:=[(0,.row iT [])]) (l:=0) (L:=K0) (xs:=[]) (T:=iT) (Zwj (P:=P)) rfl _ _ rfl t22 (.inl ⟨_,rfl⟩) t22 hi hz0 hz1 hz2 rfl (by decide) HE.out.2.2.2.2.1 ?c1 HE.out.2.2.2.1 rfl HE.out.2.2.1 ?c2 ?c3 HS.out rfl ?c4)
 case c1=>rw[hz1];exact HE.out.2.2.2.2.2
 case c2=>simp;omega
 case c3=>simp;omega
 case c4 =>
  intro w1 K hK
  have hfin:=HG.out _ E w1 K HE.out.1 HE.out.2.1 hK
  have HF:Hid (w.grownBy w1 none∧w.drawn≤w1.drawn∧(∀ lo,ZaM P ⟨w1,S,lo⟩ K (.row iT xs))∧((Obj.row iT xs).has K→w.heap.size≤K.b)):=hfin
  clear hfin hK
  go_wp2
  go_ret
  exact⟨K,rfl,HF.out⟩
theorem Zuh{E:Env}{v:V}{cs:Array Value}(r:Zby P E [v] cs.toList):∃ c,cs=#[c]∧Rep P E v c:=by
 obtain⟨l⟩:=cs
 match l,r with
 | [c],r=>exact⟨c,rfl,r.head⟩
 | [],r=>exact absurd r.1 (by simp)
 | _::_::_,r=>exact absurd r.1 (by simp)
theorem ZtS(L:Lays2.n15 P ρ)(hc:ZbT P (ρ.f 15)):Zlk P (ρ.f 15) Zra:=by
 refine⟨hc,fun w S ys hS hpre args ra=>?_⟩
 obtain⟨c,rfl,rc⟩:=Zuh (show Zby P ⟨w,S,fun _=>none⟩ [.d (.sl iT) ys.1] args.toList from ra)
 have hcell:=ZhH (E:=⟨w,S,fun _=>none⟩) rc
 obtain⟨a,cap,h1,h2,h3⟩:=id hcell
 obtain rfl:c=.slice a (List.length (α:=Int) ys.1) cap:=by simpa using h1
 cases a with
 | some a=>exact Zqg L a cap ys.1 hS hcell hpre
 | none =>
   have hnil:ys.1=[]:=Classical.byContradiction fun hn=>by
    obtain⟨b,off,h,_⟩:=h3 hn
    cases h
   refine Calls.mono (Any.slices_Clone_int_nil L _ _ w) ?_
   rintro e w2 ⟨rfl,rfl⟩
   refine⟨⟨0,none,0,0,1⟩,rfl,⟨rfl,rfl,rfl,Nat.le_refl _,fun _ _ _=>rfl⟩,Nat.le_refl _,fun lo=>?_,fun h=>absurd rfl h⟩
   show ZaM P _ _ (.row iT ys.1)
   rw[hnil]
   exact⟨rfl,by decide,rfl,0,[],rfl,.inl ⟨rfl,rfl⟩⟩
theorem Zn7 (L : Lays2.n23 P ρ) {E : Env} {objs : Zat} {l : Nat} {Lc : Loc} {xs : List Int} (g : Z7 P E objs) (hobj : Zv l objs = some (.row iT xs)) (hL : E.loc l = some Lc) (hne : xs ≠ []) (i j : Nat) (hij : i ≤ j) (hjn : j ≤ xs.length) :
 Calls P (ρ.f 23) #[Lc.v,.int .i64 i,.int .i64 j] E.w fun e w2=>∃ K,e=.returned K.v∧ZeC P E Lc iT xs w2 K (xs.take i++xs.drop j):=by
 obtain⟨L',hL',hat⟩:=g.at_ _ _ hobj
 rw[hL] at hL';cases hL'
 obtain⟨hesz,hpos,hln,e,cs,hcs,hmem⟩:=hat
 rcases hmem with ⟨_,h'⟩ | ⟨cur,ha,hb,hle,hc0,hcm,hsz,htk⟩
 ·exact absurd h' hne
 have hcs':=ZfL hcs
 subst hcs'
 have hsz1:cur.size=Lc.cap:=by rw[hsz];show Lc.cap*1=_;omega
 have htk1:cur.toList.take xs.length=xs.map (Value.int .i64):=by
  have:=htk
  rw[show xs.length*Ty.size iT=xs.length from Nat.mul_one _] at this
  exact this
 have hH:Holds (Value.int .i64) E.w Lc.b 0 xs.toArray:=by
  intro k hk
  have hk':k < xs.length:=by simpa using hk
  have hcur:cur[k]?=some (Value.int .i64 xs[k]):=by
   have:(cur.toList.take xs.length)[k]?=(xs.map (Value.int .i64))[k]?:=by rw[htk1]
   rw[List.getElem?_take,if_pos hk',Array.getElem?_toList,List.getElem?_map,List.getElem?_eq_getElem hk'] at this
   exact this
  refine⟨?_,by simp[World.frozen?,hb]⟩
  simp only[World.cell?,hb,Nat.zero_add]
  rw[getElem!_pos _ k hk]
  simpa using hcur
 have hv:Lc.v=.slice (some ⟨Lc.b,0,none⟩) xs.length Lc.cap:=by unfold Loc.v;rw[hln,ha]
 have hown:(Obj.row iT xs).has Lc:=by show Lc.cap≠0;omega
 rw[hv]
 refine Calls.mono (Any.slices_Delete_int L Lc.b 0 Lc.cap i j xs E.w hH hle (by simpa[maxLen] using hcm) hij hjn) ?_
 rintro e' w2 ⟨rfl,q,rfl⟩
 obtain⟨zs,hzs⟩:∃ zs:List Int,zs=xs.take i++xs.drop j:=⟨_,rfl⟩
 have hzl:zs.length=xs.length - (j - i):=by rw[hzs];simp;omega
 obtain⟨F,hF⟩:∃ F:List Int,F=zs++List.replicate (j - i) 0:=⟨_,rfl⟩
 have hFl:F.length=xs.length:=by rw[hF,List.length_append,hzl,List.length_replicate];omega
 rw[← hzs,← hF]
 refine⟨{ Lc with len:=zs.length },by rw[← hzl];unfold Loc.v;rw[ha],some Lc.b,⟨rfl,rfl,rfl,?_,fun k hk hn=>?_⟩,fun b h=>(by cases h;exact⟨hown,rfl⟩),fun lo=>?_,fun h=>.inl ⟨hown,rfl⟩,?_⟩
 ·simp[putRow,mapBlock]
 ·simp only[putRow,mapBlock,Sort.ahead,Array.getElem?_modify]
  rw[if_neg (fun e=>hn (by rw[e]))]
 ·have hlz:zs.length≤xs.length:=by omega
  refine⟨hesz,hpos,rfl,e,zs.map (Value.int .i64),Zjz _ _ _,.inr ⟨Sort.putCells (Value.int .i64) 0 F.toArray cur,ha,?_,Nat.le_trans hlz hle,hc0,hcm,?_,?_⟩⟩
  ·simp only[putRow,mapBlock,Sort.ahead,Array.getElem?_modify,if_pos,hb]
   rfl
  ·simp[Sort.putCells,hsz]
  ·rw[show zs.length*Ty.size iT=zs.length from Nat.mul_one _]
   apply List.ext_getElem?
   intro k
   rw[List.getElem?_take,List.getElem?_map]
   split
   ·rename_i hk
    have hkF:k < F.length:=by omega
    have hkc:k < cur.size:=by omega
    rw[Array.getElem?_toList]
    simp only[Sort.putCells,Array.getElem?_mapIdx]
    rw[Array.getElem?_eq_getElem hkc]
    have hsF:(F.toArray).size=F.length:=by simp
    simp only[Option.map_some,Nat.zero_le,Nat.zero_add,true_and,hsF,if_pos hkF,Nat.sub_zero]
    rw[getElem!_pos F.toArray k (by simpa using hkF),List.getElem?_eq_getElem hk]
    simp[hF,List.getElem_append_left hk]
   ·rename_i hk
    rw[List.getElem?_eq_none (by omega)];rfl
 ·show E.w.drawn≤E.w.drawn+q;omega
theorem ZrU(L:Lays2.n23 P ρ)(hc:ZbT P (ρ.f 23)):Zlk P (ρ.f 23) Zf3:=by
 refine⟨hc,fun E objs l Lc xs ys g hobj hL hpre args ra=>?_⟩
 obtain⟨i,j,u⟩:=ys
 obtain⟨hne,h0,hij,hjn⟩:xs≠[]∧@LE.le Int _ 0 i∧@LE.le Int _ i j∧@LE.le Int _ j ((List.length (α:=Int) xs:Nat):Int):=hpre
 obtain⟨i',hi⟩:∃ n:Nat,i=(n:Int):=⟨Int.toNat i,(Int.toNat_of_nonneg h0).symm⟩
 obtain⟨j',hj⟩:∃ n:Nat,j=(n:Int):=⟨Int.toNat j,(Int.toNat_of_nonneg (Int.le_trans h0 hij)).symm⟩
 subst hi hj
 match args,ra with
 | [c,d],ra =>
   have e1:c=.int .i64 (i':Int):=Zgz (show Rep P ⟨E.w,E.S,fun _=>none⟩ (.d iT (i':Int)) c from ra.head)
   have e2:d=.int .i64 (j':Int):=Zgz (show Rep P ⟨E.w,E.S,fun _=>none⟩ (.d iT (j':Int)) d from ra.tail.head)
   subst e1 e2
   have h:=Zn7 L (xs:=xs) g hobj hL hne i' j' (Int.ofNat_le.1 hij) (Int.ofNat_le.1 hjn)
   have e:Zf3.fn xs ((i':Int),(j':Int),u)=List.take i' (xs:List Int)++List.drop j' (xs:List Int):=rfl
   rw[e]
   exact h
 | [],ra=>exact absurd ra.1 (by simp[Zj2,Zf3])
 | [_],ra=>exact absurd ra.1 (by simp[Zj2,Zf3])
 | _::_::_::_,ra=>exact absurd ra.1 (by simp[Zj2,Zf3])
end
end Go.Proofs.YtgpdnmfpgkkgcaaGreatDoor
