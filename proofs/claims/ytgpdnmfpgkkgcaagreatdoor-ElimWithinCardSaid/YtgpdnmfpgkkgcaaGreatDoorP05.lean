/- Part of a proof that a law of the program holds for every input: what the functions answer, in plain Lean. No conditions. -/
import Derived.Laws.AppendOwn
import Derived.Lib.Walk
import Derived.Shelf.Strconv.AppendIntPublic10
import Derived.Test.YtgpdnmfpgkkgcaaGreatDoorK04
namespace Go.Proofs.YtgpdnmfpgkkgcaaGreatDoor
open Go
set_option linter.unusedVariables false
section
variable {P:Program} {τ:Zar} {E:Env} {objs:Zat}
theorem ZeC.trans{L K K2:Loc}{T:Ty}{xs ys zs:List T.den}{w w2:World}(h:ZeC P E L T xs w K ys){lo:Nat→Option Loc}(k:ZeC P ⟨w,E.S,lo⟩ K T ys w2 K2 zs):ZeC P E L T xs w2 K2 zs:=by
 obtain⟨r1,a1,a2,a3,a4,a5⟩:=h
 obtain⟨r2,b1,b2,b3,b4,b5⟩:=k
 simp only at b1 b4 b5
 have hK:∀ b,r2=some b→b < E.w.heap.size→(Obj.row T xs).has L∧b=L.b:=fun b hb hlt=>by
  obtain⟨c1,rfl⟩:=b2 b hb
  rcases a4 c1 with h | h
  ·exact h
  ·omega
 have hsz:=a1.size
 by_cases hr:∃ b,b < E.w.heap.size∧(r1=some b∨r2=some b)
 ·obtain⟨b,hb,hrb⟩:=hr
  have hLb:(Obj.row T xs).has L∧b=L.b:=hrb.elim (a2 b) fun h=>hK b h hb
  refine⟨some b,⟨b1.os.trans a1.os,b1.tape.trans a1.tape,b1.output.trans a1.output,Nat.le_trans hsz b1.size,fun j hj hne=>?_⟩,fun c hc=>(by cases hc;exact hLb),b3,fun hh=>?_,Nat.le_trans a5 b5⟩
  ·have h1:some j≠r1:=fun e=>hne (by have:=(a2 j e.symm).2;rw[this,hLb.2])
   have h2:some j≠r2:=fun e=>hne (by have:=(hK j e.symm hj).2;rw[this,hLb.2])
   rw[b1.block j (by omega) h2,a1.block j hj h1]
  ·rcases b4 hh with ⟨c1,c2⟩ | h
   ·rw[c2];exact a4 c1
   ·exact .inr (by omega)
 ·refine⟨none,⟨b1.os.trans a1.os,b1.tape.trans a1.tape,b1.output.trans a1.output,Nat.le_trans hsz b1.size,fun j hj _=>?_⟩,fun c hc=>(by cases hc),b3,fun hh=>?_,Nat.le_trans a5 b5⟩
  ·have h1:some j≠r1:=fun e=>hr ⟨j,hj,.inl e.symm⟩
   have h2:some j≠r2:=fun e=>hr ⟨j,hj,.inr e.symm⟩
   rw[b1.block j (by omega) h2,a1.block j hj h1]
  ·rcases b4 hh with ⟨c1,c2⟩ | h
   ·rw[c2];exact a4 c1
   ·exact .inr (by omega)
theorem ZeC.after{L K:Loc}{T:Ty}{xs zs:List T.den}{w w2:World}(h:E.w.grownBy w none)(hd:E.w.drawn≤w.drawn)(k:ZeC P ⟨w,E.S,E.loc⟩ L T xs w2 K zs):ZeC P E L T xs w2 K zs:=by
 obtain⟨r2,b1,b2,b3,b4,b5⟩:=k
 simp only at b1 b4 b5
 refine⟨r2,⟨b1.os.trans h.os,b1.tape.trans h.tape,b1.output.trans h.output,Nat.le_trans h.size b1.size,fun j hj hne=>?_⟩,b2,b3,fun hh=>?_,Nat.le_trans hd b5⟩
 ·have:=h.size
  rw[b1.block j (by omega) hne,h.block j hj (by simp)]
 ·rcases b4 hh with h1 | h1
  ·exact .inl h1
  ·have:=h.size
   exact .inr (by omega)
theorem ZcO (hτ : Zbs P τ) {ops : Array Oper} {rest : List Oper} {o : Oper} {a : Act} {Q : Exit → Act → World → Prop} (hgd : o.guard = none) (s x : Operand) {ts tx e : TypeId}
 (ho:o.op=.call { callee:=.builtin .append,args:=#[s,x],argTypes:=#[ts,tx] }) {dx:TypeDesc} {info:TypeInfo} {z:Value} {bytes:Nat} {T:Ty} {ys:List T.den} {news:List Value} {d:Value} (htx:P.underlying tx=some dx)
 (hnx:(∃ ex,dx=.slice ex)∨dx=.string) (ht:P.underlying ts=some (.slice e)) (hi:P.info? e=some info) (hz:info.zero=some z) (hsT:info.size=T.size) (hb:info.bytes=bytes) (hzz:z.cells.size=T.size) (hpos:0 < T.size)
 (hn1:Z3 E.w E.S T ys news) (hn2:ZdJ E.w info.size ys.length news d) (g:Z7 P E objs) {l:Nat} {xs:List T.den} {L:Loc} (hobj:Zv l objs=some (.row T xs)) (hL:E.loc l=some L)
 (h1:(xs.length+ys.length)*bytes≤140737488355328) (h2:xs.length+ys.length≤9223372036854775807) (hs:a.eval s=L.v) (hx:a.eval x=d)
 (h:∀ w K,ZeC P E L T xs w K (xs++ys)→wpList P ops Q rest (a.put o.dst K.v) w):wpList P ops Q (o::rest) a E.w:=by
 obtain⟨L',hL',hat⟩:=g.at_ _ _ hobj
 rw[hL] at hL';cases hL'
 obtain⟨w,K,row,hw,hrow,hnew,hhas,hrun⟩:=ZdG (ty:=o.type) (k:=xs.length) hτ ht hi hz hsT hb hzz hpos hn1 (.inl ⟨_,htx,hnx,hn2⟩) g hobj hL hat (Nat.le_refl _) h1 h2 (ZiW hat)
 rw[List.take_length] at hnew hhas
 refine wpList_plain hgd fun _ hK=>?_
 unfold Oper.wp execOp
 simp only[ho,resolve,invoke,builtin,Sem.run_bind,Sem.run_pure,Result.andThen_ok,List.map_toArray,List.map_cons,List.map_nil,hs,hx,hrun]
 exact hK _ _ (h w K ⟨row,hw,hrow,hnew,hhas,ZgQ _ _ _ _ hrun⟩)
end
end Go.Proofs.YtgpdnmfpgkkgcaaGreatDoor
namespace Go.Proofs.YtgpdnmfpgkkgcaaGreatDoor
open Go Go.Lib Go.Proofs Go.RowKit Go.Shelf Go.Sort
set_option linter.unusedVariables false
section
variable {P:Program} {ρ:Ren} {E:Env} {objs:Zat}
def ZfH(l:List UInt8):List Int:=l.map fun b=>(b.toNat:Int)
theorem ZdQ(w:World)(S:Nat→Prop):∀ l:List UInt8,Z3 w S (.int .u8) (ZfH l) (Lib.byteCells l)
 | []=>rfl
 | b::l=>⟨[.int .u8 (b.toNat:Int)],Lib.byteCells l,rfl,rfl,ZdQ w S l⟩
theorem ZvV:Zbs P (fun _=>none):=fun _ _ h=>by cases h
set_option maxHeartbeats 6400000 in
set_option maxRecDepth 100000 in
theorem ZlE (L : LaysM.n288 P ρ) (u : Nat) (hu : u < 100) (g : Z7 P E objs) {l : Nat} {xs : List Int} {Lc : Loc} (hobj : Zv l objs = some (.row (.int .u8) xs)) (hL : E.loc l = some Lc) (hlim : xs.length + 20 ≤ 140737488355328) :
 Calls P (ρ.f 288) #[Lc.v,.int .u64 u,.int .i64 10] E.w fun e w'=>∃ K,e=.returned K.v∧ZeC P E Lc (.int .u8) xs w' K (xs++ZfH (Lib.decDigits u)):=by
 have mixed:=L.mixed
 have t5:=L.t5;have a5:=L.a5;have z5:=L.z5;have v5:=L.v5
 have t37:=L.t37;have u37:=run_underlying L.t37;have a37:=L.a37;have z37:=L.z37;have v37:=L.v37
 have t53:=L.t53;have a53:=L.a53;have z53:=L.z53;have v53:=L.v53
 have t3:=L.t3;have a3:=L.a3;have z3:=L.z3;have v3:=L.v3
 have t4:=L.t4;have a4:=L.a4;have z4:=L.z4;have v4:=L.v4
 have t9:=L.t9;have a9:=L.a9;have z9:=L.z9;have v9:=L.v9
 have t171:=L.t171;have a171:=L.a171;have z171:=L.z171;have v171:=L.v171
 have t0:=L.t0;have a0:=L.a0;have z0:=L.z0;have v0:=L.v0
 have t173:=L.t173;have a173:=L.a173;have z173:=L.z173;have v173:=L.v173
 have e283:∀ args w,(callFunc (ρ.f 283) args).run P w=.ok (.enter (ρ.f 283) args) w:=enters_of L.f283 (by kernel_rfl) rfl
 obtain⟨i0,hi,hz0,hz1,hz2⟩:=info_parts L.i5
 have hlen:(Lib.decDigits u).length≤20:=by
  rw[Lib.decDigits_length]
  by_cases h10:u < 10
  ·rw[Lib.nDigits_small h10];omega
  ·rw[Lib.nDigits_big h10,Lib.nDigits_small (show u / 10 < 10 by omega)];omega
 have hsz:(⟨(Lib.decDigits u).toArray⟩:ByteArray).size=(Lib.decDigits u).length:=by simp[ByteArray.size]
 have hdl:(ZfH (Lib.decDigits u)).length=(Lib.decDigits u).length:=by simp[ZfH]
 obtain⟨sv,hsv⟩:∃ sv,sv=Lc.v:=⟨_,rfl⟩
 have HG:Hid (Z7 P E objs):=g
 have HO:Hid (Zv l objs=some (.row (.int .u8) xs)):=hobj
 have HL:Hid (E.loc l=some Lc):=hL
 have HS:Hid (sv=Lc.v):=hsv
 rw[← hsv]
 clear g hobj hL hsv
 go_enter L.f288,Body.n288_ntmps ρ
 go_wp2_with (first
  | (go_at_fn (ρ.f 283);refine (Any.internal_strconv_small { L with } u hu _).mono ?_;rintro e w' ⟨rfl,rfl⟩)
  | (at_builtin;(refine ZcO (T:=.int .u8) (ZvV (P:=P)) rfl _ _ rfl L.t9 (.inr rfl) L.t37 hi hz0 hz1 hz2 rfl (by decide) (ZdQ _ _ (Lib.decDigits u)) ⟨?c1,.inr ⟨_,rfl,?c2,rfl⟩⟩ HG.out HO.out HL.out ?c3 ?c4 HS.out rfl ?c5)))
 case c1=>rw[Lib.byteCells_length,hdl,hz1,Nat.mul_one]
 case c2=>rw[hdl,hsz]
 case c3=>rw[hdl];omega
 case c4=>rw[hdl];omega
 case c5 =>
  intro w K hK
  have HK:Hid (ZeC P E Lc (.int .u8) xs w K (xs++ZfH (Lib.decDigits u))):=hK
  clear hK
  go_wp2
  go_ret
  exact⟨K,rfl,HK.out⟩
set_option maxHeartbeats 12800000 in
set_option maxRecDepth 100000 in
theorem ZnI (L : LaysM.n288 P ρ) (u : Nat) (hu : 100 ≤ u) (hu64 : u < 18446744073709551616) (g : Z7 P E objs) {l : Nat} {xs : List Int} {Lc : Loc} (hobj : Zv l objs = some (.row (.int .u8) xs)) (hL : E.loc l = some Lc) (hlim : xs.length + 20 ≤ 140737488355328)
 (htab : Lib.TabIs P E.w "internal/strconv.uint64pow10" .u64 Lib.pow10Tab) :
 Calls P (ρ.f 288) #[Lc.v,.int .u64 u,.int .i64 10] E.w fun e w'=>∃ K,e=.returned K.v∧ZeC P E Lc (.int .u8) xs w' K (xs++ZfH (Lib.decDigits u)):=by
 have mixed:=L.mixed
 have t5:=L.t5;have a5:=L.a5;have z5:=L.z5;have v5:=L.v5
 have t37:=L.t37;have u37:=run_underlying L.t37;have a37:=L.a37;have z37:=L.z37;have v37:=L.v37
 have t53:=L.t53;have a53:=L.a53;have z53:=L.z53;have v53:=L.v53
 have t3:=L.t3;have a3:=L.a3;have z3:=L.z3;have v3:=L.v3
 have t4:=L.t4;have a4:=L.a4;have z4:=L.z4;have v4:=L.v4
 have t9:=L.t9;have a9:=L.a9;have z9:=L.z9;have v9:=L.v9
 have t171:=L.t171;have a171:=L.a171;have z171:=L.z171;have v171:=L.v171
 have t0:=L.t0;have a0:=L.a0;have z0:=L.z0;have v0:=L.v0
 have t173:=L.t173;have a173:=L.a173;have z173:=L.z173;have v173:=L.v173
 have e284:∀ args w,(callFunc (ρ.f 284) args).run P w=.ok (.enter (ρ.f 284) args) w:=enters_of L.f284 (by kernel_rfl) rfl
 have e285:∀ args w,(callFunc (ρ.f 285) args).run P w=.ok (.enter (ρ.f 285) args) w:=enters_of L.f285 (by kernel_rfl) rfl
 obtain⟨i0,hi,hz0,hz1,hz2⟩:=info_parts L.i5
 have hu1:1≤u:=by omega
 have hnd20:Lib.nDigits u≤20:=by have:=Lib.numDigits_eq u hu1 hu64;split at this<;>omega
 have hal:P.arrayLen (ρ.t 171)=24:=by simp[Program.arrayLen,L.t171]
 have hsl:∀ W,(Instr.sliceAt (ρ.t 171) (.pointer (some ⟨E.w.heap.size,0,none⟩)) none (some (.int .i64 (Lib.nDigits u:Int))) none).run P W=.ok (.slice (some ⟨E.w.heap.size,0,none⟩) (Lib.nDigits u) 24) W:=fun W=>by
  rw[run_sliceAt_array_h W (ρ.t 171) ⟨E.w.heap.size,0,none⟩ (by simp[Program.arrayLen,Program.elem,L.t171]) .i64 (Lib.nDigits u:Int) (by omega) (by rw[hal];omega)]
  go_simp
 have hdl:(ZfH (Lib.decDigits u)).length=Lib.nDigits u:=by simp[ZfH,Lib.decDigits_length]
 obtain⟨sv,hsv⟩:∃ sv,sv=Lc.v:=⟨_,rfl⟩
 have HG:Hid (Z7 P E objs):=g
 have HO:Hid (Zv l objs=some (.row (.int .u8) xs)):=hobj
 have HL:Hid (E.loc l=some Lc):=hL
 have HS:Hid (sv=Lc.v):=hsv
 have HE:Hid (∀ w:World,E.w.grownBy w none→E.w.drawn≤w.drawn→Z7 P ⟨w,E.S,E.loc⟩ objs):=fun w hw hd=>(g.grow (w:=w) (S:=E.S) ⟨hd,hw.os,hw.tape,hw.output,hw.size,fun b hb=>hw.block b hb (by simp),fun _ h=>h,fun _ h=>.inl h,fun b hb=>Nat.lt_of_lt_of_le (g.sl b hb) hw.size⟩).1
 have HA:Hid (∀ (w w2:World) (K:Loc),E.w.grownBy w none→E.w.drawn≤w.drawn→ZeC P ⟨w,E.S,E.loc⟩ Lc (.int .u8) xs w2 K (xs++ZfH (Lib.decDigits u))→ZeC P E Lc (.int .u8) xs w2 K (xs++ZfH (Lib.decDigits u))):=fun w w2 K h hd k=>ZeC.after h hd k
 have HC:Hid (∀ (w:World),Z3 w E.S (.int .u8) (ZfH (Lib.decDigits u)) (Lib.byteCells (Lib.decDigits u))):=fun w=>ZdQ w E.S _
 rw[← hsv]
 clear g hobj hL hsv
 obtain⟨w,hw⟩:∃ w,w=E.w:=⟨_,rfl⟩
 have HW:Hid (w=E.w):=hw
 rw[← hw] at hsl htab ⊢
 clear hw
 have hH0:=Lib.holds_zero0 w (ρ.t 171) (Lib.nDigits u) (by omega)
 have hfmt:=Any.internal_strconv_formatBase10 { L with } w.heap.size 0 24 u (Array.replicate (Lib.nDigits u) 0) (w.alloc (.cells Lib.zeros24 (ρ.t 171))) hH0 (by rw[Array.size_replicate];exact Lib.lt_pow_nDigits u) hu64 (by rw[Array.size_replicate];omega)
 rw[Array.size_replicate] at hfmt
 have HH0:=Lib.hid hH0
 have iu:(100:Int)≤(u:Int):=by omega
 clear hH0 hal
 go_enter L.f288,Body.n288_ntmps ρ
 go_wp2_with (first
  | (go_at_fn (ρ.f 284);refine (Any.internal_strconv_numDigits { L with } u hu1 hu64 _ (Lib.tabIs_alloc htab _)).mono ?_;rintro e w' ⟨rfl,rfl⟩))
 go_at_fn (ρ.f 285)
 refine hfmt.mono ?_
 rintro e w' ⟨rfl,k,v',dk,rfl,hF⟩
 have hcells:∀ j u',(Lib.byteCells (Lib.decDigits u))[j]?=some u'→((putRow (fun (b:UInt8)=>Value.int .u8 (b.toNat:Int)) (w.alloc (.cells Lib.zeros24 (ρ.t 171))) w.heap.size 0 dk).drewN k).cell? ((⟨w.heap.size,0,none⟩:Addr).add j)=some u':=by
  intro j u' hj
  have hjl:j < (Lib.decDigits u).length:=by
   have h5:=(List.getElem?_eq_some_iff.1 hj).1
   rwa [Lib.byteCells_length] at h5
  have e5:(Lib.byteCells (Lib.decDigits u))[j]?=some (Value.int .u8 ((Lib.decDigits u)[j].toNat:Int)):=by simp[Lib.byteCells,hjl]
  rw[e5] at hj
  cases hj
  rw[Lib.row_is_numeral hF j hjl,Lib.add_plain,World.cell?_drewN]
  exact cell?_putRow (fun (b:UInt8)=>Value.int .u8 (b.toNat:Int)) _ w.heap.size 0 _ dk HH0.out (by rw[hF.size,Array.size_replicate]) j (by rw[hF.size];rw[Lib.decDigits_length] at hjl;exact hjl)
 obtain⟨os,eo⟩:=Lib.fin_at w (.cells Lib.zeros24 (ρ.t 171)) dk k 0
 have hbel:Below w.heap.size w ((putRow (fun (b:UInt8)=>Value.int .u8 (b.toNat:Int)) (w.alloc (.cells Lib.zeros24 (ρ.t 171))) w.heap.size 0 dk).drewN k):=by rw[eo];exact Lib.below_grow w.heap.size w (Nat.le_refl _) k os
 have hdr:w.drawn≤((putRow (fun (b:UInt8)=>Value.int .u8 (b.toNat:Int)) (w.alloc (.cells Lib.zeros24 (ρ.t 171))) w.heap.size 0 dk).drewN k).drawn:=by rw[eo];exact Nat.le_add_right _ _
 generalize (putRow (fun (b:UInt8)=>Value.int .u8 (b.toNat:Int)) (w.alloc (.cells Lib.zeros24 (ρ.t 171))) w.heap.size 0 dk).drewN k=W2 at hcells hbel hdr ⊢
 have hgr:E.w.grownBy W2 none:=by rw[← HW.out];exact⟨hbel.os,hbel.tape,hbel.output,hbel.size,fun k hk _=>hbel.block k hk⟩
 have HG2:Hid (Z7 P ⟨W2,E.S,E.loc⟩ objs):=HE.out W2 hgr (by rw[← HW.out];exact hdr)
 have HGR:Hid (E.w.grownBy W2 none):=hgr
 have HDR:Hid (E.w.drawn≤W2.drawn):=by rw[← HW.out];exact hdr
 clear eo HH0 hfmt hbel hdr hgr
 go_wp2_with (at_builtin;refine ZcO (E:=⟨W2,E.S,E.loc⟩) (T:=.int .u8) (ZvV (P:=P)) rfl _ _ rfl L.t37 (.inl ⟨_,rfl⟩) L.t37 hi hz0 hz1 hz2 rfl (by decide) (HC.out W2) ⟨?c1,.inl ⟨some ⟨w.heap.size,0,none⟩,24,?c2,fun _=>⟨_,rfl,hcells⟩⟩⟩ HG2.out HO.out HL.out ?c3 ?c4 HS.out rfl ?c5)
 case c1=>rw[Lib.byteCells_length,hdl,hz1,Nat.mul_one,Lib.decDigits_length]
 case c2=>rw[hdl];rfl
 case c3=>rw[hdl];omega
 case c4=>rw[hdl];omega
 case c5 =>
  intro w3 K hK
  have HK:Hid (ZeC P E Lc (.int .u8) xs w3 K (xs++ZfH (Lib.decDigits u))):=HA.out W2 w3 K HGR.out HDR.out hK
  clear hK
  go_wp2
  go_ret
  exact⟨K,rfl,HK.out⟩
theorem ZtL {w : World} {S : Nat → Prop} (h : Zv0 P w S) : Lib.TabIs P w "internal/strconv.uint64pow10" .u64 Lib.pow10Tab := by
 obtain⟨b,_,h⟩:=h
 exact h w rfl
theorem ZsP (L : LaysM.n288 P ρ) (u : Nat) (hu64 : u < 18446744073709551616) (g : Z7 P E objs) {l : Nat} {xs : List Int} {Lc : Loc} (hobj : Zv l objs = some (.row (.int .u8) xs)) (hL : E.loc l = some Lc) (hlim : xs.length + 20 ≤ 140737488355328) :
 Calls P (ρ.f 288) #[Lc.v,.int .u64 u,.int .i64 10] E.w fun e w'=>∃ K,e=.returned K.v∧ZeC P E Lc (.int .u8) xs w' K (xs++ZfH (Lib.decDigits u)):=by
 by_cases h:u < 100
 ·exact ZlE { L with } u h g hobj hL hlim
 ·exact ZnI { L with } u (by omega) hu64 g hobj hL hlim (ZtL g.tab)
theorem Zuf (L : LaysM.n288 P ρ) (u : Nat) (hu64 : u < 18446744073709551616) (g : Z7 P E objs) {l : Nat} {xs ys : List Int} {Lc K : Loc} {w : World} (hobj : Zv l objs = some (.row (.int .u8) xs)) (hL : E.loc l = some Lc) (h : ZeC P E Lc (.int .u8) xs w K ys) (hlim : ys.length + 20 ≤ 140737488355328) :
 Calls P (ρ.f 288) #[K.v,.int .u64 u,.int .i64 10] w fun e w'=>∃ K,e=.returned K.v∧ZeC P E Lc (.int .u8) xs w' K (ys++ZfH (Lib.decDigits u)):=by
 obtain⟨g1,st⟩:=h.put g hobj hL
 have ho1:Zv l (edit objs (some (l,.row (.int .u8) ys,true)))=some (.row (.int .u8) ys):=by simp[edit,Zv]
 exact Calls.mono (ZsP L u hu64 g1 ho1 (ZP _ _ _ _) hlim) fun e w' ⟨K2,h1,h2⟩=>⟨K2,h1,h.trans h2⟩
set_option maxHeartbeats 6400000 in
set_option maxRecDepth 100000 in
theorem Zt2 (L : LaysM.n249 P ρ) (i : Int) (h0 : -9223372036854775808 ≤ i) (h1 : i ≤ 9223372036854775807) (g : Z7 P E objs) {l : Nat} {xs : List Int} {Lc : Loc} (hobj : Zv l objs = some (.row (.int .u8) xs)) (hL : E.loc l = some Lc) (hlim : xs.length + 21 ≤ 140737488355328) :
 Calls P (ρ.f 249) #[Lc.v,.int .i64 i,.int .i64 10] E.w fun e w'=>∃ K,e=.returned K.v∧ZeC P E Lc (.int .u8) xs w' K (xs++ZfH (Lib.itoa i)):=by
 have mixed:=L.mixed
 have t5:=L.t5;have a5:=L.a5;have z5:=L.z5;have v5:=L.v5
 have t37:=L.t37;have u37:=run_underlying L.t37;have a37:=L.a37;have z37:=L.z37;have v37:=L.v37
 have t2:=L.t2;have a2:=L.a2;have z2:=L.z2;have v2:=L.v2
 have t3:=L.t3;have a3:=L.a3;have z3:=L.z3;have v3:=L.v3
 have t53:=L.t53;have a53:=L.a53;have z53:=L.z53;have v53:=L.v53
 have t4:=L.t4;have a4:=L.a4;have z4:=L.z4;have v4:=L.v4
 have e288:∀ args w,(callFunc (ρ.f 288) args).run P w=.ok (.enter (ρ.f 288) args) w:=enters_of L.f288 (by kernel_rfl) rfl
 obtain⟨i0,hi,hz0,hz1,hz2⟩:=info_parts L.i5
 obtain⟨sv,hsv⟩:∃ sv,sv=Lc.v:=⟨_,rfl⟩
 by_cases hneg:i < 0
 ·obtain⟨u,rfl⟩:∃ u:Nat,i=-(u:Int):=⟨i.natAbs,by omega⟩
  have hu1:1≤u:=by omega
  have hu64:u < 18446744073709551616:=by omega
  have hwr:IntKind.u64.wrap (-IntKind.u64.wrap (-(u:Int)))=(u:Int):=by rw[IntKind.wrap_u64,IntKind.wrap_u64];omega
  rw[Lib.itoa_neg u hu1]
  have HU:Hid (∀ (w:World) (K:Loc) (ys:List Int),ZeC P E Lc (.int .u8) xs w K ys→ys.length+20≤140737488355328→Calls P (ρ.f 288) #[K.v,.int .u64 u,.int .i64 10] w fun e w'=>∃ K,e=.returned K.v∧ZeC P E Lc (.int .u8) xs w' K (ys++ZfH (Lib.decDigits u))) :=
   fun w K ys h hl=>Zuf { L with } u hu64 g hobj hL h hl
  have HE:Hid (∀ w:World,E.w.grownBy w none→E.w.drawn≤w.drawn→Z7 P ⟨w,E.S,E.loc⟩ objs):=fun w hw hd=>(g.grow (w:=w) (S:=E.S) ⟨hd,hw.os,hw.tape,hw.output,hw.size,fun b hb=>hw.block b hb (by simp),fun _ h=>h,fun _ h=>.inl h,fun b hb=>Nat.lt_of_lt_of_le (g.sl b hb) hw.size⟩).1
  have HA:Hid (∀ (w w2:World) (K:Loc),E.w.grownBy w none→E.w.drawn≤w.drawn→ZeC P ⟨w,E.S,E.loc⟩ Lc (.int .u8) xs w2 K (xs++ZfH [45])→ZeC P E Lc (.int .u8) xs w2 K (xs++ZfH [45])):=fun w w2 K h hd k=>ZeC.after h hd k
  have HC:Hid (∀ (w:World),Z3 w E.S (.int .u8) (ZfH [45]) [Value.int .u8 45]):=fun w=>ZdQ w E.S [45]
  have HO:Hid (Zv l objs=some (.row (.int .u8) xs)):=hobj
  have HL:Hid (E.loc l=some Lc):=hL
  have HS:Hid (sv=Lc.v):=hsv
  have HD:Hid (ZfH (45::Lib.decDigits u)=ZfH [45]++ZfH (Lib.decDigits u)):=(rfl:ZfH (45::Lib.decDigits u)=ZfH [45]++ZfH (Lib.decDigits u))
  rw[← hsv]
  clear g hobj hL hsv
  obtain⟨w,hw⟩:∃ w,w=E.w:=⟨_,rfl⟩
  have HW:Hid (w=E.w):=hw
  rw[← hw]
  clear hw
  go_enter L.f249,Body.n249_ntmps ρ
  have hgr:∀ o,E.w.grownBy (w.alloc o) none:=fun o=>by rw[← HW.out];exact World.grownBy_alloc w o none
  have HG2:Hid (∀ o,Z7 P ⟨w.alloc o,E.S,E.loc⟩ objs):=fun o=>HE.out _ (hgr o) (by rw[← HW.out];exact Nat.le_refl _)
  have HGR:Hid (∀ o,E.w.grownBy (w.alloc o) none):=hgr
  clear hgr
  go_wp2_with (at_builtin;refine ZcO (E:=⟨w.alloc _,E.S,E.loc⟩) (T:=.int .u8) (ZvV (P:=P)) rfl _ _ rfl L.t37 (.inl ⟨_,rfl⟩) L.t37 hi hz0 hz1 hz2 rfl (by decide) (HC.out _) ⟨by rw[hz1];rfl,.inl ⟨some ⟨w.heap.size,0,none⟩,1,rfl,fun _=>⟨_,rfl,by intro j u' hj;match j,hj with | 0,hj=>simp at hj;subst hj;simp[Addr.add]⟩⟩⟩ (HG2.out _) HO.out HL.out (by show (xs.length+1)*1≤_;omega) (by show xs.length+1≤_;omega) HS.out rfl ?c5)
  case c5 =>
   intro w1 K1 hK1
   have HK1:Hid (ZeC P E Lc (.int .u8) xs w1 K1 (xs++ZfH [45])):=HA.out _ w1 K1 (HGR.out _) (by rw[← HW.out];exact Nat.le_refl _) hK1
   clear hK1
   go_wp2_with (go_at_fn (ρ.f 288);refine (HU.out w1 K1 _ HK1.out (by rw[List.length_append];show xs.length+1+20≤_;omega)).mono ?_;rintro e w2 ⟨K2,rfl,hK2⟩)
   have HK2:Hid (ZeC P E Lc (.int .u8) xs w2 K2 (xs++ZfH [45]++ZfH (Lib.decDigits u))):=hK2
   clear hK2
   go_wp2
   go_ret
   refine⟨K2,rfl,?_⟩
   rw[HD.out,← List.append_assoc]
   exact HK2.out
 ·obtain⟨u,rfl⟩:∃ u:Nat,i=u:=⟨i.toNat,by omega⟩
  have hu64:u < 18446744073709551616:=by omega
  rw[Lib.itoa_nonneg]
  have HU:Hid (Calls P (ρ.f 288) #[sv,.int .u64 u,.int .i64 10] E.w fun e w'=>∃ K,e=.returned K.v∧ZeC P E Lc (.int .u8) xs w' K (xs++ZfH (Lib.decDigits u))):=by
   rw[hsv];exact ZsP { L with } u hu64 g hobj hL (by omega)
  rw[← hsv]
  clear g hobj hL hsv
  go_enter L.f249,Body.n249_ntmps ρ
  go_wp2_with (go_at_fn (ρ.f 288);refine HU.out.mono ?_;rintro e w2 ⟨K2,rfl,hK2⟩)
  have HK2:Hid (ZeC P E Lc (.int .u8) xs w2 K2 (xs++ZfH (Lib.decDigits u))):=hK2
  clear hK2
  go_wp2
  first | go_ret | go_ret2
  exact⟨K2,rfl,HK2.out⟩
set_option maxRecDepth 100000 in
theorem Zti (L : LaysM.n176 P ρ) (i : Int) (h0 : -9223372036854775808 ≤ i) (h1 : i ≤ 9223372036854775807) (g : Z7 P E objs) {l : Nat} {xs : List Int} {Lc : Loc} (hobj : Zv l objs = some (.row (.int .u8) xs)) (hL : E.loc l = some Lc) (hlim : xs.length + 21 ≤ 140737488355328) :
 Calls P (ρ.f 176) #[Lc.v,.int .i64 i,.int .i64 10] E.w fun e w'=>∃ K,e=.returned K.v∧ZeC P E Lc (.int .u8) xs w' K (xs++ZfH (Lib.itoa i)):=by
 have mixed:=L.mixed
 have t5:=L.t5;have a5:=L.a5;have z5:=L.z5;have v5:=L.v5
 have t37:=L.t37;have u37:=run_underlying L.t37;have a37:=L.a37;have z37:=L.z37;have v37:=L.v37
 have t2:=L.t2;have a2:=L.a2;have z2:=L.z2;have v2:=L.v2
 have t3:=L.t3;have a3:=L.a3;have z3:=L.z3;have v3:=L.v3
 have e249:∀ args w,(callFunc (ρ.f 249) args).run P w=.ok (.enter (ρ.f 249) args) w:=enters_of L.f249 (by kernel_rfl) rfl
 obtain⟨sv,hsv⟩:∃ sv,sv=Lc.v:=⟨_,rfl⟩
 have HU:Hid (Calls P (ρ.f 249) #[sv,.int .i64 i,.int .i64 10] E.w fun e w'=>∃ K,e=.returned K.v∧ZeC P E Lc (.int .u8) xs w' K (xs++ZfH (Lib.itoa i))):=by
  rw[hsv];exact Zt2 { L with } i h0 h1 g hobj hL hlim
 rw[← hsv]
 clear g hobj hL hsv
 go_enter L.f176,Body.n176_ntmps ρ
 go_wp2_with (go_at_fn (ρ.f 249);refine HU.out.mono ?_;rintro e w2 ⟨K2,rfl,hK2⟩)
 have HK2:Hid (ZeC P E Lc (.int .u8) xs w2 K2 (xs++ZfH (Lib.itoa i))):=hK2
 clear hK2
 go_wp2
 go_ret
 exact⟨K2,rfl,HK2.out⟩
theorem ZsU(L:LaysM.n176 P ρ)(hc:ZbT P (ρ.f 176)):Sp.Ok P (ρ.f 176) .appInt:=by
 refine⟨hc,fun bs i hob E objs l Lc g hobj hL=>?_⟩
 obtain⟨hf,hl⟩:=hob
 refine Calls.mono (Zti L i hf.1 hf.2 g hobj hL hl) ?_
 rintro e w2 ⟨K,rfl,hK⟩
 have hdr:E.w.drawn≤w2.drawn:=by obtain⟨_,_,_,_,_,h⟩:=hK;exact h
 have hp:=hK.put g hobj hL
 exact⟨K.v,E.setL w2 l K,bs++ZbU i,rfl,rfl,rfl,hp.1,hp.2,hdr,.osl (ZP _ _ _ _)⟩
end
end Go.Proofs.YtgpdnmfpgkkgcaaGreatDoor
