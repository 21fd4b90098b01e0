/- Part of a proof that a law of the program holds for every input: how abstract states follow the program. No conditions. -/
import Derived.Shelf.Slices.Clone
import Derived.Shelf.Slices.Delete
import Derived.Shelf.Spec.SlicesInsert
import Derived.Shelf.Spec.SlicesInsertGrow
import Derived.Test.YtldikbpclaeajaaGreatDoorK08
namespace Go.Proofs.YtldikbpclaeajaaGreatDoor
open Go Go.Lib Go.Proofs Go.RowKit Go.Shelf Go.Sort
set_option linter.unusedVariables false
variable {P : Program} {ρ : Ren}
abbrev iT : Ty := .int .i64
def cloneC : RowC := ⟨iT,false,[.d (.sl iT)],fun _ ys => ys.1.length * 8 ≤ 140737488355328,fun _ ys => ys.1⟩
def deleteC : RowC := ⟨iT,true,[.d iT,.d iT],fun xs ys => xs ≠ [] ∧ 0 ≤ ys.1 ∧ ys.1 ≤ ys.2.1 ∧ ys.2.1 ≤ (xs.length : Int),fun xs ys => xs.take ys.1.toNat ++ xs.drop ys.2.1.toNat⟩
theorem noTab1 : TabOk P (fun _ => none) := fun _ _ h => by cases h
theorem rowE {n m : Nat} {r : RowC} (h : n = m) (hc : CallOk P m) (k : CallOk P n → RowOk P n r) : RowOk P m r := by subst h;exact k hc
theorem cellsL_ints (w : World) (S : Nat → Prop) : ∀ l : List Int,CellsL w S iT l (l.map (Value.int .i64))
  | [] => rfl
  | n :: l => ⟨[.int .i64 n],l.map (Value.int .i64),rfl,rfl,cellsL_ints w S l⟩
theorem cellsL_ints_eq {w : World} {S : Nat → Prop} : ∀ {l : List Int} {cs : List Value},CellsL w S iT l cs → cs = l.map (Value.int .i64)
  | [],cs,h => h
  | n :: l,cs,⟨c1,c2,h,h1,h2⟩ => by rw [h,show c1 = [Value.int .i64 n] from h1,cellsL_ints_eq h2];rfl
set_option maxHeartbeats 6400000 in
set_option maxRecDepth 100000 in
theorem clone_some (L : Lays2.n15 P ρ) (a : Addr) (c : Nat) (xs : List Int) {w : World} {S : Nat → Prop} (hS : Sok P w S) (hc : Cells w S (.sl iT) xs [.slice (some a) xs.length c]) (hbig : xs.length * 8 ≤ 140737488355328) :
    Calls P (ρ.f 15) #[.slice (some a) xs.length c] w fun e w2 => ∃ K,e = .returned K.v ∧ w.grownBy w2 none ∧ w.drawn ≤ w2.drawn ∧ (∀ lo,ObjAt P ⟨w2,S,lo⟩ K (.row iT xs)) ∧ ((Obj.row iT xs).has K → w.heap.size ≤ K.b) := by
  have mixed := L.mixed;have t3 := L.t3;have a3 := L.a3;have z3 := L.z3;have v3 := L.v3;have t4 := L.t4;have a4 := L.a4;have z4 := L.z4;have v4 := L.v4;have t22 := L.t22;have a22 := L.a22;have z22 := L.z22;have v22 := L.v22
  obtain ⟨i0,hi,hz0,hz1,hz2⟩ := info_parts L.i3
  have q22 : ∀ (w : World) (a : Option Addr) (n c n' c' : Nat),(binOp .eql (ρ.t 22) (.slice a n c) (.slice none n' c')).run P w = .ok (.bool a.isNone) w := fun w a n c n' c' => Lib.run_eql_slice_nil w _ _ a n c n' c' L.t22
  have u22 : ∀ w,Sem.run P (underlying (ρ.t 22)) w = .ok (TypeDesc.slice (ρ.t 3)) w := run_underlying t22
  obtain ⟨K0,hK0⟩ : ∃ K0 : Loc,K0 = ⟨w.heap.size,some ⟨w.heap.size,0,none⟩,0,0,1⟩ := ⟨_,rfl⟩
  have HB : Hid (∀ o : Go.Obj,∃ E : Env,E.w = w.alloc o ∧ E.S = S ∧ E.loc 0 = some K0 ∧ Good P E [(0,.row iT [])] ∧ ∃ cs,CellsL E.w E.S iT xs cs ∧ SrcAt E.w iT.size xs.length cs (.slice (some a) xs.length c)) := by
    intro o
    obtain ⟨g,_⟩ := Good.push (P := P) (E := ⟨w,S,fun _ => none⟩) (objs := []) (good_nil hS) (w := w.alloc o) (l := 0) (L := K0) (o := .row iT []) rfl (World.grownBy_alloc w o none) (by
      rw [hK0];exact ⟨rfl,by decide,rfl,0,[],rfl,.inl ⟨rfl,rfl⟩⟩) (fun h => by rw [hK0] at h;exact absurd rfl h)
    refine ⟨_,rfl,rfl,setL_same _ _ _ _,g,?_⟩
    refine sl_src (E := (⟨w,S,fun _ => none⟩ : Env).setL (w.alloc o) 0 K0) (T := iT) (hc.mono fun b hb => ⟨hb,?_⟩)
    exact (World.grownBy_alloc w o none).block b (hS.lt b hb) (by simp)
  have HK : Hid (K0 = ⟨w.heap.size,some ⟨w.heap.size,0,none⟩,0,0,1⟩) := hK0
  have HG : Hid (∀ (o : Go.Obj) (E : Env) (w1 : World) (K : Loc),E.w = w.alloc o → E.S = S → AppR P E K0 iT [] w1 K ([] ++ xs) → w.grownBy w1 none ∧ w.drawn ≤ w1.drawn ∧ (∀ lo,ObjAt P ⟨w1,S,lo⟩ K (.row iT xs)) ∧ ((Obj.row iT xs).has K → w.heap.size ≤ K.b)) := by
    rintro o ⟨Ew,ES,Elo⟩ w1 K e1 e2 ⟨row,h1,h2,h3,h4,h5⟩
    simp only at e1 e2 h1 h3 h4 h5
    subst e1 e2
    have hr : row = none := by
      cases row with
      | none => rfl
      | some b => obtain ⟨h,_⟩ := h2 b rfl;rw [hK0] at h;exact absurd rfl h
    subst hr
    have ga := World.grownBy_alloc w o none
    refine ⟨⟨h1.os.trans ga.os,h1.tape.trans ga.tape,h1.output.trans ga.output,Nat.le_trans ga.size h1.size,fun j hj hn => ?_⟩,h5,h3,fun hh => ?_⟩
    · have := ga.size
      rw [h1.block j (by omega) hn,ga.block j hj hn]
    · rcases h4 hh with ⟨h,_⟩ | h
      · rw [hK0] at h;exact absurd rfl h
      · exact Nat.le_trans ga.size h
  have HS : Hid (Value.slice (some ⟨w.heap.size,0,none⟩) 0 0 = K0.v) := (by rw [hK0];rfl : Value.slice (some ⟨w.heap.size,0,none⟩) 0 0 = K0.v)
  clear hc hS hK0
  go_enter L.f15,Body2.n15_ntmps ρ
  obtain ⟨E,hE1,hE2,hE3,hE4,cs,hE5,hE6⟩ := HB.out (.cells #[] (ρ.t 3))
  have HE : Hid (E.w = w.alloc (.cells #[] (ρ.t 3)) ∧ E.S = S ∧ E.loc 0 = some K0 ∧ Good P E [(0,.row iT [])] ∧ CellsL E.w E.S iT xs cs ∧ SrcAt E.w iT.size xs.length cs (.slice (some a) xs.length c)) := ⟨hE1,hE2,hE3,hE4,hE5,hE6⟩
  clear hE1 hE2 hE3 hE4 hE5 hE6
  go_wp2_with (at_builtin;(rw [← HE.out.1]);refine wpList_append_G (E := E) (objs := [(0,.row iT [])]) (l := 0) (L := K0) (xs := []) (T := iT) (noTab1 (P := P)) rfl _ _ rfl t22 (.inl ⟨_,rfl⟩) t22 hi hz0 hz1 hz2 rfl (by decide) HE.out.2.2.2.2.1 ?c1 HE.out.2.2.2.1 rfl HE.out.2.2.1 ?c2 ?c3 HS.out rfl ?c4)
  case c1 => rw [hz1];exact HE.out.2.2.2.2.2
  case c2 => simp;omega
  case c3 => simp;omega
  case c4 =>
    intro w1 K hK
    have hfin := HG.out _ E w1 K HE.out.1 HE.out.2.1 hK
    have HF : Hid (w.grownBy w1 none ∧ w.drawn ≤ w1.drawn ∧ (∀ lo,ObjAt P ⟨w1,S,lo⟩ K (.row iT xs)) ∧ ((Obj.row iT xs).has K → w.heap.size ≤ K.b)) := hfin
    clear hfin hK
    go_wp2
    go_ret
    exact ⟨K,rfl,HF.out⟩
theorem reps_one {E : Env} {v : V} {cs : Array Value} (r : Reps P E [v] cs.toList) : ∃ c,cs = #[c] ∧ Rep P E v c := by
  obtain ⟨l⟩ := cs
  match l,r with
  | [c],r => exact ⟨c,rfl,r.head⟩
  | [],r => exact absurd r.1 (by simp)
  | _ :: _ :: _,r => exact absurd r.1 (by simp)
theorem clone_ok (L : Lays2.n15 P ρ) (hc : CallOk P (ρ.f 15)) : RowOk P (ρ.f 15) cloneC := by
  refine ⟨hc,fun w S ys hS hpre args ra => ?_⟩
  obtain ⟨c,rfl,rc⟩ := reps_one (show Reps P ⟨w,S,fun _ => none⟩ [.d (.sl iT) ys.1] args.toList from ra)
  have hcell := sl_inv (E := ⟨w,S,fun _ => none⟩) rc
  obtain ⟨a,cap,h1,h2,h3⟩ := id hcell
  obtain rfl : c = .slice a (List.length (α := Int) ys.1) cap := by simpa using h1
  cases a with
  | some a => exact clone_some L a cap ys.1 hS hcell hpre
  | none =>
    have hnil : ys.1 = [] := Classical.byContradiction fun hn => by
      obtain ⟨b,off,h,_⟩ := h3 hn
      cases h
    refine Calls.mono (Any.slices_Clone_int_nil L _ _ w) ?_
    rintro e w2 ⟨rfl,rfl⟩
    refine ⟨⟨0,none,0,0,1⟩,rfl,⟨rfl,rfl,rfl,Nat.le_refl _,fun _ _ _ => rfl⟩,Nat.le_refl _,fun lo => ?_,fun h => absurd rfl h⟩
    show ObjAt P _ _ (.row iT ys.1)
    rw [hnil]
    exact ⟨rfl,by decide,rfl,0,[],rfl,.inl ⟨rfl,rfl⟩⟩
theorem delete_core (L : Lays2.n23 P ρ) {E : Env} {objs : Objs} {l : Nat} {Lc : Loc} {xs : List Int} (g : Good P E objs) (hobj : getO l objs = some (.row iT xs)) (hL : E.loc l = some Lc) (hne : xs ≠ []) (i j : Nat) (hij : i ≤ j) (hjn : j ≤ xs.length) :
    Calls P (ρ.f 23) #[Lc.v,.int .i64 i,.int .i64 j] E.w fun e w2 => ∃ K,e = .returned K.v ∧ AppR P E Lc iT xs w2 K (xs.take i ++ xs.drop j) := by
  obtain ⟨L',hL',hat⟩ := g.at_ _ _ hobj
  rw [hL] at hL';cases hL'
  obtain ⟨hesz,hpos,hln,e,cs,hcs,hmem⟩ := hat
  rcases hmem with ⟨_,h'⟩ | ⟨cur,ha,hb,hle,hc0,hcm,hsz,htk⟩
  · exact absurd h' hne
  have hcs' := cellsL_ints_eq hcs
  subst hcs'
  have hsz1 : cur.size = Lc.cap := by rw [hsz];show Lc.cap * 1 = _;omega
  have htk1 : cur.toList.take xs.length = xs.map (Value.int .i64) := by
    have := htk
    rw [show xs.length * Ty.size iT = xs.length from Nat.mul_one _] at this
    exact this
  have hH : Holds (Value.int .i64) E.w Lc.b 0 xs.toArray := by
    intro k hk
    have hk' : k < xs.length := by simpa using hk
    have hcur : cur[k]? = some (Value.int .i64 xs[k]) := by
      have : (cur.toList.take xs.length)[k]? = (xs.map (Value.int .i64))[k]? := by rw [htk1]
      rw [List.getElem?_take,if_pos hk',Array.getElem?_toList,List.getElem?_map,List.getElem?_eq_getElem hk'] at this
      exact this
    refine ⟨?_,by simp [World.frozen?,hb]⟩
    simp only [World.cell?,hb,Nat.zero_add]
    rw [getElem!_pos _ k hk]
    simpa using hcur
  have hv : Lc.v = .slice (some ⟨Lc.b,0,none⟩) xs.length Lc.cap := by unfold Loc.v;rw [hln,ha]
  have hown : (Obj.row iT xs).has Lc := by show Lc.cap ≠ 0;omega
  rw [hv]
  refine Calls.mono (Any.slices_Delete_int L Lc.b 0 Lc.cap i j xs E.w hH hle (by simpa [maxLen] using hcm) hij hjn) ?_
  rintro e' w2 ⟨rfl,q,rfl⟩
  obtain ⟨zs,hzs⟩ : ∃ zs : List Int,zs = xs.take i ++ xs.drop j := ⟨_,rfl⟩
  have hzl : zs.length = xs.length - (j - i) := by rw [hzs];simp;omega
  obtain ⟨F,hF⟩ : ∃ F : List Int,F = zs ++ List.replicate (j - i) 0 := ⟨_,rfl⟩
  have hFl : F.length = xs.length := by rw [hF,List.length_append,hzl,List.length_replicate];omega
  rw [← hzs,← hF]
  refine ⟨{ Lc with len := zs.length },by rw [← hzl];unfold Loc.v;rw [ha],some Lc.b,⟨rfl,rfl,rfl,?_,fun k hk hn => ?_⟩,fun b h => (by cases h;exact ⟨hown,rfl⟩),fun lo => ?_,fun h => .inl ⟨hown,rfl⟩,?_⟩
  · simp [putRow,mapBlock]
  · simp only [putRow,mapBlock,Sort.ahead,Array.getElem?_modify]
    rw [if_neg (fun e => hn (by rw [e]))]
  · have hlz : zs.length ≤ xs.length := by omega
    refine ⟨hesz,hpos,rfl,e,zs.map (Value.int .i64),cellsL_ints _ _ _,.inr ⟨Sort.putCells (Value.int .i64) 0 F.toArray cur,ha,?_,Nat.le_trans hlz hle,hc0,hcm,?_,?_⟩⟩
    · simp only [putRow,mapBlock,Sort.ahead,Array.getElem?_modify,if_pos,hb]
      rfl
    · simp [Sort.putCells,hsz]
    · rw [show zs.length * Ty.size iT = zs.length from Nat.mul_one _]
      apply List.ext_getElem?
      intro k
      rw [List.getElem?_take,List.getElem?_map]
      split
      · rename_i hk
        have hkF : k < F.length := by omega
        have hkc : k < cur.size := by omega
        rw [Array.getElem?_toList]
        simp only [Sort.putCells,Array.getElem?_mapIdx]
        rw [Array.getElem?_eq_getElem hkc]
        have hsF : (F.toArray).size = F.length := by simp
        simp only [Option.map_some,Nat.zero_le,Nat.zero_add,true_and,hsF,if_pos hkF,Nat.sub_zero]
        rw [getElem!_pos F.toArray k (by simpa using hkF),List.getElem?_eq_getElem hk]
        simp [hF,List.getElem_append_left hk]
      · rename_i hk
        rw [List.getElem?_eq_none (by omega)];rfl
  · show E.w.drawn ≤ E.w.drawn + q;omega
theorem delete_ok (L : Lays2.n23 P ρ) (hc : CallOk P (ρ.f 23)) : RowOk P (ρ.f 23) deleteC := by
  refine ⟨hc,fun E objs l Lc xs ys g hobj hL hpre args ra => ?_⟩
  obtain ⟨i,j,u⟩ := ys
  obtain ⟨hne,h0,hij,hjn⟩ : xs ≠ [] ∧ @LE.le Int _ 0 i ∧ @LE.le Int _ i j ∧ @LE.le Int _ j ((List.length (α := Int) xs : Nat) : Int) := hpre
  obtain ⟨i',hi⟩ : ∃ n : Nat,i = (n : Int) := ⟨Int.toNat i,(Int.toNat_of_nonneg h0).symm⟩
  obtain ⟨j',hj⟩ : ∃ n : Nat,j = (n : Int) := ⟨Int.toNat j,(Int.toNat_of_nonneg (Int.le_trans h0 hij)).symm⟩
  subst hi hj
  match args,ra with
  | [c,d],ra =>
    have e1 : c = .int .i64 (i' : Int) := intV_inv (show Rep P ⟨E.w,E.S,fun _ => none⟩ (.d iT (i' : Int)) c from ra.head)
    have e2 : d = .int .i64 (j' : Int) := intV_inv (show Rep P ⟨E.w,E.S,fun _ => none⟩ (.d iT (j' : Int)) d from ra.tail.head)
    subst e1 e2
    have h := delete_core L (xs := xs) g hobj hL hne i' j' (Int.ofNat_le.1 hij) (Int.ofNat_le.1 hjn)
    have e : deleteC.fn xs ((i' : Int),(j' : Int),u) = List.take i' (xs : List Int) ++ List.drop j' (xs : List Int) := rfl
    rw [e]
    exact h
  | [],ra => exact absurd ra.1 (by simp [toVs,deleteC])
  | [_],ra => exact absurd ra.1 (by simp [toVs,deleteC])
  | _ :: _ :: _ :: _,ra => exact absurd ra.1 (by simp [toVs,deleteC])
end Go.Proofs.YtldikbpclaeajaaGreatDoor
namespace Go.Proofs.YtldikbpclaeajaaGreatDoor
open Go Go.Lib Go.Proofs Go.RowKit Go.Shelf Go.Sort
set_option linter.unusedVariables false
variable {P : Program} {ρ : Ren}
theorem setCells_row {b : Nat} {e : TypeId} : ∀ (vs : List Value) (o : Nat) (w : World) (cur : Array Value), w.heap[b]? = some (.cells cur e (0, 0)) → o + vs.length ≤ cur.size →
    ∃ cur',(w.setCells b o vs).heap[b]? = some (.cells cur' e (0,0)) ∧ cur'.size = cur.size ∧ (∀ j,cur'[j]? = if o ≤ j ∧ j < o + vs.length then vs[j - o]? else cur[j]?) ∧ w.grownBy (w.setCells b o vs) (some b) ∧ (w.setCells b o vs).drawn = w.drawn
  | [],o,w,cur,h,hl => ⟨cur,h,rfl,fun j => by rw [if_neg (by simp)],⟨rfl,rfl,rfl,Nat.le_refl _,fun _ _ _ => rfl⟩,rfl⟩
  | v :: r,o,w,cur,h,hl => by
    have hb : b < w.heap.size := (Array.getElem?_eq_some_iff.1 h).1
    have h1 : (w.setCell ⟨b,o,none⟩ v).heap[b]? = some (.cells (cur.setIfInBounds o v) e (0,0)) := by
      simp [World.setCell,Array.getElem?_modify,h]
    obtain ⟨cur',k1,k2,k3,k4,k5⟩ := setCells_row r (o + 1) (w.setCell ⟨b,o,none⟩ v) (cur.setIfInBounds o v) h1 (by simp at hl ⊢;omega)
    refine ⟨cur',k1,by simpa using k2,fun j => ?_,⟨k4.os,k4.tape,k4.output,Nat.le_trans (Nat.le_of_eq (by simp [World.setCell])) k4.size,fun k hk hn => ?_⟩,k5⟩
    · rw [k3 j]
      simp only [List.length_cons] at hl ⊢
      by_cases e1 : j = o
      · subst e1
        rw [if_neg (by omega),if_pos (by omega),Nat.sub_self,Array.getElem?_setIfInBounds,if_pos rfl,if_pos (by omega)]
        rfl
      · by_cases e2 : o + 1 ≤ j ∧ j < o + 1 + r.length
        · rw [if_pos e2,if_pos (by omega),show j - o = (j - (o + 1)) + 1 by omega]
          rfl
        · rw [if_neg e2,if_neg (by omega),Array.getElem?_setIfInBounds,if_neg (Ne.symm e1)]
    · have h2 := k4.block k (by simpa [World.setCell] using hk) hn
      rw [show World.setCells w b o (v :: r) = World.setCells (w.setCell ⟨b,o,none⟩ v) b (o + 1) r from rfl,h2]
      simp only [World.setCell,Array.getElem?_modify]
      rw [if_neg (fun e => hn (by rw [e]))]
theorem ins_get {xs zs : List Int} {i : Nat} (hi : i ≤ xs.length) (k : Nat) : (xs.take i ++ zs ++ xs.drop i)[k]? = if k < i then xs[k]? else if k < i + zs.length then zs[k - i]? else xs[k - zs.length]? := by
  have ht : (xs.take i).length = i := by rw [List.length_take];omega
  split
  · rename_i h;rw [List.append_assoc,List.getElem?_append_left (by omega),List.getElem?_take,if_pos h]
  · split
    · rename_i h1 h2;rw [List.append_assoc,List.getElem?_append_right (by omega),ht,List.getElem?_append_left (by omega)]
    · rename_i h1 h2
      rw [List.getElem?_append_right (by rw [List.length_append];omega),List.length_append,ht,List.getElem?_drop]
      congr 1;omega
theorem ins_at {E : Env} {w2 : World} {b cap : Nat} {cur : Array Value} {e : TypeId} {ys : List Int} (h : w2.heap[b]? = some (.cells cur e (0, 0))) (hs : cur.size = cap) (hl : ys.length ≤ cap) (hp : 0 < cap) (hm : cap ≤ maxLen)
    (hk : ∀ k,k < ys.length → cur[k]? = ys[k]?.map (Value.int .i64)) (lo : Nat → Option Loc) : ObjAt P ⟨w2,E.S,lo⟩ ⟨b,some ⟨b,0,none⟩,ys.length,cap,1⟩ (.row iT ys) := by
  refine ⟨rfl,Nat.zero_lt_one,rfl,e,ys.map (Value.int .i64),cellsL_ints _ _ _,.inr ⟨cur,rfl,h,hl,hp,hm,by rw [hs];exact (Nat.mul_one _).symm,?_⟩⟩
  rw [show List.length (α := iT.den) ys * Ty.size iT = ys.length from Nat.mul_one _]
  apply List.ext_getElem?
  intro k
  rw [List.getElem?_take,List.getElem?_map]
  split
  · rename_i h1;rw [Array.getElem?_toList];exact hk k h1
  · rename_i h1;rw [List.getElem?_eq_none (by omega)];rfl
set_option maxHeartbeats 6400000 in
set_option maxRecDepth 100000 in
theorem ins_none (L : Lays2.n21 P ρ) (a : Option Addr) (n c i : Nat) (a' : Option Addr) (c' : Nat) (w : World) (hi : i ≤ n) (hn : n ≤ c) (hc : c ≤ 9223372036854775807) (hnil : a = none → n = 0 ∧ c = 0) :
    Calls P (ρ.f 21) #[.slice a n c,.int .i64 i,.slice a' 0 c'] w fun e w' => e = .returned (.slice a n c) ∧ w' = w := by
  have t0 := L.t0;have a0 := L.a0;have z0 := L.z0;have v0 := L.v0;have t3 := L.t3;have a3 := L.a3;have z3 := L.z3;have v3 := L.v3;have t4 := L.t4;have a4 := L.a4;have z4 := L.z4;have v4 := L.v4;have t22 := L.t22;have a22 := L.a22;have z22 := L.z22;have v22 := L.v22
  have u0 := run_underlying L.t0;have u3 := run_underlying L.t3;have u4 := run_underlying L.t4;have u22 := run_underlying L.t22
  have mixed := L.mixed
  have hz1 : ((0 : Nat) : Int) = 0 := rfl
  go_enter L.f21,Body2.n21_ntmps ρ
  cases a with
  | none =>
    obtain ⟨rfl,rfl⟩ := hnil rfl
    obtain rfl : i = 0 := by omega
    go_wp2
    go_ret
    exact ⟨rfl,rfl⟩
  | some a =>
    obtain ⟨ab,ao,asp⟩ := a
    go_wp2
    all_goals (go_ret;exact ⟨rfl,rfl⟩)
theorem ins_ok (L : Lays2.n21 P ρ) (hc : CallOk P (ρ.f 21)) : InsOk P (ρ.f 21) := by
  refine ⟨hc,fun E objs l k Lc Kc xs zs i g hl hk hlk hL hK h0 h1 h2 => ?_⟩
  obtain ⟨i',rfl⟩ : ∃ n : Nat,i = (n : Int) := ⟨i.toNat,(Int.toNat_of_nonneg h0).symm⟩
  have hi : i' ≤ xs.length := Int.ofNat_le.1 h1
  rw [Int.toNat_natCast]
  obtain ⟨L',hL',hat⟩ := g.at_ _ _ hl
  rw [hL] at hL';cases hL'
  obtain ⟨K',hK',hatK⟩ := g.at_ _ _ hk
  rw [hK] at hK';cases hK'
  obtain ⟨hesz,hpos,hln,e,cs,hcs,hmem⟩ := id hat
  obtain ⟨heszK,_,hlnK,eK,csK,hcsK,hmemK⟩ := id hatK
  have hcs' := cellsL_ints_eq hcs
  subst hcs'
  have hcsK' := cellsL_ints_eq hcsK
  subst hcsK'
  have hcap : xs.length ≤ Lc.cap ∧ Lc.cap ≤ 9223372036854775807 ∧ (Lc.a = none → xs.length = 0) := by
    rcases hmem with ⟨hc0,hx⟩ | ⟨cur,ha,hb,hle,hc0,hcm,hsz,htk⟩
    · rw [hx];exact ⟨Nat.zero_le _,by omega,fun _ => rfl⟩
    · exact ⟨hle,hcm,fun h => by rw [ha] at h;cases h⟩
  have hv : Lc.v = .slice Lc.a xs.length Lc.cap := by unfold Loc.v;rw [hln]
  have hvK : Kc.v = .slice Kc.a zs.length Kc.cap := by unfold Loc.v;rw [hlnK]
  rw [hv,hvK]
  have hgen : ∀ w2 M row,M = Lc ∨ True → E.w.grownBy w2 row → (∀ b,row = some b → (Obj.row iT xs).has Lc ∧ b = Lc.b) → (∀ lo,ObjAt P ⟨w2,E.S,lo⟩ M (.row iT (xs.take i' ++ zs ++ xs.drop i'))) → ((Obj.row iT (xs.take i' ++ zs ++ xs.drop i')).has M → ((Obj.row iT xs).has Lc ∧ M.b = Lc.b) ∨ E.w.heap.size ≤ M.b) → E.w.drawn ≤ w2.drawn → AppR P E Lc iT xs w2 M (xs.take i' ++ zs ++ xs.drop i') := fun w2 M row _ h1 h2 h3 h4 h5 => ⟨row,h1,h2,h3,h4,h5⟩
  by_cases hz : zs = []
  · subst hz
    refine Calls.mono (ins_none L Lc.a xs.length Lc.cap i' Kc.a Kc.cap E.w hi hcap.1 hcap.2.1 (fun h => ⟨hcap.2.2 h,?_⟩)) ?_
    · rcases hmem with ⟨hc0,_⟩ | ⟨cur,ha,_⟩
      · exact hc0
      · rw [ha] at h;cases h
    · rintro e' w2 ⟨rfl,rfl⟩
      have hx : xs.take i' ++ [] ++ xs.drop i' = xs := by rw [List.append_nil,List.take_append_drop]
      refine ⟨Lc,by rw [hv],hgen _ Lc none (.inr trivial) ⟨rfl,rfl,rfl,Nat.le_refl _,fun _ _ _ => rfl⟩ (fun b hb => by cases hb) (fun lo => ?_) (fun h => .inl ⟨h,rfl⟩) (Nat.le_refl _)⟩
      rw [hx]
      exact hat
  have hm : 0 < zs.length := List.length_pos_iff.2 hz
  rcases hmemK with ⟨_,hz'⟩ | ⟨curK,haK,hbK,hleK,hcK0,hcmK,hszK,htkK⟩
  · exact absurd hz' hz
  have hlen : (xs.take i' ++ zs ++ xs.drop i').length = xs.length + zs.length := by simp only [List.length_append,List.length_take,List.length_drop];omega
  have hlm : (zs.map (Value.int .i64)).length = zs.length := List.length_map _
  have hlx : (xs.map (Value.int .i64)).length = xs.length := List.length_map _
  have h1v : ∀ (l : List Int),∀ v ∈ l.map (Value.int .i64),v.oneCell' = true := fun l v hv => by
    obtain ⟨n,_,rfl⟩ := List.mem_map.1 hv;rfl
  have cells : ∀ {b : Nat} {cur : Array Value} {e : TypeId} {ys : List Int},E.w.heap[b]? = some (.cells cur e (0,0)) → cur.toList.take (ys.length * 1) = ys.map (Value.int .i64) → ∀ j v,(ys.map (Value.int .i64))[j]? = some v → E.w.cell? ⟨b,0 + j,none⟩ = some v := by
    intro b cur e ys hb ht j v hj
    rw [← ht,List.getElem?_take] at hj
    split at hj
    · rw [cell_row hb,Nat.zero_add];simpa using hj
    · cases hj
  have hvs := cells (ys := zs) hbK htkK
  rw [haK]
  have hget := fun k => ins_get (zs := zs) hi k
  have hfz : ∀ {b : Nat} {cur : Array Value} {e : TypeId} (_ : E.w.heap[b]? = some (.cells cur e (0,0))) (o : Nat),E.w.frozen? ⟨b,o,none⟩ = false := by
    intro b cur e hb o
    simp [World.frozen?,hb]
  rcases hmem with ⟨hc0,hx⟩ | ⟨cur,ha,hb,hle,hc0,hcm,hsz,htk⟩
  ·
    subst hx
    obtain rfl : i' = 0 := by simpa using hi
    refine Calls.mono (Any2.slices_Insert_int_end_grow L Lc.a 0 Lc.cap Kc.b 0 zs.length Kc.cap [] (zs.map (Value.int .i64)) E.w hm (Nat.zero_le _) (by omega) (by simpa using h2) rfl hlm (fun _ => rfl) (fun a _ j v hj => by cases hj) hvs (h1v zs)) ?_
    rintro e' w2 ⟨rfl,rfl⟩
    have hge := grownCap_ge E.w (0 + zs.length) Lc.cap (ρ.t 3)
    have hmx := grownCap_le_maxLen E.w (0 + zs.length) Lc.cap (ρ.t 3) (by unfold maxLen;simp at h2;omega)
    refine ⟨⟨E.w.heap.size,some ⟨E.w.heap.size,0,none⟩,(List.take 0 [] ++ zs ++ List.drop 0 []).length,grownCap E.w (0 + zs.length) Lc.cap (ρ.t 3),1⟩,by unfold Loc.v;rw [hlen];rfl,hgen _ _ none (.inr trivial) ⟨rfl,rfl,rfl,by simp,fun j hj _ => heap_alloc_old E.w.drew _ hj⟩ (fun b hb => by cases hb) (fun lo => ?_) (fun _ => .inr (Nat.le_refl _)) (Nat.le_succ _)⟩
    refine ins_at (heap_alloc_new E.w.drew _) ?_ (by rw [hlen];exact hge) (by omega) hmx (fun k hk => ?_) lo
    · revert hge
      generalize grownCap E.w (0 + zs.length) Lc.cap (ρ.t 3) = G
      intro hge
      simp only [Array.size_append,List.size_toArray,List.nil_append,hlm,size_zeroCells,Value.cells]
      simp
      omega
    · rw [hlen] at hk
      rw [Array.getElem?_append_left (by simp at hk ⊢;omega)]
      simp
  · have hsz1 : cur.size = Lc.cap := by rw [hsz];exact Nat.mul_one _
    have hhas : (Obj.row iT xs).has Lc := by show Lc.cap ≠ 0;omega
    have hhK : (Obj.row iT zs).has Kc := by show Kc.cap ≠ 0;omega
    have hvb : Kc.b ≠ Lc.b := fun e => hlk (g.inj l k _ _ Lc Kc hl hk hL hK hhas hhK e.symm)
    have hcx := cells (ys := xs) hb htk
    have hcur : ∀ k,k < xs.length → cur[k]? = xs[k]?.map (Value.int .i64) := fun k hk => by
      have := hcx k (.int .i64 xs[k]) (by rw [List.getElem?_map,List.getElem?_eq_getElem hk];rfl)
      rw [cell_row hb,Nat.zero_add] at this
      rw [this,List.getElem?_eq_getElem hk];rfl
    have hsp : ∀ j,j < Lc.cap → (E.w.cell? ⟨Lc.b,0 + j,none⟩).isSome = true := fun j hj => by
      rw [cell_row hb,Nat.zero_add,Array.getElem?_eq_getElem (by omega)];rfl
    rw [ha]
    rcases Nat.lt_or_ge Lc.cap (xs.length + zs.length) with hroom | hroom
    · have hge := grownCap_ge E.w (xs.length + zs.length) Lc.cap (ρ.t 3)
      have hmx := grownCap_le_maxLen E.w (xs.length + zs.length) Lc.cap (ρ.t 3) (by unfold maxLen;omega)
      by_cases hin : i' = xs.length
      · subst hin
        refine Calls.mono (Any2.slices_Insert_int_end_grow L (some ⟨Lc.b,0,none⟩) xs.length Lc.cap Kc.b 0 zs.length Kc.cap (xs.map (Value.int .i64)) (zs.map (Value.int .i64)) E.w hm hle hroom h2 hlx hlm (fun h => by cases h) (fun a ha j v hj => by cases ha;rw [Addr.add_lit];exact hcx j v hj) hvs (h1v zs)) ?_
        rintro e' w2 ⟨rfl,rfl⟩
        refine ⟨⟨E.w.heap.size,some ⟨E.w.heap.size,0,none⟩,(xs.take xs.length ++ zs ++ xs.drop xs.length).length,grownCap E.w (xs.length + zs.length) Lc.cap (ρ.t 3),1⟩,by unfold Loc.v;rw [hlen],hgen _ _ none (.inr trivial) ⟨rfl,rfl,rfl,by simp,fun j hj _ => heap_alloc_old E.w.drew _ hj⟩ (fun b hb => by cases hb) (fun lo => ?_) (fun _ => .inr (Nat.le_refl _)) (Nat.le_succ _)⟩
        refine ins_at (heap_alloc_new E.w.drew _) ?_ (by rw [hlen];exact hge) (by omega) hmx (fun k hk => ?_) lo
        · simp only [Array.size_append,List.size_toArray,List.length_append,hlm,hlx,size_zeroCells,Value.cells]
          simp
          omega
        · rw [hlen] at hk
          rw [Array.getElem?_append_left (by simp;omega),List.take_length,List.drop_length,List.append_nil,← List.map_append,List.getElem?_toArray,List.getElem?_map]
      · have hlt : i' < xs.length := by omega
        refine Calls.mono (Any2.slices_Insert_int_grow L Lc.b 0 xs.length Lc.cap i' Kc.b 0 zs.length Kc.cap (xs.map (Value.int .i64)) (zs.map (Value.int .i64)) E.w hlt hm hle hroom h2 hlx hlm hcx hvs (h1v xs) (h1v zs)) ?_
        rintro e' w2 ⟨rfl,rfl⟩
        revert hge hmx
        generalize grownCap E.w (xs.length + zs.length) Lc.cap (ρ.t 3) = G
        intro hge hmx
        obtain ⟨row,hrow⟩ : ∃ row : Array Value,row = ((xs.map (Value.int .i64)).take i').toArray ++ Builtin.zeroCells (Value.int .i64 0).cells (xs.length + zs.length - i') ++ Builtin.zeroCells (Value.int .i64 0).cells (G - (xs.length + zs.length)) := ⟨_,rfl⟩
        rw [← hrow]
        have hrs : row.size = G := by
          rw [hrow]
          simp only [Array.size_append,List.size_toArray,List.length_take,hlx,size_zeroCells,Value.cells]
          simp
          omega
        obtain ⟨c1,k1,k2,k3,k4,k5⟩ := setCells_row (zs.map (Value.int .i64)) i' (E.w.alloc (.cells row (ρ.t 3))).drew row (heap_alloc_new E.w _) (by rw [hlm];omega)
        obtain ⟨c2,m1,m2,m3,m4,m5⟩ := setCells_row ((xs.map (Value.int .i64)).drop i') (i' + zs.length) (((E.w.alloc (.cells row (ρ.t 3))).drew).setCells E.w.heap.size i' (zs.map (Value.int .i64))).drew c1 k1 (by rw [List.length_drop,hlx];omega)
        refine ⟨⟨E.w.heap.size,some ⟨E.w.heap.size,0,none⟩,(xs.take i' ++ zs ++ xs.drop i').length,G,1⟩,by unfold Loc.v;rw [hlen],hgen _ _ none (.inr trivial) ⟨m4.os.trans k4.os,m4.tape.trans k4.tape,m4.output.trans k4.output,Nat.le_trans (by simp) (Nat.le_trans k4.size m4.size),fun j hj _ => ?_⟩ (fun b hb => by cases hb) (fun lo => ?_) (fun _ => .inr (Nat.le_refl _)) ?_⟩
        · have hj1 : j < (E.w.alloc (.cells row (ρ.t 3))).drew.heap.size := by simp;omega
          have hne : some j ≠ some E.w.heap.size := fun e => by cases e;omega
          rw [m4.block j (Nat.lt_of_lt_of_le hj1 k4.size) hne]
          exact (k4.block j hj1 hne).trans (heap_alloc_old E.w _ hj)
        · refine ins_at m1 (by omega) (by rw [hlen];exact hge) (by omega) hmx (fun k hk => ?_) lo
          rw [hlen] at hk
          rw [hget,m3,k3,List.length_drop,hlx,hlm]
          by_cases q1 : k < i'
          · rw [if_neg (by omega),if_neg (by omega),if_pos q1,hrow,Array.append_assoc,Array.getElem?_append_left (by simp;omega)]
            simp [q1]
          · by_cases q2 : k < i' + zs.length
            · rw [if_neg (by omega),if_pos (by omega),if_neg q1,if_pos q2,List.getElem?_map]
            · rw [if_pos (by omega),if_neg q1,if_neg q2,List.getElem?_drop,List.getElem?_map,show i' + (k - (i' + zs.length)) = k - zs.length by omega]
        · rw [m5]
          show E.w.drawn ≤ _ + 1
          rw [k5]
          exact Nat.le_succ_of_le (Nat.le_succ _)
    · by_cases hin : i' = xs.length
      · subst hin
        refine Calls.mono (Any2.slices_Insert_int_end_room L Lc.b 0 xs.length Lc.cap Kc.b 0 zs.length Kc.cap (zs.map (Value.int .i64)) E.w hm hroom hcm hlm (fun j hj => by rw [Nat.add_assoc];exact hsp _ (by omega)) (fun j hj => hfz hb _) hvs (h1v zs)) ?_
        rintro e' w2 ⟨rfl,rfl⟩
        obtain ⟨c1,k1,k2,k3,k4,k5⟩ := setCells_row (zs.map (Value.int .i64)) (0 + xs.length) E.w cur hb (by rw [hlm];omega)
        refine ⟨⟨Lc.b,some ⟨Lc.b,0,none⟩,(xs.take xs.length ++ zs ++ xs.drop xs.length).length,Lc.cap,1⟩,by unfold Loc.v;rw [hlen],hgen _ _ (some Lc.b) (.inr trivial) k4 (fun b hb => by cases hb;exact ⟨hhas,rfl⟩) (fun lo => ?_) (fun _ => .inl ⟨hhas,rfl⟩) (Nat.le_of_eq k5.symm)⟩
        refine ins_at k1 (by omega) (by rw [hlen];exact hroom) (by omega) hcm (fun k hk => ?_) lo
        rw [hlen] at hk
        rw [hget,k3,hlm]
        by_cases q1 : k < xs.length
        · rw [if_neg (by omega),if_pos q1];exact hcur k q1
        · rw [if_pos (by omega),if_neg q1,if_pos (by omega),List.getElem?_map,Nat.zero_add]
      · have hlt : i' < xs.length := by omega
        refine Calls.mono (Any2.slices_Insert_int_shift L Lc.b 0 xs.length Lc.cap i' Kc.b 0 zs.length Kc.cap (xs.map (Value.int .i64)) (zs.map (Value.int .i64)) E.w hlt hm hroom hcm hvb hlx hlm hcx (fun j hj => hsp j (by omega)) (fun j hj => hfz hb _) hvs (h1v xs) (h1v zs) eK e curK.size cur.size (by simp [World.shape?,hbK]) (by simp [World.shape?,hb]) (by omega) (hfz hbK _) (hfz hbK _)) ?_
        rintro e' w2 ⟨rfl,rfl⟩
        obtain ⟨c1,k1,k2,k3,k4,k5⟩ := setCells_row ((xs.map (Value.int .i64)).drop i') (0 + (i' + zs.length)) E.w.drew cur hb (by rw [List.length_drop,hlx];omega)
        obtain ⟨c2,m1,m2,m3,m4,m5⟩ := setCells_row (zs.map (Value.int .i64)) (0 + i') (E.w.drew.setCells Lc.b (0 + (i' + zs.length)) ((xs.map (Value.int .i64)).drop i')) c1 k1 (by rw [hlm];omega)
        refine ⟨⟨Lc.b,some ⟨Lc.b,0,none⟩,(xs.take i' ++ zs ++ xs.drop i').length,Lc.cap,1⟩,by unfold Loc.v;rw [hlen],hgen _ _ (some Lc.b) (.inr trivial) ⟨m4.os.trans k4.os,m4.tape.trans k4.tape,m4.output.trans k4.output,Nat.le_trans k4.size m4.size,fun j hj hn => ?_⟩ (fun b hb => by cases hb;exact ⟨hhas,rfl⟩) (fun lo => ?_) (fun _ => .inl ⟨hhas,rfl⟩) ?_⟩
        · rw [m4.block j (Nat.lt_of_lt_of_le hj k4.size) hn];exact k4.block j hj hn
        · refine ins_at m1 (by omega) (by rw [hlen];exact hroom) (by omega) hcm (fun k hk => ?_) lo
          rw [hlen] at hk
          rw [hget,m3,k3,List.length_drop,hlx,hlm]
          by_cases q1 : k < i'
          · rw [if_neg (by omega),if_neg (by omega),if_pos q1];exact hcur k (by omega)
          · by_cases q2 : k < i' + zs.length
            · rw [if_pos (by omega),if_neg q1,if_pos q2,List.getElem?_map,Nat.zero_add]
            · rw [if_neg (by omega),if_pos (by omega),if_neg q1,if_neg q2,List.getElem?_drop,List.getElem?_map,show i' + (k - (0 + (i' + zs.length))) = k - zs.length by omega]
        · rw [m5,k5];exact Nat.le_succ _
theorem insE {n m : Nat} (h : n = m) (hc : CallOk P m) (k : CallOk P n → InsOk P n) : InsOk P m := by subst h;exact k hc
end Go.Proofs.YtldikbpclaeajaaGreatDoor
