/- Part of a proof that the law FarkasProves of the program holds for every input: what the functions answer, in plain Lean. No conditions. -/
import Derived.Below
import Derived.Carry
import Derived.ChangeOld
import Derived.OpenShut
import Derived.ProofKit
import Derived.ShutString
import Derived.SizedLaws
import Derived.WalkKit
import Derived.Test.YtlncingakpelbaaP03
namespace Go.Proofs.Ytlncingakpelbaa
open Go
set_option linter.unusedVariables false

theorem absI_if (x : Int) : (if -x > x then -x else x) = if x < 0 then -x else x := by split <;> split <;> omega

theorem ref09_Eliminate.spec (rows : List ref09_Row) (v : Int) (h : ref09_Eliminate.pre rows v) : ref09_Eliminate.wp rows v (fun x => x = ref09_Eliminate.fn rows v) := by
  obtain ⟨hv,N,L,⟨hvN,hNL,hL⟩,h4,hr⟩ := h
  have hrN : ∀ r ∈ rows,r.1.1.length = N := fun r h => (hr r h).1.1
  have hrat : ∀ {k : Nat},k < rows.length → rowR N L (rows.getD k d_ref09_Row) := fun hk => hr _ (getD_mem _ hk)
  have hvL : v < (L : Int) := by omega
  -- what the code's table is
  have hB : rowsB 1073741824 L (rows.map toF) := fun r hr' => by
    obtain ⟨y,hy,rfl⟩ := List.mem_map.1 hr'
    exact ⟨(hr y hy).1.2,(hr y hy).2.1⟩
  have hfn : ref09_Eliminate.fn rows v = ((farkas_table_kept.fn ((N : Int),[]) (wList ((N : Int),rows.map toF) v)).1.2.map (ofF N),(farkas_table_kept.fn ((N : Int),[]) (wList ((N : Int),rows.map toF) v)).2) := by
    have e2 : ∀ n : Int,farkas_table_without.fn (n,rows.map toF) v = farkas_table_kept.fn (n,[]) (wList (n,rows.map toF) v) := fun n => by
      unfold farkas_table_without.fn wList;split <;> rfl
    by_cases hne : rows = []
    · subst hne
      unfold ref09_Eliminate.fn
      rw [e2]
      rfl
    · unfold ref09_Eliminate.fn
      rw [nOf_eq hrN hne,e2]
  rw [hfn]
  generalize hT : ((N : Int),rows.map toF) = t at *
  have ht2 : t.2 = rows.map toF := by rw [← hT]
  have htl : t.2.length = rows.length := by rw [ht2,List.length_map]
  have htat : ∀ {k : Nat},k < rows.length → t.2.getD k d_farkas_row = toF (rows.getD k d_ref09_Row) := fun hk => by rw [ht2];exact getD_mapF hk
  have htg : ∀ {k : Nat},k < rows.length → gI (t.2.getD k d_farkas_row).2 v = gI (rows.getD k d_ref09_Row).1.1 v := fun hk => by
    rw [htat hk];exact toF_getC hv (by rw [(hrat hk).1.1];exact hvN)
  have hgb : ∀ {k : Nat},k < rows.length → (0 ≤ v ∧ v < ((rows.getD k d_ref09_Row).1.1.length : Int)) ∧ -1073741824 ≤ gI (rows.getD k d_ref09_Row).1.1 v ∧ gI (rows.getD k d_ref09_Row).1.1 v ≤ 1073741824 := fun {k} hk => by
    have h1 := hrat hk
    refine ⟨⟨hv,by rw [h1.1.1];exact hvN⟩,?_⟩
    rw [← htg hk,htat hk]
    exact gI_inB h1.2.1 hv (by rw [h1.1.2];exact hvL)
  have hsol : farkas_table_solver.fn t v = solveI (rows.map fun r => (r.2.1,gI r.1.1 v)) 0 (-1) 0 := by
    unfold farkas_table_solver.fn
    rw [ht2,List.map_map]
    congr 1
    refine List.map_congr_left fun r hr' => ?_
    show (r.2.1,gI (toF r).2 v) = _
    rw [toF_getC hv (by rw [hrN r hr'];exact hvN)]
  intro _
  refine ⟨fun n b i => ∃ (k : Nat) (a : Int),i = (k : Int) ∧ n + k = rows.length ∧ (b = -1 ∨ ((0 ≤ b ∧ b < (rows.length : Int)) ∧ a = absI (gI (rows.getD b.toNat d_ref09_Row).1.1 v))) ∧
    farkas_table_solver.fn t v = solveI ((rows.drop k).map fun r => (r.2.1,gI r.1.1 v)) k b a,⟨rows.length,0,0,rfl,rfl,Or.inl rfl,hsol⟩,?_⟩
  rintro n b i ⟨k,a,rfl,hn,hb,hs⟩
  refine ⟨fun hi => ?_,fun hi => ?_⟩
  · have hk : k < rows.length := by omega
    refine ⟨⟨by omega,hi⟩,?_⟩
    rintro r hre
    rw [Int.toNat_natCast] at hre
    have g1 := hgb hk
    rw [← hre] at g1
    rw [drop_get d_ref09_Row hk,List.map_cons,← hre] at hs
    have g2 : ∀ (_ : ((r.2.1 && (gI r.1.1 v != 0)) && (!(decide (b < 0)))) = true),(0 ≤ b ∧ b < (rows.length : Int)) ∧ (0 ≤ v ∧ v < ((rows.getD b.toNat d_ref09_Row).1.1.length : Int)) ∧ -1073741824 ≤ gI (rows.getD b.toNat d_ref09_Row).1.1 v ∧ gI (rows.getD b.toNat d_ref09_Row).1.1 v ≤ 1073741824 := fun hc => by
      simp only [Bool.and_eq_true,Bool.not_eq_true',decide_eq_false_iff_not] at hc
      rcases hb with hb | hb
      · omega
      · exact ⟨hb.1,hgb (by omega)⟩
    refine ⟨g1.1,fun _ => ⟨by omega,by omega⟩,fun hc => (g2 hc).1,fun hc => (g2 hc).2.1,fun hc => (g2 hc).1,fun hc => (g2 hc).2.1,fun hc => ?_,?_⟩
    · have := (g2 hc).2.2;exact ⟨by omega,by omega⟩
    refine (?_ : (((r.2.1 && (gI r.1.1 v != 0)) && (decide (b < 0) || decide (absI (gI r.1.1 v) < absI (gI (rows.getD b.toNat d_ref09_Row).1.1 v)))) = true → _) ∧ (((r.2.1 && (gI r.1.1 v != 0)) && (decide (b < 0) || decide (absI (gI r.1.1 v) < absI (gI (rows.getD b.toNat d_ref09_Row).1.1 v)))) = false → _))
    have hcond : ((r.2.1 && (gI r.1.1 v != 0)) && (decide (b < 0) || decide (absI (gI r.1.1 v) < absI (gI (rows.getD b.toNat d_ref09_Row).1.1 v)))) = ((r.2.1 && (gI r.1.1 v != 0)) && (decide (b < 0) || decide (absI (gI r.1.1 v) < a))) := by
      rcases hb with hb | hb
      · simp [hb]
      · rw [hb.2]
    rw [hcond]
    unfold solveI at hs
    refine ⟨fun hc => ⟨⟨by omega,by omega⟩,n - 1,by omega,k + 1,absI (gI r.1.1 v),by omega,by omega,Or.inr ⟨⟨by omega,by omega⟩,by rw [Int.toNat_natCast,← hre]⟩,?_⟩,fun hc => ⟨⟨by omega,by omega⟩,n - 1,by omega,k + 1,a,by omega,by omega,hb,?_⟩⟩
    · rw [if_pos hc] at hs;rw [hs];rfl
    · rw [if_neg (by rw [hc];simp)] at hs;rw [hs];rfl
  · have hk : k = rows.length := by omega
    subst hk
    rw [List.drop_of_length_le (Nat.le_refl _)] at hs
    have hs : farkas_table_solver.fn t v = b := hs
    have hcs := solver_cases (t := t) (v := v)
    rw [hs] at hcs
    have hWB : rowsB 4611686018427387904 L (wList t v) ∧ (wList t v).length ≤ 1048576 := by
      unfold wList
      rw [hs]
      split
      · rename_i hb0
        rcases hcs with hc | ⟨kk,hkk,hk2,_,_⟩
        · omega
        rw [hk2,Int.toNat_natCast]
        rw [← ht2] at hB
        refine ⟨fun r hr' => ?_,?_⟩
        · obtain ⟨j,x,hx,hy⟩ := gather_mem _ _ _ hr'
          exact (wEq_ok (k := kk) hv hvL hL (hB.at hkk) j (hB x hx)).2.1 r hy
        · have := gather_len (wEq v kk (t.2.getD kk d_farkas_row)) (wEq_len _ _ _) t.2 0
          omega
      · rw [← ht2] at hB
        exact wIneq_ok hv hvL hL hB (by omega)
    refine ⟨fun x => Nx N (wList t v) x,⟨fun hb0 => ?_,fun hb0 _ => ?_⟩,?_⟩
    · rcases hcs with hc | ⟨kk,hkk,rfl,_,_⟩
      · omega
      rw [htl] at hkk
      have hW : wList t v = gather (wEq v kk (t.2.getD kk d_farkas_row)) t.2 0 := by
        unfold wList;rw [hs,if_pos (by omega),Int.toNat_natCast]
      rw [Int.toNat_natCast]
      refine ⟨⟨by omega,by omega⟩,?_⟩
      rintro e hee
      have he := hrat hkk
      have hge := htg hkk
      have hbe := hgb hkk
      rw [htat hkk] at hW
      rw [htat hkk] at hge
      rw [← hee] at he hge hbe hW
      refine ⟨hbe.1,fun s => s = if gI e.1.1 v < 0 then (-1 : Int) else 1,⟨fun hn => by rw [if_pos hn],fun hn => by rw [if_neg hn]⟩,?_⟩
      rintro s rfl
      intro _
      refine ⟨fun n i o => ∃ k : Nat,i = (k : Int) ∧ n + k = rows.length ∧ Nx N (gather (wEq v kk (toF e)) (t.2.take k) 0) o,⟨rows.length,0,rfl,rfl,rfl,fun r hr => by cases hr⟩,?_⟩
      rintro n i o ⟨k,rfl,hn,ho⟩
      refine ⟨fun hi => ?_,fun hi => ?_⟩
      · have hk : k < rows.length := by omega
        have hrk := hrat hk
        have hgk := htg hk
        have hbk := hgb hk
        have hgt := gather_take (wEq v kk (toF e)) d_farkas_row (l := t.2) (k := k) (by omega)
        rw [htat hk] at hgt
        rw [htat hk] at hgk
        have hol := ho.len
        have hgl := gather_len (wEq v kk (toF e)) (wEq_len _ _ _) (t.2.take k) 0
        rw [List.length_take] at hgl
        refine ⟨⟨by omega,hi⟩,?_⟩
        rintro r hre
        rw [Int.toNat_natCast] at hre
        rw [← hre] at hrk hgt hgk hbk
        refine ⟨fun hkk' => ⟨⟨by omega,by omega⟩,n - 1,by omega,k + 1,by omega,by omega,?_⟩,fun hkk' => ⟨hbk.1,fun hz => ⟨⟨?_,?_⟩,⟨by omega,by omega⟩,n - 1,by omega,k + 1,by omega,by omega,?_⟩,fun hz => ?_⟩⟩
        · rw [hgt,wEq,if_pos hkk',List.append_nil];exact ho
        · rw [List.length_singleton];omega
        · rw [List.length_singleton];omega
        · rw [hgt,wEq,if_neg hkk',if_pos (by rw [hgk];exact hz)]
          exact ho.snoc hrk.2.2.symm hrk.1.1
        · have hw := (wEq_ok (k := kk) hv hvL hL ⟨he.1.2,he.2.1⟩ k (r := toF r) ⟨hrk.1.2,hrk.2.1⟩).1
          rw [hge,hgk] at hw
          rw [absI_if]
          have hmx := mix_toF (a := if gI e.1.1 v < 0 then -gI e.1.1 v else gI e.1.1 v) (b := (-(if gI e.1.1 v < 0 then (-1 : Int) else 1)) * gI r.1.1 v) hrk.1.1 hrk.1.2 he.1.2
          have hmb := hw.2.2.2.2.2
          refine ⟨⟨by omega,by omega⟩,?_,hbk.1,⟨by omega,by omega⟩,hw,⟨?_,?_⟩,?_⟩
          · split <;> omega
          · rw [List.length_singleton];omega
          · rw [List.length_singleton];omega
          · rintro o' rfl
            refine ⟨⟨by omega,by omega⟩,n - 1,by omega,k + 1,by omega,by omega,?_⟩
            rw [hgt,wEq,if_neg hkk',if_neg (by rw [hgk];exact hz)]
            rw [hge,hgk]
            exact ho.snoc hmx.1 hmx.2
      · have hk : k = rows.length := by omega
        rw [List.take_of_length_le (by omega),← hW] at ho
        exact ho
    · have hW : wList t v = wIneq v t.2 := by unfold wList;rw [hs,if_neg hb0]
      rw [hW]
      rw [hW] at hWB
      refine ⟨fun n i o => ∃ k : Nat,i = (k : Int) ∧ n + k = rows.length ∧ Nx N ((t.2.take k).filter (fun r => gI r.2 v == 0)) o,⟨rows.length,0,rfl,rfl,rfl,fun r hr => by cases hr⟩,?_⟩
      rintro n i o ⟨k,rfl,hn,ho⟩
      refine ⟨fun hi => ?_,fun hi _ => ?_⟩
      · have hk : k < rows.length := by omega
        have hrk := hrat hk
        have hgk := htg hk
        have hbk := hgb hk
        rw [htat hk] at hgk
        have htk := take_get d_farkas_row (l := t.2) (k := k) (by omega)
        rw [htat hk] at htk
        have hol := ho.len
        have hfl := List.length_filter_le (fun r : farkas_row => gI r.2 v == 0) (t.2.take k)
        rw [List.length_take] at hfl
        refine ⟨⟨by omega,hi⟩,?_⟩
        rintro r hre
        rw [Int.toNat_natCast] at hre
        rw [← hre] at hrk htk hgk hbk
        refine ⟨hbk.1,fun hz => ⟨⟨?_,?_⟩,⟨by omega,by omega⟩,n - 1,by omega,k + 1,by omega,by omega,?_⟩,fun hz => ⟨⟨by omega,by omega⟩,n - 1,by omega,k + 1,by omega,by omega,?_⟩⟩
        · rw [List.length_singleton];omega
        · rw [List.length_singleton];omega
        · have hz' : (gI (toF r).2 v == 0) = true := by rw [hgk,hz];rfl
          rw [htk,List.filter_append]
          simp only [List.filter_cons,List.filter_nil,hz',if_true]
          exact ho.snoc hrk.2.2.symm hrk.1.1
        · have hz' : (gI (toF r).2 v == 0) = false := by rw [hgk];exact beq_eq_false_iff_ne.2 hz
          rw [htk,List.filter_append]
          simp only [List.filter_cons,List.filter_nil,hz',Bool.false_eq_true,if_false,List.append_nil]
          exact ho
      · have hk : k = rows.length := by omega
        rw [List.take_of_length_le (by omega)] at ho
        generalize hF : t.2.filter (fun r => gI r.2 v == 0) = F at *
        have hFl : F.length ≤ 400 := by
          have := List.length_filter_le (fun r : farkas_row => gI r.2 v == 0) t.2
          rw [hF] at this;omega
        refine ⟨fun n i o => ∃ k : Nat,i = (k : Int) ∧ n + k = rows.length ∧ Nx N (F ++ (t.2.take k).flatMap (fun x => t.2.flatMap fun y => wPair v x y)) o,⟨rows.length,0,rfl,rfl,by simpa using ho⟩,?_⟩
        clear ho
        rintro n i o ⟨k,rfl,hn,ho⟩
        rw [← ht2] at hB
        have hpl : ∀ k,k ≤ rows.length → ((t.2.take k).flatMap (fun x => t.2.flatMap fun y => wPair v x y)).length ≤ 160000 := fun k hk => by
          have := flatMap_len (fun x => t.2.flatMap fun y => wPair v x y) 400 (t.2.take k) fun x hx => by
            have := flatMap_len (fun y => wPair v x y) 1 t.2 fun y hy => (wPair_ok hv hvL hL (hB x (List.mem_of_mem_take hx)) (hB y hy)).2.2
            omega
          rw [List.length_take] at this
          have h3 : 400 * min k t.2.length ≤ 400 * 400 := Nat.mul_le_mul_left _ (by omega)
          omega
        refine ⟨fun hi => ?_,fun hi => ?_⟩
        · have hk : k < rows.length := by omega
          have hlk := hrat hk
          have hgl := htg hk
          have hbl := hgb hk
          rw [htat hk] at hgl
          have hft := flatMap_take (fun x => t.2.flatMap fun y => wPair v x y) d_farkas_row (l := t.2) (k := k) (by omega)
          rw [htat hk] at hft
          refine ⟨⟨by omega,hi⟩,?_⟩
          rintro l hle
          rw [Int.toNat_natCast] at hle
          rw [← hle] at hlk hft hgl hbl
          generalize hO : F ++ (t.2.take k).flatMap (fun x => t.2.flatMap fun y => wPair v x y) = O at *
          have hOl : O.length ≤ 160400 := by
            rw [← hO,List.length_append]
            have := hpl k (by omega)
            omega
          refine ⟨hbl.1,fun hneg => ⟨⟨by omega,by omega⟩,n - 1,by omega,k + 1,by omega,by omega,?_⟩,fun hpos _ => ?_⟩
          · have : (t.2.flatMap fun y => wPair v (toF l) y) = [] := by
              rw [List.flatMap_eq_nil_iff]
              intro y _
              unfold wPair
              rw [if_neg (by rw [hgl];omega)]
            rw [hft,this,List.append_nil,hO];exact ho
          · refine ⟨fun m i o => ∃ j : Nat,i = (j : Int) ∧ m + j = rows.length ∧ Nx N (O ++ (t.2.take j).flatMap (fun y => wPair v (toF l) y)) o,⟨rows.length,0,rfl,rfl,by simpa using ho⟩,?_⟩
            clear ho
            rintro m i o ⟨j,rfl,hm,ho⟩
            refine ⟨fun hi => ?_,fun hi => ?_⟩
            · have hj : j < rows.length := by omega
              have huk := hrat hj
              have hgu := htg hj
              have hbu := hgb hj
              rw [htat hj] at hgu
              have hft2 := flatMap_take (fun y => wPair v (toF l) y) d_farkas_row (l := t.2) (k := j) (by omega)
              rw [htat hj] at hft2
              refine ⟨⟨by omega,hi⟩,?_⟩
              rintro u hue
              rw [Int.toNat_natCast] at hue
              rw [← hue] at huk hft2 hgu hbu
              have hw := wPair_ok hv hvL hL (l := toF l) (u := toF u) ⟨hlk.1.2,hlk.2.1⟩ ⟨huk.1.2,huk.2.1⟩
              have hp := hw.1
              rw [hgl,hgu] at hp
              have hmx := mix_toF (a := -(gI u.1.1 v)) (b := gI l.1.1 v) hlk.1.1 hlk.1.2 huk.1.2
              have hlen : ((t.2.take j).flatMap (fun y => wPair v (toF l) y)).length ≤ 400 := by
                have := flatMap_len (fun y => wPair v (toF l) y) 1 (t.2.take j) fun y hy => (wPair_ok hv hvL hL ⟨hlk.1.2,hlk.2.1⟩ (hB y (List.mem_of_mem_take hy))).2.2
                rw [List.length_take] at this
                omega
              have hol := ho.len
              rw [List.length_append] at hol
              have hle1 : l.2.1 = false := by
                rcases hcs with ⟨_,hc⟩ | ⟨kk,hkk,hk2,_⟩
                · cases hl1 : l.2.1 with
                  | false => rfl
                  | true =>
                    have := hc (toF l) (by rw [ht2];exact List.mem_map.2 ⟨l,by rw [hle];exact getD_mem _ hk,rfl⟩) hl1
                    rw [hgl] at this;omega
                · omega
              refine ⟨hbu.1,fun hc => ⟨hbu.1,⟨by omega,by omega⟩,hbl.1,hp,⟨?_,?_⟩,?_⟩,fun hc => ⟨⟨by omega,by omega⟩,m - 1,by omega,j + 1,by omega,by omega,?_⟩⟩
              · rw [List.length_singleton];omega
              · rw [List.length_singleton];omega
              · rintro o' rfl
                refine ⟨⟨by omega,by omega⟩,m - 1,by omega,j + 1,by omega,by omega,?_⟩
                rw [hft2,wPair,if_pos ⟨by rw [hgl];omega,by rw [hgu];exact hc⟩,hgl,hgu,← List.append_assoc]
                refine ho.snoc ?_ hmx.2
                rw [hmx.1,show (toF l).1 = false from hle1]
              · rw [hft2,wPair,if_neg (by rw [hgu];omega),List.append_nil];exact ho
            · have hj : j = rows.length := by omega
              rw [List.take_of_length_le (by omega)] at ho
              refine ⟨⟨by omega,by omega⟩,n - 1,by omega,k + 1,by omega,by omega,?_⟩
              rw [hft,← List.append_assoc,hO];exact ho
        · have hk : k = rows.length := by omega
          rw [List.take_of_length_le (by omega)] at ho
          unfold wIneq
          rw [hF];exact ho
    · rintro x hx
      intro _
      exact elim_end hx hNL hL hWB.1 hWB.2 (fun y => y = ((farkas_table_kept.fn ((N : Int),[]) (wList t v)).1.2.map (ofF N),(farkas_table_kept.fn ((N : Int),[]) (wList t v)).2)) rfl

/-! ## Rows that have nothing in common -/
theorem reduced_idem (r : farkas_row) : farkas_row_reduced.fn (farkas_row_reduced.fn r) = farkas_row_reduced.fn r := by
  obtain ⟨g,hg,hr,he⟩ := reduced_mul r
  by_cases h1 : gcdL r.2 > 1
  · have e : farkas_row_reduced.fn r = (r.1,r.2.map fun x => Int.tdiv x (gcdL r.2)) := by unfold farkas_row_reduced.fn farkas_vector_int_by.fn;rw [if_pos h1]
    have hm : r.2 = (r.2.map fun x => Int.tdiv x (gcdL r.2)).map fun x => gcdL r.2 * x := by
      rw [List.map_map]
      refine ((List.map_congr_left (g := id) fun x hx => ?_).trans (List.map_id _)).symm
      have := tdiv_mul (gcdL_dvd hx)
      simp only [Function.comp,id]
      rw [Int.mul_comm];exact this
    have hq : gcdL (r.2.map fun x => Int.tdiv x (gcdL r.2)) = 1 := by
      have h2 : gcdL ((r.2.map fun x => Int.tdiv x (gcdL r.2)).map fun x => gcdL r.2 * x) = gcdL r.2 * gcdL (r.2.map fun x => Int.tdiv x (gcdL r.2)) := gcdL_scale (by omega) _
      rw [← hm] at h2
      have h3 : gcdL r.2 * gcdL (r.2.map fun x => Int.tdiv x (gcdL r.2)) = gcdL r.2 * 1 := by rw [← h2];simp
      exact mul_cancel (by omega) h3
    rw [e]
    have : ¬ gcdL (r.2.map fun x => Int.tdiv x (gcdL r.2)) > 1 := by omega
    unfold farkas_row_reduced.fn
    rw [if_neg this]
  · have e : farkas_row_reduced.fn r = r := by unfold farkas_row_reduced.fn;rw [if_neg h1]
    rw [e,e]
theorem first_reduced {p : List api_Cond} {n : Int} : ∀ r ∈ (farkas_first.fn p n).2,farkas_row_reduced.fn r = r := by
  intro r hr
  obtain ⟨j,hj,hy⟩ := gather_at _ d_api_Cond _ _ hr
  rw [Nat.zero_add] at hy
  unfold firstRow at hy
  split at hy
  · cases hy
  · rw [List.mem_singleton] at hy
    have h1 : (1 : Int) ∈ r.2 := by
      rw [hy]
      refine List.mem_append_right _ (List.mem_cons_of_mem _ ?_)
      exact List.mem_iff_getElem.2 ⟨j,by simp [hj],by simp⟩
    have hd := gcdL_dvd h1
    have h0 := gcdL_nonneg r.2
    have := Int.eq_one_of_dvd_one h0 hd
    unfold farkas_row_reduced.fn
    rw [if_neg (by omega)]
theorem dedup_reduced {n : Int} {l : List farkas_row} : ∀ r ∈ dedupR n l,farkas_row_reduced.fn r = r := by
  intro r hr
  have := dedup_all (n := n) (P := fun _ => True) (fun _ _ => trivial) l (fun _ _ => trivial)
  have key : ∀ k,k ≤ l.length → ∀ r ∈ dedupR n (l.take k),farkas_row_reduced.fn r = r := by
    intro k
    induction k with
    | zero => intro _ r hr;simp [dedupR] at hr
    | succ k ih =>
      intro hk r hr
      rw [dedup_step n l k (by omega)] at hr
      unfold addRow at hr
      split at hr
      · exact ih (by omega) r hr
      · rcases List.mem_append.1 hr with e | e
        · exact ih (by omega) r e
        · rw [List.mem_singleton] at e;subst e;exact reduced_idem _
  exact key l.length (Nat.le_refl _) r (by rw [List.take_of_length_le (Nat.le_refl _)];exact hr)
theorem tables_reduced {p : List api_Cond} {n : Int} (h : farkas_asked.fn p n = 0) (h0 : (farkas_eliminated.fn p n).2 = 0) {j : Nat} (hj : j ≤ n.toNat) : ∀ r ∈ ((farkas_eliminated.fn p n).1.getD j d_farkas_table).2,farkas_row_reduced.fn r = r := by
  obtain ⟨e1,e2,e3,e4⟩ := eliminated_ok h h0
  by_cases e : j = n.toNat
  · subst e;rw [e2];exact first_reduced
  · obtain ⟨f1,f2⟩ := e4 j (by omega)
    rw [f2,without_list f1]
    exact dedup_reduced
/-- The rows of a table,in the form of the document's answer. -/
theorem rows_ok {N L : Nat} {t : farkas_table} (ht : tabB L t) (htn : t.1 = (N : Int)) (hred : ∀ r ∈ t.2, farkas_row_reduced.fn r = r) :
    (∀ r ∈ t.2.map (ofF N),rowR N L r) ∧ (t.2.map (ofF N)).map toF = t.2 ∧ N + 1 ≤ L := by
  obtain ⟨⟨h1,h2,h3⟩,h4,h5⟩ := ht
  have hN : N < L := by omega
  have hid : (t.2.map (ofF N)).map toF = t.2 := by
    rw [List.map_map]
    exact (List.map_congr_left (g := id) fun r hr => toF_ofF (n := N) (r := r) (by rw [(h5 r hr).1];exact hN)).trans (List.map_id _)
  refine ⟨fun r hr => ?_,hid,hN⟩
  obtain ⟨y,hy,rfl⟩ := List.mem_map.1 hr
  have hy5 := h5 y hy
  have e := toF_ofF (n := N) (r := y) (by rw [hy5.1];exact hN)
  refine ⟨⟨ofF_len (by rw [hy5.1];exact hN),by rw [e];exact hy5.1⟩,by rw [e];exact hy5.2,by rw [e];exact hred y hy⟩
theorem Eliminate_tab {N L : Nat} {t : farkas_table} {v : Nat} (ht : tabB L t) (htn : t.1 = (N : Int)) (hred : ∀ r ∈ t.2, farkas_row_reduced.fn r = r) (hv : v < N) :
    ref09_Eliminate.pre (t.2.map (ofF N)) v ∧ ref09_Eliminate.fn (t.2.map (ofF N)) v = ((farkas_table_without.fn t v).1.2.map (ofF N),(farkas_table_without.fn t v).2) := by
  obtain ⟨h1,h2,h3⟩ := rows_ok ht htn hred
  refine ⟨⟨by omega,N,L,⟨by omega,h3,ht.1.2.2⟩,by rw [List.length_map];exact ht.2.1,h1⟩,?_⟩
  unfold ref09_Eliminate.fn
  rw [h2]
  by_cases hne : t.2.map (ofF N) = []
  · have h0 : t.2 = [] := List.map_eq_nil_iff.1 hne
    have et : t = (t.1,[]) := by rw [← h0]
    rw [hne,h0,et]
    rfl
  · rw [nOf_eq (fun r hr => (h1 r hr).1.1) hne,← htn]

theorem ref09_asked.spec (p : List api_Cond) (n : Int) : ref09_asked.wp p n (fun x => x = ref09_asked.fn p n) := by
  unfold ref09_asked.wp ref09_asked.fn farkas_asked.fn
  refine ⟨fun h => ?_,fun h hl => ⟨fun h2 => ?_,fun h2 _ => ?_⟩⟩
  · rw [if_pos (by simpa using h)]
  all_goals rw [if_neg (by simpa using h)]
  · rw [if_pos h2]
  rw [if_neg h2]
  refine ⟨fun m e x => ∃ k : Nat,x = (k : Int) ∧ m + k = p.length ∧ (p.take k).any farkas_asked_1.fn = false ∧ e = (if (p.take k).any (fun c => farkas_asked_2.fn c n) then 2 else 0),⟨p.length,0,rfl,rfl,rfl,rfl⟩,?_⟩
  rintro m e x ⟨k,rfl,hm,h3,he⟩
  refine ⟨fun hx => ⟨⟨by omega,hx⟩,?_⟩,fun hx => ?_⟩
  · have hk : k < p.length := by omega
    rintro c rfl
    simp only [Int.toNat_natCast]
    refine ⟨fun hv => ?_,fun (hv : cond_Valid.fn _ = true) => ⟨fun hd => ⟨⟨by omega,by omega⟩,m - 1,by omega,k + 1,by simp,by omega,?_,?_⟩,fun hd => ⟨⟨by omega,by omega⟩,m - 1,by omega,k + 1,by simp,by omega,?_,?_⟩⟩⟩
    · rw [if_pos (List.any_eq_true.2 ⟨_,getD_mem d_api_Cond hk,by rw [farkas_asked_1.fn];exact congrArg (!·) hv⟩)]
    · rw [take_get d_api_Cond hk,List.any_append,h3];simpa [farkas_asked_1.fn] using hv
    · have h2 : farkas_asked_2.fn (p.getD k d_api_Cond) n = true := by simpa [farkas_asked_2.fn] using hd
      rw [take_get d_api_Cond hk,List.any_append,if_pos]
      simp only [List.any_cons,h2,Bool.true_or,Bool.or_true]
    · rw [take_get d_api_Cond hk,List.any_append,h3];simpa [farkas_asked_1.fn] using hv
    · have h2 : farkas_asked_2.fn (p.getD k d_api_Cond) n = false := by simpa [farkas_asked_2.fn] using hd
      rw [take_get d_api_Cond hk,List.any_append,he]
      simp only [List.any_cons,List.any_nil,h2,Bool.or_false]
  · have hk : k = p.length := by omega
    subst hk
    rw [List.take_of_length_le (Nat.le_refl _)] at h3 he
    rw [if_neg (by rw [h3];simp)];exact he

theorem firstRow_ofF {N m i : Nat} {c : api_Cond} (hc : c.2.2.1.length = N) (h2 : c.1 ≠ 2) : (firstRow N m i c).map (ofF N) = [(c.2.2,c.1 == 1,(List.replicate m 0).set i 1)] := by
  unfold firstRow
  rw [if_neg h2]
  have := ofF_toF (n := N) (r := (c.2.2,c.1 == 1,(List.replicate m (0 : Int)).set i 1)) hc
  simp only [List.map_cons,List.map_nil]
  exact congrArg (fun x => [x]) this

theorem ref09_stack.spec (p : List api_Cond) (n : Int) (h : ref09_stack.pre p n) : ref09_stack.wp p n (fun x => x = ref09_stack.fn p n) := by
  have h : farkas_asked.fn p n = 0 := h
  obtain ⟨hn,h96,hv⟩ := asked_ok h
  obtain ⟨hT,hTn⟩ := first_ok h
  obtain ⟨N,rfl⟩ : ∃ N : Nat,n = (N : Int) := ⟨n.toNat,by omega⟩
  intro _
  refine ⟨fun m i o => ∃ k : Nat,i = (k : Int) ∧ m + k = p.length ∧ o = (gather (firstRow N p.length) (p.take k) 0).map (ofF N),⟨p.length,0,rfl,rfl,rfl⟩,?_⟩
  rintro m i o ⟨k,rfl,hm,rfl⟩
  refine ⟨fun hi => ?_,fun hi => ?_⟩
  · have hk : k < p.length := by omega
    have hgt := gather_take (firstRow N p.length) d_api_Cond hk
    have hgl := gather_len (firstRow N p.length) (fun i x => firstRow_len _ _ _ _) (p.take k) 0
    rw [List.length_take] at hgl
    refine ⟨⟨by omega,hi⟩,?_⟩
    rintro c hce
    rw [Int.toNat_natCast] at hce
    rw [← hce] at hgt
    have hcm : c ∈ p := by rw [hce];exact getD_mem _ hk
    have hcl := (hv c hcm).2
    refine ⟨fun h2 => ⟨⟨by omega,by omega⟩,m - 1,by omega,k + 1,by omega,by omega,?_⟩,fun h2 => ⟨⟨by omega,by omega,by omega,by omega⟩,?_⟩⟩
    · rw [hgt,firstRow,if_pos h2,List.append_nil]
    · rintro x hx
      intro _
      rw [Int.toNat_natCast] at hx
      have hxl : x.length = p.length := by rw [hx];exact List.length_replicate
      refine ⟨⟨by omega,by omega⟩,by rw [Int.toNat_natCast];omega,?_⟩
      rintro y hy
      rw [Int.toNat_natCast,hx] at hy
      refine ⟨⟨?_,?_⟩,?_⟩
      · rw [List.length_singleton,List.length_map];omega
      · rw [List.length_singleton,List.length_map];omega
      rintro o' rfl
      refine ⟨⟨by omega,by omega⟩,m - 1,by omega,k + 1,by omega,by omega,?_⟩
      rw [hgt,List.map_append,firstRow_ofF (by omega) h2,hy]
  · have hk : k = p.length := by omega
    subst hk
    rw [List.take_of_length_le (Nat.le_refl _)]
    refine ⟨⟨by omega,by omega,by omega,by omega⟩,?_⟩
    rintro x12 hx12
    rw [Int.toNat_natCast] at hx12
    refine ⟨⟨by omega,by omega⟩,?_⟩
    have hfst : (gather (firstRow N p.length) p 0) = (farkas_first.fn p N).2 := rfl
    rw [hfst]
    have hstack : ref09_stack.fn p (N : Int) = if (elimAll (farkas_first.fn p N) N).2 ≠ 0 then ([],[],(elimAll (farkas_first.fn p N) N).2) else (((elimAll (farkas_first.fn p N) N).1.drop 1).map (fun t => t.2.map (ofF N)),((elimAll (farkas_first.fn p N) N).1.getD 0 d_farkas_table).2.map (ofF N),0) := rfl
    rw [hstack]
    have hred := first_reduced (p := p) (n := (N : Int))
    rw [Int.toNat_natCast] at hT
    generalize farkas_first.fn p (N : Int) = T at *
    refine ⟨fun m rows i bef => ∃ (v : Nat) (t : farkas_table) (l : List farkas_table),i = (v : Int) - 1 ∧ m = v ∧ v + l.length = N ∧ rows = t.2.map (ofF N) ∧ bef = List.replicate v [] ++ l.map (fun t => t.2.map (ofF N)) ∧ (tabB (N + 1 + p.length) t ∧ t.1 = (N : Int) ∧ ∀ r ∈ t.2,farkas_row_reduced.fn r = r) ∧ elimAll T N = comb (elimAll t v) l,
      ⟨N,N,T,[],rfl,rfl,rfl,rfl,by rw [hx12];simp,⟨hT,hTn,hred⟩,(comb_nil _ _).symm⟩,?_⟩
    rintro m rows i bef ⟨v,t,l,rfl,hm,hl,rfl,rfl,⟨ht,htn,htr⟩,hc⟩
    refine ⟨fun hi => ?_,fun hi => ?_⟩
    · obtain ⟨u,rfl⟩ : ∃ u,v = u + 1 := ⟨v - 1,by omega⟩
      have e3 : Int.toNat (((u + 1 : Nat) : Int) - 1) = u := by omega
      have e4 : ((u + 1 : Nat) : Int) - 1 = (u : Int) := by omega
      obtain ⟨q1,q2⟩ := Eliminate_tab (v := u) ht htn htr (by omega)
      have blen : (List.replicate (u + 1) ([] : List ref09_Row) ++ l.map (fun t => t.2.map (ofF N))).length = N := by rw [List.length_append,List.length_replicate,List.length_map];omega
      rw [e3,e4,blen]
      refine ⟨⟨by omega,by omega⟩,by omega,q1,?_⟩
      rintro w hw
      rw [q2] at hw
      have hw1 : w.1 = (farkas_table_without.fn t u).1.2.map (ofF N) := by rw [hw]
      have hw2 : w.2 = (farkas_table_without.fn t u).2 := by rw [hw]
      refine ⟨fun hne => ?_,fun heq => ⟨⟨by omega,by omega⟩,m - 1,by omega,u,(farkas_table_without.fn t u).1,t :: l,rfl,by omega,by rw [List.length_cons];omega,hw1,?_,?_,?_⟩⟩
      · rw [hc,comb_err (by rw [← hw2];exact hne),if_pos (by rw [← hw2];exact hne),← hw2]
      · rw [List.replicate_succ',List.append_assoc,List.set_append_right _ _ (by simp)];simp
      · have hok := without_ok (v := (u : Int)) ht ⟨by omega,by omega⟩ (by rw [← hw2];exact heq)
        refine ⟨hok.1,by rw [hok.2];exact htn,?_⟩
        rw [without_list (by rw [← hw2];exact heq)]
        exact dedup_reduced
      · rw [hc];exact comb_step (by rw [← hw2];exact heq) l
    · have hv0 : v = 0 := by omega
      subst hv0
      have : elimAll T N = (t :: l,0) := by rw [hc];rfl
      rw [this]
      simp

theorem ref09_Prove.spec (p : List api_Cond) (n : Int) : ref09_Prove.wp p n (fun x => x = ref09_Prove.fn p n) := by
  unfold ref09_Prove.wp ref09_Prove.fn farkas_Prove.fn
  rintro e rfl
  have ea : ref09_asked.fn p n = farkas_asked.fn p n := rfl
  rw [ea]
  refine ⟨fun he => by rw [if_pos he],fun he => ⟨he,?_⟩⟩
  rw [if_neg (by rw [he];simp)]
  rintro q hq
  unfold ref09_stack.fn at hq
  by_cases h0 : (farkas_eliminated.fn p n).2 ≠ 0
  · rw [if_pos h0] at hq
    rw [hq,if_pos h0]
    exact ⟨fun _ => rfl,fun h => absurd h h0⟩
  · rw [if_neg h0] at hq
    rw [if_neg h0]
    have h0' := Classical.byContradiction h0
    obtain ⟨hn,h96,hv⟩ := asked_ok he
    obtain ⟨e1,e2,e3,e4⟩ := eliminated_ok he h0'
    have hT := e3 0 (Nat.zero_le _)
    have hred := tables_reduced he h0' (Nat.zero_le n.toNat)
    generalize (farkas_eliminated.fn p n).1.getD 0 d_farkas_table = t at *
    obtain ⟨r1,r2,r3⟩ := rows_ok (N := n.toNat) hT.1 (by rw [hT.2];omega) hred
    rw [hq]
    refine ⟨fun h => absurd rfl h,fun _ => ⟨fun r hr => ?_,?_⟩⟩
    · have h1 := r1 r hr
      have h2 := toF_len r
      have hL := hT.1.1.2.2
      refine ⟨by omega,fun x hx => h1.2.1 x ?_⟩
      exact List.mem_append_right _ (List.mem_cons_of_mem _ hx)
    · have hre : ref09_refuted.fn (t.2.map (ofF n.toNat)) = farkas_table_refuted.fn t := by
        unfold ref09_refuted.fn farkas_table_refuted.fn
        rw [refuteR_eq hn.1 _ (fun r hr => by rw [(r1 r hr).1.1];omega),r2,hT.2]
      rintro w hw
      have hw : w = farkas_table_refuted.fn t := by rw [hw];exact hre
      rw [← hw]
      exact ⟨fun h => by rw [if_neg (by rw [h];simp)],fun h => by rw [if_pos h]⟩

/-! ## The refutation -/
theorem refuteL_true (n : Int) : ∀ (l : List farkas_row),(refuteL n l).2 = true → ∃ r ∈ l,¬ (gI r.2 n ≥ 0 ∧ (r.1 = false ∨ gI r.2 n = 0)) ∧ (refuteL n l).1 = if gI r.2 n > 0 then (r.2.drop (Int.toNat (n + 1))).map (fun x => -x) else r.2.drop (Int.toNat (n + 1))
  | [],h => by cases h
  | r :: l,h => by
    unfold refuteL at h ⊢
    split at h
    · rename_i hc
      rw [if_pos hc]
      obtain ⟨x,hx,hr⟩ := refuteL_true n l h
      exact ⟨x,List.mem_cons_of_mem _ hx,hr⟩
    · rename_i hc
      rw [if_neg hc]
      exact ⟨r,List.mem_cons_self,hc,rfl⟩
theorem refuteL_false (n : Int) : ∀ (l : List farkas_row),(refuteL n l).2 = false → ∀ r ∈ l,gI r.2 n ≥ 0 ∧ (r.1 = false ∨ gI r.2 n = 0)
  | [],_,r,hr => by cases hr
  | x :: l,h,r,hr => by
    unfold refuteL at h
    split at h
    · rename_i hc
      rcases List.mem_cons.1 hr with e | e
      · subst e;exact hc
      · exact refuteL_false n l h r e
    · cases h
theorem badWs_of : ∀ (p : List api_Cond) (w : List Int),p.length = w.length → (∀ i,i < p.length → badW (p.getD i d_api_Cond) (w.getD i 0) = false) → badWs p w = false
  | [],_,_,_ => by simp [badWs]
  | _ :: _,[],_,_ => by simp [badWs]
  | c :: p,a :: w,h,hb => by
    have h0 := hb 0 (by simp)
    have ih := badWs_of p w (by simpa using h) fun i hi => by simpa using hb (i + 1) (by simpa using hi)
    simp only [badWs,Bool.or_eq_false_iff]
    exact ⟨by simpa using h0,ih⟩
theorem getD_drop (l : List Int) (k i : Nat) : (l.drop k).getD i 0 = l.getD (k + i) 0 := by simp [List.getD_eq_getElem?_getD]
theorem getD_map_neg (l : List Int) (i : Nat) : (l.map fun x => -x).getD i 0 = -(l.getD i 0) := by
  simp only [List.getD_eq_getElem?_getD,List.getElem?_map]
  cases l[i]? <;> simp
theorem dotI_negR (l x : List Int) : dotI l (x.map fun y => -y) = -(dotI l x) := by
  have := dotI_mulR (-1) l x
  simp only [Int.neg_mul,Int.one_mul] at this
  exact this

/-- What the weights of a false row are. -/
theorem refuted_ok {p : List api_Cond} {n : Int} (h : farkas_asked.fn p n = 0) (h0 : (farkas_eliminated.fn p n).2 = 0) (hr : (farkas_table_refuted.fn ((farkas_eliminated.fn p n).1.getD 0 d_farkas_table)).2 = true) :
    ∃ w,(farkas_table_refuted.fn ((farkas_eliminated.fn p n).1.getD 0 d_farkas_table)).1 = w ∧ w.length = p.length ∧
      (∀ i,i < p.length → ((p.getD i d_api_Cond).1 = 2 → w.getD i 0 = 0) ∧ ((p.getD i d_api_Cond).1 ≠ 1 → 0 ≤ w.getD i 0)) ∧ farkas_Check.fn p n w = (true,0) := by
  obtain ⟨hn,h96,hv⟩ := asked_ok h
  obtain ⟨e1,e2,e3,e4⟩ := eliminated_ok h h0
  have hT := tab_all h h0 n.toNat (Nat.le_refl _)
  rw [Nat.sub_self] at hT
  have hn0 := (e3 0 (Nat.zero_le _)).2
  generalize (farkas_eliminated.fn p n).1.getD 0 d_farkas_table = t at *
  obtain ⟨r,hrm,hf,hw⟩ := refuteL_true t.1 t.2 hr
  rw [hn0] at hf hw
  have hrow := hT r hrm
  have en : Int.toNat (n + 1) = n.toNat + 1 := by omega
  have egn : gI r.2 n = r.2.getD n.toNat 0 := rfl
  rw [en] at hw
  refine ⟨_,rfl,?_⟩
  have hw' : (farkas_table_refuted.fn t).1 = if gI r.2 n > 0 then (r.2.drop (n.toNat + 1)).map (fun x => -x) else r.2.drop (n.toNat + 1) := by rw [← hw,← hn0];rfl
  rw [hw']
  have heq : gI r.2 n > 0 → r.1 = true := fun hp => by
    cases h1 : r.1 with
    | true => rfl
    | false => exact absurd ⟨by omega,Or.inl h1⟩ hf
  have hneg : ¬ gI r.2 n > 0 → gI r.2 n < 0 := fun hp => by
    apply Classical.byContradiction
    intro hq
    exact hf ⟨by omega,Or.inr (by omega)⟩
  have hlen : (if gI r.2 n > 0 then (r.2.drop (n.toNat + 1)).map (fun x => -x) else r.2.drop (n.toNat + 1)).length = p.length := by
    split <;> simp only [List.length_map,List.length_drop,hrow.row.len] <;> omega
  have hsgn : ∀ i,i < p.length → ((p.getD i d_api_Cond).1 = 2 → (if gI r.2 n > 0 then (r.2.drop (n.toNat + 1)).map (fun x => -x) else r.2.drop (n.toNat + 1)).getD i 0 = 0) ∧ ((p.getD i d_api_Cond).1 ≠ 1 → 0 ≤ (if gI r.2 n > 0 then (r.2.drop (n.toNat + 1)).map (fun x => -x) else r.2.drop (n.toNat + 1)).getD i 0) := by
    intro i hi
    refine ⟨fun h2 => ?_,fun h1 => ?_⟩
    · split
      · rw [getD_map_neg,getD_drop,hrow.row.div i hi h2];rfl
      · rw [getD_drop,hrow.row.div i hi h2]
    · split
      · rename_i hp
        rw [getD_map_neg,getD_drop,hrow.row.eq i hi h1 (heq hp)];decide
      · rw [getD_drop];exact hrow.row.ge i hi h1
  have hdot : ∀ v,v ≤ n.toNat → dotI (p.map (plc n.toNat v)) (if gI r.2 n > 0 then (r.2.drop (n.toNat + 1)).map (fun x => -x) else r.2.drop (n.toNat + 1)) = if gI r.2 n > 0 then -(r.2.getD v 0) else r.2.getD v 0 := by
    intro v hv
    split
    · rw [dotI_negR,← hrow.row.lin v hv]
    · exact (hrow.row.lin v hv).symm
  generalize (if gI r.2 n > 0 then (r.2.drop (n.toNat + 1)).map (fun x => -x) else r.2.drop (n.toNat + 1)) = w at *
  refine ⟨hlen,hsgn,?_⟩
  unfold farkas_Check.fn
  rw [if_neg (by rw [h];simp),if_neg (by rw [hlen];simp),if_neg,if_neg]
  · have hc : dotI (p.map fun c => c.2.2.2) w < 0 := by
      have := hdot n.toNat (Nat.le_refl _)
      have e : (p.map fun c => c.2.2.2) = p.map (plc n.toNat n.toNat) := List.map_congr_left fun c _ => by unfold plc;rw [if_neg (by omega)]
      rw [e,this]
      split
      · omega
      · rename_i hp;have := hneg hp;omega
    rw [decide_eq_true hc]
  · intro ha
    obtain ⟨v,hv1,hv2⟩ := List.any_eq_true.1 ha
    have hvn := List.mem_range.1 hv1
    have := hdot v (by omega)
    have e : (p.map fun c => gI c.2.2.1 (v : Int)) = p.map (plc n.toNat v) := List.map_congr_left fun c _ => by unfold plc;rw [if_pos hvn]
    rw [e,this,hrow.zero v (Nat.zero_le _) hvn] at hv2
    simp at hv2
  · have := badWs_of p w (by omega) fun i hi => by
      obtain ⟨s1,s2⟩ := hsgn i hi
      unfold badW
      by_cases h0 : (p.getD i d_api_Cond).1 = 0
      · have := s2 (by rw [h0];decide)
        rw [h0,decide_eq_false (by omega)];rfl
      · by_cases h2 : (p.getD i d_api_Cond).1 = 2
        · rw [s1 h2];simp
        · have b0 : ((p.getD i d_api_Cond).1 == 0) = false := beq_eq_false_iff_ne.2 h0
          have b2 : ((p.getD i d_api_Cond).1 == 2) = false := beq_eq_false_iff_ne.2 h2
          rw [b0,b2];rfl
    rw [this];simp

/-! ## Lowest terms -/
theorem gcdL_mul {A : Int} (hA : 0 ≤ A) (l : List Int) : gcdL (l.map fun x => A * x) = A * gcdL l := gcdL_scale hA l
theorem gcdL_pair (a b : Int) : gcdL [a,b] = (Nat.gcd a.natAbs b.natAbs : Nat) := by
  show ((Nat.gcd ((Nat.gcd (0 : Int).natAbs a.natAbs : Nat) : Int).natAbs b.natAbs : Nat) : Int) = _
  simp
theorem gcdL_div {a b : Int} (h : 1 ≤ gcdL [a,b]) : gcdL [Int.tdiv a (gcdL [a,b]),Int.tdiv b (gcdL [a,b])] = 1 := by
  have e1 := tdiv_mul (x := a) (g := gcdL [a,b]) (gcdL_dvd (by simp))
  have e2 := tdiv_mul (x := b) (g := gcdL [a,b]) (gcdL_dvd (by simp))
  have := gcdL_mul (A := gcdL [a,b]) (by omega) [Int.tdiv a (gcdL [a,b]),Int.tdiv b (gcdL [a,b])]
  simp only [List.map_cons,List.map_nil] at this
  rw [Int.mul_comm,e1,Int.mul_comm (gcdL [a,b]),e2] at this
  have h2 : gcdL [a,b] * 1 = gcdL [a,b] * gcdL [Int.tdiv a (gcdL [a,b]),Int.tdiv b (gcdL [a,b])] := by rw [← this];simp
  exact (mul_cancel h h2).symm
theorem low_prime {f : farkas_fraction} {e : Int} (L : Low f e) : gcdL [lowN f e,lowD f e] = 1 := by
  have h1 := gcdL_div L.g
  have h2 := gcdL_div L.h
  have e1 := tdiv_mul (x := Int.tdiv f.1 (gcdL [f.1,f.2])) (g := gcdL [Int.tdiv f.1 (gcdL [f.1,f.2]),e]) (gcdL_dvd (by simp))
  unfold lowN lowD
  generalize gcdL [Int.tdiv f.1 (gcdL [f.1,f.2]),e] = h at *
  generalize Int.tdiv f.1 (gcdL [f.1,f.2]) = n0 at *
  generalize Int.tdiv f.2 (gcdL [f.1,f.2]) = d0 at *
  generalize Int.tdiv e h = q at *
  generalize Int.tdiv n0 h = n at *
  rw [gcdL_pair] at h1 h2 ⊢
  have c1 : Nat.Coprime n.natAbs d0.natAbs := by
    have : Nat.Coprime n0.natAbs d0.natAbs := by unfold Nat.Coprime;omega
    rw [← e1,Int.natAbs_mul] at this
    exact Nat.Coprime.coprime_mul_right this
  have c2 : Nat.Coprime n.natAbs q.natAbs := by unfold Nat.Coprime;omega
  have c3 := Nat.Coprime.mul_right c2 c1
  rw [Int.natAbs_mul]
  unfold Nat.Coprime at c3
  rw [c3];rfl
/-- A point over its denominator in lowest terms. -/
def Prim (a : farkas_point) : Prop := gcdL (a.2 :: a.1) = 1
theorem prim_dvd {l : List Int} (h : gcdL l = 1) {A g : Int} (hA : 0 ≤ A) (hg : ∀ x ∈ l,g ∣ A * x) : g ∣ A := by
  have := dvd_gcdL (l := l.map fun x => A * x) (d := g) fun y hy => by
    obtain ⟨x,hx,rfl⟩ := List.mem_map.1 hy;exact hg x hx
  rw [gcdL_mul hA,h,Int.mul_one] at this;exact this
theorem with_prim {p : farkas_point} {f : farkas_fraction} (h : farkas_point_with.pre p f) (hp : Prim p) (h0 : (farkas_point_with.fn p f).2 = 0) : Prim (farkas_point_with.fn p f).1 := by
  obtain ⟨w1,w2,w3,w4⟩ := with_ok h h0
  obtain ⟨⟨h12,hx,d1,d2⟩,hf⟩ := h
  have L := low hf ⟨d1,d2⟩
  have lp := low_prime L
  obtain ⟨k1,k2,k3,k4,k5⟩ := lcm_ok L.D.1 d1
  rw [w1]
  unfold Prim
  have hk := gcdL_div k1
  have q1 := tdiv_mul (x := lowD f p.2) (g := gcdL [lowD f p.2,p.2]) (gcdL_dvd (by simp))
  have q2 := tdiv_mul (x := p.2) (g := gcdL [lowD f p.2,p.2]) (gcdL_dvd (by simp))
  have eA : Int.tdiv (lcmI (lowD f p.2) p.2) p.2 = Int.tdiv (lowD f p.2) (gcdL [lowD f p.2,p.2]) := by
    have := tdiv_mul k5
    refine Int.eq_of_mul_eq_mul_right (a := p.2) (by omega) (this.trans ?_)
    unfold lcmI
    generalize Int.tdiv (lowD f p.2) (gcdL [lowD f p.2,p.2]) = u at *
    generalize Int.tdiv p.2 (gcdL [lowD f p.2,p.2]) = w at *
    generalize gcdL [lowD f p.2,p.2] = g at *
    generalize lowD f p.2 = D at *
    grind
  have eB : Int.tdiv (lcmI (lowD f p.2) p.2) (lowD f p.2) = Int.tdiv p.2 (gcdL [lowD f p.2,p.2]) := by
    have := tdiv_mul k4
    refine Int.eq_of_mul_eq_mul_right (a := lowD f p.2) (by have := L.D.1;omega) (this.trans ?_)
    rfl
  have mA := tdiv_mul k5
  have mB := tdiv_mul k4
  rw [eA] at mA ⊢
  rw [eB] at mB ⊢
  have hA : 0 ≤ Int.tdiv (lowD f p.2) (gcdL [lowD f p.2,p.2]) := Int.tdiv_nonneg (by have := L.D.1;omega) (by omega)
  have hB : 0 ≤ Int.tdiv p.2 (gcdL [lowD f p.2,p.2]) := by omega
  generalize Int.tdiv (lowD f p.2) (gcdL [lowD f p.2,p.2]) = A at *
  generalize Int.tdiv p.2 (gcdL [lowD f p.2,p.2]) = B at *
  generalize hG : gcdL (lcmI (lowD f p.2) p.2 :: (p.1.map (fun x => x * A) ++ [lowN f p.2 * B])) = G
  have dD : G ∣ lcmI (lowD f p.2) p.2 := by rw [← hG];exact gcdL_dvd (by simp)
  have dx : ∀ x ∈ p.1,G ∣ A * x := fun x hx => by
    rw [← hG,Int.mul_comm];exact gcdL_dvd (List.mem_cons_of_mem _ (List.mem_append_left _ (List.mem_map.2 ⟨x,hx,Int.mul_comm ..⟩)))
  have dn : G ∣ B * lowN f p.2 := by rw [← hG,Int.mul_comm];exact gcdL_dvd (by simp)
  have gA : G ∣ A := prim_dvd hp hA fun x hx => by
    rcases List.mem_cons.1 hx with e | e
    · subst e;rw [mA];exact dD
    · exact dx x e
  have gB : G ∣ B := prim_dvd lp hB fun x hx => by
    simp only [List.mem_cons,List.not_mem_nil,or_false] at hx
    rcases hx with e | e
    · subst e;exact dn
    · subst e;rw [mB];exact dD
  have g1 : G ∣ gcdL [A,B] := dvd_gcdL fun x hx => by
    simp only [List.mem_cons,List.not_mem_nil,or_false] at hx
    rcases hx with e | e <;> subst e
    · exact gA
    · exact gB
  rw [hk] at g1
  have g0 : 0 ≤ G := by rw [← hG];exact gcdL_nonneg _
  exact Int.eq_one_of_dvd_one g0 g1

theorem isR.rat {y : ref09_Ratio} {p q : Int} (h : isR y p q) (hq : 0 < q ∧ q ≤ 268435456) (hp : -268435456 ≤ p ∧ p ≤ 268435456) : Rat y 2 p q := by
  obtain ⟨⟨c,s⟩,g,v⟩ := h
  have r : Rat y (y.1.2.length + y.2.2.length) p q := ⟨c,⟨by omega,by omega⟩,s,g,v⟩
  obtain ⟨⟨_,h1⟩,h2,h3⟩ := r.le hq.1
  have e : (65536 : Int) ^ 2 = 4294967296 := by decide
  refine ⟨c,⟨?_,?_⟩,s,g,v⟩
  · have := dz_len (x := vl y.1.2) (k := 2) (vl_nonneg c.1.1) (by omega)
    rwa [c.1.2] at this
  · have := dz_len (x := vl y.2.2) (k := 2) (vl_nonneg c.2.1) (by omega)
    rwa [c.2.2] at this

theorem sumR_snoc (C : List Int) (y : ref09_Ratio) : ∀ (l : List ref09_Ratio) (i : Nat) (s : ref09_Ratio),sumR C (l ++ [y]) i s = ref09_Ratio_Add.fn (sumR C l i s) (ref09_Ratio_Mul.fn y (ref09_Of.fn (C.getD (i + l.length) 0),ref09_Of.fn 1))
  | [],i,s => rfl
  | z :: l,i,s => by
    simp only [List.cons_append,sumR,List.length_cons]
    rw [sumR_snoc C y l (i + 1)]
    rw [show i + 1 + l.length = i + (l.length + 1) from by omega]

section
variable {a : farkas_point} {x : List ref09_Ratio} {r : ref09_Row} {N L : Nat}
/-- A sum so far. -/
theorem sum_rat (ha : ptB a) (hx : relX a x) (hr : rowR N L r) (hN : a.1.length < N) : ∀ j,j ≤ x.length → Rat (sumR r.1.1 (x.take j) 0 (ref09_Of.fn r.1.2,ref09_Of.fn 1)) (4 + 7 * j) (r.1.2 * a.2 + dotI (r.1.1.take j) (a.1.take j)) a.2
  | 0,_ => by
    obtain ⟨h12,hb,d1,d2⟩ := ha
    have hK : -1073741824 ≤ r.1.2 ∧ r.1.2 ≤ 1073741824 := hr.2.1 _ (List.mem_append_right _ List.mem_cons_self)
    have := (Rat.of (c := r.1.2) ⟨by omega,by omega⟩).scale a.2
    rw [Int.mul_one,Int.mul_comm] at this
    simpa [sumR,dotI] using this
  | j + 1,hj => by
    have ih := sum_rat ha hx hr hN j (by omega)
    obtain ⟨h12,hb,d1,d2⟩ := ha
    have hxl := hx.1
    have hrN := hr.1.1
    have hc : -1073741824 ≤ r.1.1.getD j 0 ∧ r.1.1.getD j 0 ≤ 1073741824 := hr.2.1 _ (List.mem_append_left _ (getD_mem 0 (by omega)))
    have hy := (hx.2 j (by omega)).rat ⟨by omega,d2⟩ (hb _ (getD_mem 0 (by omega)))
    have hm := hy.mul (Rat.of (c := r.1.1.getD j 0) ⟨by omega,by omega⟩) (by decide) (by decide)
    rw [Int.mul_one] at hm
    rw [take_get d_ref09_Ratio (by omega),sumR_snoc,List.length_take,Nat.min_eq_left (by omega),Nat.zero_add]
    have := ih.add hm (by omega) (by decide)
    rw [dotI_succ _ _ _ (by omega) (by omega)]
    have e : r.1.2 * a.2 + dotI (r.1.1.take j) (a.1.take j) + a.1.getD j 0 * r.1.1.getD j 0 = r.1.2 * a.2 + (dotI (r.1.1.take j) (a.1.take j) + r.1.1.getD j 0 * a.1.getD j 0) := by rw [Int.mul_comm (a.1.getD j 0)];omega
    rw [e] at this
    exact this.mono (by omega)
theorem sum_all (ha : ptB a) (hx : relX a x) (hr : rowR N L r) (hN : a.1.length < N) : Rat (sumR r.1.1 x 0 (ref09_Of.fn r.1.2,ref09_Of.fn 1)) 88 (rowS a N (toF r)) a.2 := by
  have := sum_rat ha hx hr hN x.length (Nat.le_refl _)
  have hxl := hx.1
  have hrN := hr.1.1
  have h12 := ha.1
  rw [List.take_of_length_le (Nat.le_refl _),hxl,List.take_of_length_le (Nat.le_refl a.1.length)] at this
  have e1 : gI (toF r).2 (N : Int) = r.1.2 := by rw [gI_nat,← hrN];exact toF_getK r
  have e2 : dotI (toF r).2 a.1 = dotI (r.1.1.take a.1.length) a.1 := by
    rw [← dotI_take (toF r).2 a.1]
    congr 1
    show (r.1.1 ++ r.1.2 :: r.2.2).take _ = _
    rw [List.take_append_of_le_length (by omega)]
  unfold rowS
  rw [e1,e2]
  exact this.mono (by omega)
/-- The bound of a row. -/
theorem at_rat (ha : ptB a) (hx : relX a x) (hr : rowR N L r) (hN : a.1.length < N) (h0 : gI r.1.1 a.1.length ≠ 0) :
    ref09_RatioOf.pre (ref09_Of.fn (-1)) (ref09_Of.fn (gI r.1.1 a.1.length)) ∧ goodR (ref09_RatioOf.fn (ref09_Of.fn (-1)) (ref09_Of.fn (gI r.1.1 a.1.length))) ∧
    Rat (atR a.1.length x r) 92 (farkas_point_bound.fn a (toF r) N).1 ((farkas_point_bound.fn a (toF r) N).2 * a.2) ∧ 0 < (farkas_point_bound.fn a (toF r) N).2 := by
  have hrN := hr.1.1
  have hs := sum_all ha hx hr hN
  have hc : -1073741824 ≤ gI r.1.1 a.1.length ∧ gI r.1.1 a.1.length ≤ 1073741824 := by
    rw [gI_nat];exact hr.2.1 _ (List.mem_append_left _ (getD_mem 0 (by omega)))
  obtain ⟨hp,hi⟩ := Rat.inv (c := gI r.1.1 a.1.length) ⟨by omega,by omega⟩ h0
  have hm := hs.mul hi (by decide) (by decide)
  have ecf : gI (toF r).2 (a.1.length : Int) = gI r.1.1 a.1.length := toF_getC (by omega) (by omega)
  have eS : gI (toF r).2 (N : Int) * a.2 + dotI (toF r).2 a.1 = rowS a N (toF r) := rfl
  refine ⟨hp,hi.good (by decide),?_⟩
  unfold farkas_point_bound.fn
  rw [ecf,eS]
  change Rat (atR a.1.length x r) 92 _ _ at hm
  split
  · rename_i hneg
    have := hm.scale (-1)
    have e1 : -1 * (rowS a N (toF r) * -1) = rowS a N (toF r) := by omega
    have e2 : -1 * (a.2 * gI r.1.1 a.1.length) = -(gI r.1.1 a.1.length) * a.2 := by grind
    rw [e1,e2] at this
    exact ⟨this,by show 0 < -(gI r.1.1 a.1.length);omega⟩
  · rename_i hneg
    have e1 : rowS a N (toF r) * -1 = -(rowS a N (toF r)) := by omega
    rw [e1,Int.mul_comm a.2] at hm
    exact ⟨hm,by show 0 < gI r.1.1 a.1.length;omega⟩
end

/-- A ratio that may not be there,and the code's fraction. -/
def relO (a : farkas_point) : Option ref09_Ratio → Option farkas_fraction → Prop
  | none,none => True
  | some y,some f => Rat y 92 f.1 (f.2 * a.2) ∧ 0 < f.2
  | _,_ => False
theorem cmp_less {a : farkas_point} {y z : ref09_Ratio} {f g : farkas_fraction} (h1 : Rat y 92 f.1 (f.2 * a.2)) (h2 : Rat z 92 g.1 (g.2 * a.2)) (hf : 0 < f.2) (hg : 0 < g.2) (ha : 0 < a.2) :
    (ref09_Ratio_Cmp.fn y z > 0 ↔ farkas_fraction_less.fn g f = true) ∧ (ref09_Ratio_Cmp.fn y z < 0 ↔ farkas_fraction_less.fn f g = true) := by
  rw [cmp_rat h1 h2 (by decide) (by decide) (Int.mul_pos hf ha) (Int.mul_pos hg ha)]
  unfold farkas_fraction_less.fn
  simp only [decide_eq_true_eq]
  have e : f.1 * (g.2 * a.2) - g.1 * (f.2 * a.2) = (f.1 * g.2 - g.1 * f.2) * a.2 := by grind
  rw [e,sgn_gt,sgn_lt]
  generalize f.1 * g.2 = p
  generalize g.1 * f.2 = q
  constructor
  · constructor
    · intro h
      apply Classical.byContradiction
      intro h'
      have := Int.mul_nonneg (show 0 ≤ q - p by omega) (Int.le_of_lt ha)
      rw [Int.sub_mul] at this h;omega
    · intro h;exact Int.mul_pos (by omega) ha
  · constructor
    · intro h
      apply Classical.byContradiction
      intro h'
      have := Int.mul_nonneg (show 0 ≤ p - q by omega) (Int.le_of_lt ha)
      omega
    · intro h
      have := Int.mul_pos (show 0 < q - p by omega) ha
      rw [Int.sub_mul] at this ⊢;omega
/-- Both choose the same value. -/
theorem value_rel {a : farkas_point} {x : List ref09_Ratio} {N L : Nat} (ha : ptB a) (hx : relX a x) (hN : a.1.length < N) : ∀ (rows : List ref09_Row) (lo hi : Option ref09_Ratio) (lo' hi' : Option farkas_fraction), (∀ r ∈ rows, rowR N L r) → relO a lo lo' → relO a hi hi' →
    Rat (valueR a.1.length x rows lo hi) 92 (valueL a N (rows.map toF) lo' hi').1 ((valueL a N (rows.map toF) lo' hi').2 * a.2) ∧ 0 < (valueL a N (rows.map toF) lo' hi').2
  | [],some f,hi,some g,hi',_,h1,_ => h1
  | [],none,some f,none,some g,_,_,h2 => h2
  | [],none,none,none,none,_,_,_ => by
    have := (Rat.of (c := 0) ⟨by decide,by decide⟩).scale a.2
    rw [Int.mul_one,Int.mul_zero] at this
    refine ⟨?_,by show (0 : Int) < 1;decide⟩
    show Rat (ref09_Of.fn 0,ref09_Of.fn 1) 92 0 (1 * a.2)
    rw [Int.one_mul];exact this.mono (by decide)
  | [],some f,hi,none,hi',_,h1,_ => h1.elim
  | [],none,hi,some g,hi',_,h1,_ => h1.elim
  | [],none,some f,none,none,_,_,h2 => h2.elim
  | [],none,none,none,some g,_,_,h2 => h2.elim
  | r :: l,lo,hi,lo',hi',hr,h1,h2 => by
    have hr0 := hr r List.mem_cons_self
    have hr' : ∀ r ∈ l,rowR N L r := fun y hy => hr y (List.mem_cons_of_mem _ hy)
    have hrN := hr0.1.1
    have ha2 : 0 < a.2 := by have := ha.2.2.1;omega
    have ecf : gI (toF r).2 (a.1.length : Int) = gI r.1.1 a.1.length := toF_getC (by omega) (by omega)
    have e1 : (toF r).1 = r.2.1 := rfl
    rw [List.map_cons]
    unfold valueR valueL
    rw [ecf,e1]
    by_cases h0 : gI r.1.1 a.1.length = 0
    · simp only [if_pos h0]
      exact value_rel ha hx hN l lo hi lo' hi' hr' h1 h2
    · simp only [if_neg h0]
      obtain ⟨_,_,hat,hat0⟩ := at_rat ha hx hr0 hN h0
      by_cases hq : r.2.1 = true
      · simp only [if_pos hq];exact ⟨hat,hat0⟩
      · simp only [if_neg hq]
        by_cases hp : gI r.1.1 a.1.length > 0
        · simp only [if_pos hp]
          refine value_rel ha hx hN l _ hi _ hi' hr' ?_ h2
          cases lo with
          | none => cases lo' with
            | none => exact ⟨hat,hat0⟩
            | some g => exact h1.elim
          | some f => cases lo' with
            | none => exact h1.elim
            | some g =>
              obtain ⟨k1,k2⟩ := h1
              have hc := (cmp_less hat k1 hat0 k2 ha2).1
              simp only []
              by_cases hl : farkas_fraction_less.fn g (farkas_point_bound.fn a (toF r) N) = true
              · rw [if_pos (hc.2 hl),if_pos hl];exact ⟨hat,hat0⟩
              · rw [if_neg (fun h => hl (hc.1 h)),if_neg hl];exact ⟨k1,k2⟩
        · simp only [if_neg hp]
          refine value_rel ha hx hN l lo _ lo' _ hr' h1 ?_
          cases hi with
          | none => cases hi' with
            | none => exact ⟨hat,hat0⟩
            | some g => exact h2.elim
          | some f => cases hi' with
            | none => exact h2.elim
            | some g =>
              obtain ⟨k1,k2⟩ := h2
              have hc := (cmp_less hat k1 hat0 k2 ha2).2
              simp only []
              by_cases hl : farkas_fraction_less.fn (farkas_point_bound.fn a (toF r) N) g = true
              · rw [if_pos (hc.2 hl),if_pos hl];exact ⟨hat,hat0⟩
              · rw [if_neg (fun h => hl (hc.1 h)),if_neg hl];exact ⟨k1,k2⟩

/-- A ratio that may not be there,as the code keeps it. -/
def optR (b : Bool) (s : Bool) (n : List Int) (t : Bool) (d : List Int) : Option ref09_Ratio := if b then some ((s,n),(t,d)) else none
theorem ref09_value__own.spec (rows : List ref09_Row) (v : Int) (x : List ref09_Ratio) (h : ref09_value__own.pre rows v x) : ref09_value__own.wp rows v x (fun z => z = ref09_value__own.fn rows v x) := by
  obtain ⟨a,N,L,ha,hx,rfl,⟨hN,hL1,hL2⟩,hr⟩ := h
  have hN : a.1.length < N := by omega
  have hxl := hx.1
  have ha12 := ha.1
  intro _
  unfold ref09_value__own.fn
  generalize hR : valueR a.1.length x rows none none = R
  refine ⟨fun m x1 x2 x3 x4 x5 x6 x7 x8 x9 x10 i => ∃ k : Nat,i = (k : Int) ∧ m + k = rows.length ∧ (x1 = true → goodR ((x2,x3),(x4,x5))) ∧ (x6 = true → goodR ((x7,x8),(x9,x10))) ∧ R = valueR a.1.length x (rows.drop k) (optR x1 x2 x3 x4 x5) (optR x6 x7 x8 x9 x10),
    ⟨rows.length,0,rfl,rfl,(fun h => by cases h),(fun h => by cases h),hR.symm⟩,?_⟩
  clear hR
  rintro m x1 x2 x3 x4 x5 x6 x7 x8 x9 x10 i ⟨k,rfl,hm,hlo,hhi,hq⟩
  refine ⟨fun hi => ?_,fun hi => ?_⟩
  · have hk : k < rows.length := by omega
    have hrk := hr _ (getD_mem d_ref09_Row hk)
    refine ⟨⟨by omega,hi⟩,?_⟩
    rintro r hre
    rw [Int.toNat_natCast] at hre
    rw [drop_get d_ref09_Row hk,← hre] at hq
    rw [← hre] at hrk
    have hrN := hrk.1.1
    have hK : -1073741824 ≤ r.1.2 ∧ r.1.2 ≤ 1073741824 := hrk.2.1 _ (List.mem_append_right _ List.mem_cons_self)
    unfold valueR at hq
    refine ⟨⟨by omega,by omega⟩,fun hz => ⟨⟨by omega,by omega⟩,m - 1,by omega,k + 1,by omega,by omega,hlo,hhi,?_⟩,fun hz => ⟨⟨by omega,by omega⟩,⟨by decide,by decide⟩,?_⟩⟩
    · rw [if_pos hz] at hq;exact hq
    · rw [if_neg hz] at hq
      rintro o1 rfl
      rintro o2 rfl
      obtain ⟨hpi,hgi,hat,hat0⟩ := at_rat ha hx hrk hN hz
      refine ⟨fun m j s1 p s2 q => ∃ u : Nat,j = (u : Int) ∧ m + u = x.length ∧ ((s1,p),(s2,q)) = sumR r.1.1 (x.take u) 0 (ref09_Of.fn r.1.2,ref09_Of.fn 1),⟨x.length,0,rfl,rfl,rfl⟩,?_⟩
      rintro m2 j s1 p s2 q ⟨u,rfl,hm2,hu0⟩
      refine ⟨fun hj => ?_,fun hj => ?_⟩
      · have hu : u < x.length := by omega
        rw [Int.toNat_natCast,gI_nat]
        have hc : -1073741824 ≤ r.1.1.getD u 0 ∧ r.1.1.getD u 0 ≤ 1073741824 := hrk.2.1 _ (List.mem_append_left _ (getD_mem 0 (by omega)))
        have hy := (hx.2 u hu).rat ⟨by have := ha.2.2.1;omega,ha.2.2.2⟩ (ha.2.1 _ (getD_mem 0 (by omega)))
        have hof := Rat.of (c := r.1.1.getD u 0) ⟨by omega,by omega⟩
        have hmu := hy.mul hof (by decide) (by decide)
        have hsu := sum_rat ha hx hrk hN u (by omega)
        rw [hu0]
        refine ⟨⟨by omega,hj⟩,hu,?_⟩
        rintro y rfl
        refine ⟨⟨by omega,by omega⟩,⟨by omega,by omega⟩,⟨by decide,by decide⟩,⟨hy.good (by decide),hof.good (by decide)⟩,⟨hsu.good (by omega),hmu.good (by decide)⟩,?_⟩
        rintro y1 rfl
        rintro y2 rfl
        rintro y3 rfl
        rintro y4 rfl
        refine ⟨⟨by omega,by omega⟩,m2 - 1,by omega,u + 1,by omega,by omega,?_⟩
        rw [take_get d_ref09_Ratio hu,sumR_snoc,List.length_take,Nat.min_eq_left (by omega),Nat.zero_add]
      · have hu : u = x.length := by omega
        subst hu
        rw [List.take_of_length_le (Nat.le_refl _)] at hu0
        have hcf : -1073741824 ≤ gI r.1.1 a.1.length ∧ gI r.1.1 a.1.length ≤ 1073741824 := by
          rw [gI_nat];exact hrk.2.1 _ (List.mem_append_left _ (getD_mem 0 (by omega)))
        have hsg := (sum_all ha hx hrk hN).good (by decide)
        rw [hu0]
        have hatg := hat.good (by decide)
        refine ⟨⟨by decide,by decide⟩,⟨by omega,by omega⟩,hpi,⟨hsg,hgi⟩,?_⟩
        rintro t1 rfl
        rintro t2 rfl
        rintro t3 rfl
        rintro t4 ht4
        have ht4 : t4 = atR a.1.length x r := ht4
        rintro t5 rfl
        rintro t6 rfl
        rw [ht4]
        refine ⟨fun he => ?_,fun he => ⟨fun hc => by simpa using (Bool.and_eq_true_iff.1 hc).2,fun hc => ⟨hatg,hlo (by simpa using (Bool.and_eq_true_iff.1 hc).2)⟩,?_⟩⟩
        · rw [if_pos he] at hq;exact hq.symm
        rw [if_neg (by rw [he];simp)] at hq
        rintro c54 hc54
        refine ⟨fun hc => ⟨⟨by omega,by omega⟩,m - 1,by omega,k + 1,by omega,by omega,(fun _ => hatg),hhi,?_⟩,fun hc => ⟨fun hc => by simpa using (Bool.and_eq_true_iff.1 hc).2,fun hc => ⟨hatg,hhi (by simpa using (Bool.and_eq_true_iff.1 hc).2)⟩,?_⟩⟩
        · simp only [Bool.and_eq_true,decide_eq_true_eq] at hc
          rw [if_pos hc.1] at hq
          rw [hq]
          cases x1 with
          | false => rfl
          | true =>
            have hc2 : c54 > 0 := by simpa using hc.2
            show valueR _ _ _ (if ref09_Ratio_Cmp.fn (atR a.1.length x r) ((x2,x3),(x4,x5)) > 0 then some (atR a.1.length x r) else some ((x2,x3),(x4,x5))) _ = _
            rw [if_pos (by rw [hc54] at hc2;exact hc2)];rfl
        rintro c55 hc55
        refine ⟨fun hd => ⟨⟨by omega,by omega⟩,m - 1,by omega,k + 1,by omega,by omega,hlo,(fun _ => hatg),?_⟩,fun hd => ⟨⟨by omega,by omega⟩,m - 1,by omega,k + 1,by omega,by omega,hlo,hhi,?_⟩⟩
        · simp only [Bool.and_eq_true,decide_eq_true_eq] at hd
          rw [if_neg (by omega)] at hq
          rw [hq]
          cases x6 with
          | false => rfl
          | true =>
            have hc2 : c55 < 0 := by simpa using hd.2
            show valueR _ _ _ _ (if ref09_Ratio_Cmp.fn (atR a.1.length x r) ((x7,x8),(x9,x10)) < 0 then some (atR a.1.length x r) else some ((x7,x8),(x9,x10))) = _
            rw [if_pos (by rw [hc55] at hc2;exact hc2)];rfl
        · rw [hq]
          by_cases hp : gI r.1.1 a.1.length > 0
          · rw [if_pos hp]
            rw [decide_eq_true hp,Bool.true_and] at hc
            cases x1 with
            | false => cases hc
            | true =>
              have hc2 : ¬ c54 > 0 := by simpa using hc
              show valueR _ _ _ (if ref09_Ratio_Cmp.fn (atR a.1.length x r) ((x2,x3),(x4,x5)) > 0 then some (atR a.1.length x r) else some ((x2,x3),(x4,x5))) _ = _
              rw [if_neg (by rw [hc54] at hc2;exact hc2)];rfl
          · rw [if_neg hp]
            rw [decide_eq_true (show gI r.1.1 a.1.length < 0 by omega),Bool.true_and] at hd
            cases x6 with
            | false => cases hd
            | true =>
              have hc2 : ¬ c55 < 0 := by simpa using hd
              show valueR _ _ _ _ (if ref09_Ratio_Cmp.fn (atR a.1.length x r) ((x7,x8),(x9,x10)) < 0 then some (atR a.1.length x r) else some ((x7,x8),(x9,x10))) = _
              rw [if_neg (by rw [hc55] at hc2;exact hc2)];rfl
  · rw [List.drop_of_length_le (by omega)] at hq
    rw [hq]
    refine ⟨fun h => ⟨h,by subst h;rfl⟩,fun h => ⟨fun h2 => ⟨h2,by subst h;subst h2;rfl⟩,fun h2 => ⟨⟨by decide,by decide⟩,⟨by decide,by decide⟩,?_⟩⟩⟩
    rintro o1 rfl
    rintro o2 rfl
    subst h;subst h2;rfl
end Go.Proofs.Ytlncingakpelbaa

namespace Go.Proofs.Ytlncingakpelbaa
open Go
set_option linter.unusedVariables false

/-- The coordinates over the new denominator. -/
def ptsOf (a : farkas_point) (f : farkas_fraction) : List Int := a.1.map (fun x => x * Int.tdiv (lcmI (lowD f a.2) a.2) a.2) ++ [lowN f a.2 * Int.tdiv (lcmI (lowD f a.2) a.2) (lowD f a.2)]
theorem big_mul {x c : Int} (hc : 1 ≤ c) (h : bigI x = true) : bigI (x * c) = true := by
  simp only [bigI,Bool.or_eq_true,decide_eq_true_eq] at h ⊢
  rcases h with h | h
  · left
    have : x * 1 ≤ x * c := Int.mul_le_mul_of_nonneg_left hc (by omega)
    omega
  · right
    have : -x * 1 ≤ -x * c := Int.mul_le_mul_of_nonneg_left hc (by omega)
    simp only [Int.neg_mul] at this;omega
theorem with_all {a : farkas_point} {f : farkas_fraction} (h : farkas_point_with.pre a f) :
    farkas_point_with.fn a f = if (decide (lcmI (lowD f a.2) a.2 > 268435456) || (ptsOf a f).any bigI) = true then (([],0),3) else ((ptsOf a f,lcmI (lowD f a.2) a.2),0) := by
  obtain ⟨⟨h12,hx,d1,d2⟩,hf⟩ := h
  have L := low hf ⟨d1,d2⟩
  obtain ⟨k1,k2,k3,k4,k5⟩ := lcm_ok L.D.1 d1
  have hle : lowD f a.2 ≤ lcmI (lowD f a.2) a.2 := Int.le_of_dvd (by omega) k4
  have hd0 : Int.tdiv f.2 (gcdL [f.1,f.2]) ≤ lowD f a.2 := by
    have : 1 * Int.tdiv f.2 (gcdL [f.1,f.2]) ≤ lowD f a.2 := Int.mul_le_mul_of_nonneg_right L.q.1 (by have := L.d.1;omega)
    omega
  have hB := tdiv_pos k3 L.D.1 k4
  unfold farkas_point_with.fn
  by_cases c2 : lcmI (lowD f a.2) a.2 > 268435456
  · rw [if_pos (c := (decide (lcmI (lowD f a.2) a.2 > 268435456) || (ptsOf a f).any bigI) = true) (by rw [decide_eq_true c2];rfl)]
    split <;> rfl
  · rw [if_neg (by
      simp only [Bool.or_eq_true,decide_eq_true_eq]
      omega),if_neg c2,decide_eq_false c2,Bool.false_or]
    by_cases c3 : bigI (lowN f a.2) = true
    · rw [if_pos c3,if_pos]
      exact List.any_eq_true.2 ⟨_,List.mem_append_right _ (List.mem_singleton.2 rfl),big_mul hB c3⟩
    · rw [if_neg c3];rfl

theorem lcmI_nat {u w : Int} (hu : 1 ≤ u) (hw : 1 ≤ w) : lcmI u w = (Nat.lcm w.toNat u.toNat : Nat) := by
  unfold lcmI
  rw [gcdL_pair]
  obtain ⟨U,rfl⟩ : ∃ U : Nat,u = (U : Int) := ⟨u.toNat,by omega⟩
  obtain ⟨W,rfl⟩ : ∃ W : Nat,w = (W : Int) := ⟨w.toNat,by omega⟩
  simp only [Int.natAbs_natCast,Int.toNat_natCast]
  rw [← Int.ofNat_tdiv,← Int.natCast_mul]
  congr 1
  unfold Nat.lcm
  rw [Nat.gcd_comm U W]
  exact Nat.div_mul_right_comm (Nat.gcd_dvd_left W U) U

/-- The least common multiple of the first denominators. -/
def dnOf (x : List ref09_Ratio) : Nat := (x.map fun y => (vl y.2.2).toNat).foldl Nat.lcm 1
theorem dnOf_snoc (x : List ref09_Ratio) (y : ref09_Ratio) : dnOf (x ++ [y]) = Nat.lcm (dnOf x) (vl y.2.2).toNat := by
  unfold dnOf;rw [List.map_append,List.foldl_append];rfl
theorem dnOf_dvd (x : List ref09_Ratio) : ∀ k,k ≤ x.length → dnOf (x.take k) ∣ dnOf x := by
  intro k hk
  have : ∀ d j,j + d = x.length → dnOf (x.take j) ∣ dnOf x := by
    intro d
    induction d with
    | zero => intro j hj;rw [List.take_of_length_le (by omega)];exact Nat.dvd_refl _
    | succ d ih =>
      intro j hj
      refine Nat.dvd_trans ?_ (ih (j + 1) (by omega))
      rw [take_get d_ref09_Ratio (by omega),dnOf_snoc]
      exact Nat.dvd_lcm_left _ _
  exact this (x.length - k) k (by omega)
theorem dnOf_mem (x : List ref09_Ratio) {k : Nat} (hk : k < x.length) : (vl (x.getD k d_ref09_Ratio).2.2).toNat ∣ dnOf x := by
  refine Nat.dvd_trans ?_ (dnOf_dvd x (k + 1) hk)
  rw [take_get d_ref09_Ratio hk,dnOf_snoc]
  exact Nat.dvd_lcm_right _ _

theorem dz_small {v : Int} (k : Nat) (h0 : 0 ≤ v) (h : v < 65536 ^ k) : can (dz v) ∧ (dz v).length ≤ k := ⟨can_dz v,dz_len h0 h⟩
theorem low_eq {f : farkas_fraction} {e : Int} (hf : frB f) (he : 1 ≤ e ∧ e ≤ 268435456) : lowN f e * (f.2 * e) = f.1 * lowD f e := by
  have L := low hf he
  have g1 := tdiv_mul (x := f.1) (g := gcdL [f.1,f.2]) (gcdL_dvd (by simp))
  have g2 := tdiv_mul (x := f.2) (g := gcdL [f.1,f.2]) (gcdL_dvd (by simp))
  have g3 := tdiv_mul (x := Int.tdiv f.1 (gcdL [f.1,f.2])) (g := gcdL [Int.tdiv f.1 (gcdL [f.1,f.2]),e]) (gcdL_dvd (by simp))
  have g4 := tdiv_mul (x := e) (g := gcdL [Int.tdiv f.1 (gcdL [f.1,f.2]),e]) (gcdL_dvd (by simp))
  unfold lowN lowD
  generalize gcdL [Int.tdiv f.1 (gcdL [f.1,f.2]),e] = h at *
  generalize Int.tdiv f.1 (gcdL [f.1,f.2]) = n0 at *
  generalize Int.tdiv f.2 (gcdL [f.1,f.2]) = d0 at *
  generalize gcdL [f.1,f.2] = g at *
  generalize Int.tdiv e h = q at *
  generalize Int.tdiv n0 h = m at *
  rw [← g1,← g2,← g4]
  have : n0 = m * h := g3.symm
  rw [this];grind

/-- What one round reckons: the ratios,the new denominator,the coordinates. -/
structure Round (a : farkas_point) (f : farkas_fraction) (x : List ref09_Ratio) (D : Int) : Prop where
  len : x.length = a.1.length + 1
  dn : (dnOf x : Int) = D ∧ D = lcmI (lowD f a.2) a.2 ∧ 0 < D ∧ D ≤ 77371252455336267181195264
  part : ∀ u,u ≤ a.1.length → 0 < dnOf (x.take u) ∧ dnOf (x.take u) ≤ 268435456
  rat : ∀ i,i < x.length → Rat (x.getD i d_ref09_Ratio) 92 ((ptsOf a f).getD i 0) D
  den : ∀ i,i < x.length → vl (x.getD i d_ref09_Ratio).2.2 ∣ D
  pts : ∀ i,i < x.length → iv (x.getD i d_ref09_Ratio).1 * (D / vl (x.getD i d_ref09_Ratio).2.2) = (ptsOf a f).getD i 0

theorem round_ok {a : farkas_point} {f : farkas_fraction} {x : List ref09_Ratio} {y : ref09_Ratio} (ha : ptB a) (hf : frB f) (hx : relX a x) (hd : (dnOf x : Int) = a.2) (hy : Rat y 92 f.1 (f.2 * a.2)) : Round a f (x ++ [y]) (lcmI (lowD f a.2) a.2) := by
  obtain ⟨h12,hb,d1,d2⟩ := ha
  have L := low hf ⟨d1,d2⟩
  have LD := L.D
  obtain ⟨k1,k2,k3,k4,k5⟩ := lcm_ok LD.1 d1
  have hlp := low_prime L
  rw [gcdL_pair] at hlp
  have hlp : Nat.gcd (lowN f a.2).natAbs (lowD f a.2).natAbs = 1 := by omega
  have hfq : 0 < f.2 * a.2 := Int.mul_pos (by have := hf.2.1;omega) (by omega)
  obtain ⟨yN,yD⟩ := hy.eq hfq (by omega) hlp (low_eq hf ⟨d1,d2⟩)
  have hxl := hx.1
  have hle : lcmI (lowD f a.2) a.2 ≤ 77371252455336267181195264 := by
    unfold lcmI
    have b1 := tdiv_bound (B := 268435456) (x := a.2) k1 ⟨by omega,d2⟩
    have := mul_bound (A := 268435456) (B := 288230376151711744) b1.1 b1.2 (b := lowD f a.2) (by omega) LD.2
    omega
  have gl : ∀ i,i < x.length → (x ++ [y]).getD i d_ref09_Ratio = x.getD i d_ref09_Ratio := fun i hi => by simp only [List.getD_eq_getElem?_getD];rw [List.getElem?_append_left hi]
  have gy : (x ++ [y]).getD x.length d_ref09_Ratio = y := by simp [List.getD_eq_getElem?_getD]
  have pl : ∀ i,i < x.length → (ptsOf a f).getD i 0 = a.1.getD i 0 * Int.tdiv (lcmI (lowD f a.2) a.2) a.2 := fun i hi => by
    unfold ptsOf
    simp only [List.getD_eq_getElem?_getD]
    rw [List.getElem?_append_left (by rw [List.length_map];omega),List.getElem?_map,List.getElem?_eq_getElem (by omega)];rfl
  have py : (ptsOf a f).getD x.length 0 = lowN f a.2 * Int.tdiv (lcmI (lowD f a.2) a.2) (lowD f a.2) := by
    unfold ptsOf
    simp only [List.getD_eq_getElem?_getD]
    rw [List.getElem?_append_right (by rw [List.length_map];omega),List.length_map,hxl,Nat.sub_self];rfl
  have mA := tdiv_mul k5
  have mB := tdiv_mul k4
  have hdn : (dnOf (x ++ [y]) : Int) = lcmI (lowD f a.2) a.2 := by
    rw [dnOf_snoc,lcmI_nat LD.1 d1,yD]
    congr 2
    omega
  have hrat : ∀ i,i < (x ++ [y]).length → Rat ((x ++ [y]).getD i d_ref09_Ratio) 92 ((ptsOf a f).getD i 0) (lcmI (lowD f a.2) a.2) := fun i hi => by
    rw [List.length_append,List.length_singleton] at hi
    by_cases e : i = x.length
    · subst e
      rw [gy,py]
      refine ⟨hy.c,hy.l,hy.s,hy.g,?_⟩
      rw [yN,yD,Int.mul_assoc,mB]
    · rw [gl i (by omega),pl i (by omega)]
      have := ((hx.2 i (by omega)).rat ⟨by omega,d2⟩ (hb _ (getD_mem 0 (by omega)))).scale (Int.tdiv (lcmI (lowD f a.2) a.2) a.2)
      rw [mA,Int.mul_comm _ (a.1.getD i 0)] at this
      exact this.mono (by decide)
  have hden : ∀ i,i < (x ++ [y]).length → vl ((x ++ [y]).getD i d_ref09_Ratio).2.2 ∣ lcmI (lowD f a.2) a.2 := fun i hi => ((hrat i hi).le (by omega)).1.1
  refine ⟨by rw [List.length_append,hxl];rfl,⟨hdn,rfl,by omega,hle⟩,fun u hu => ?_,hrat,hden,fun i hi => ?_⟩
  · rw [List.take_append_of_le_length (by omega)]
    have hdv := dnOf_dvd x u (by omega)
    have hpos : 0 < dnOf x := by omega
    have hle2 := Nat.le_of_dvd hpos hdv
    have : 0 < dnOf (x.take u) := Nat.pos_of_dvd_of_pos hdv hpos
    omega
  · have hv := (hrat i hi).v
    have hs := (hrat i hi).s.2
    have hdv := hden i hi
    generalize vl ((x ++ [y]).getD i d_ref09_Ratio).2.2 = E at *
    generalize lcmI (lowD f a.2) a.2 = D at *
    have e := Int.ediv_mul_cancel hdv
    refine Int.eq_of_mul_eq_mul_right (a := E) (by omega) ?_
    rw [Int.mul_assoc,e];exact hv

theorem ref09_Inner.spec (p : List api_Cond) (n : Int) : ref09_Inner.wp p n (fun x => x = ref09_Inner.fn p n) := by
  unfold ref09_Inner.wp ref09_Inner.fn farkas_Inner.fn
  rintro e rfl
  have ea : ref09_asked.fn p n = farkas_asked.fn p n := rfl
  rw [ea]
  refine ⟨fun he => by rw [if_pos he],fun he => ⟨he,?_⟩⟩
  rw [if_neg (by rw [he];simp)]
  rintro q hq
  unfold ref09_stack.fn at hq
  by_cases h0 : (farkas_eliminated.fn p n).2 ≠ 0
  · rw [if_pos h0] at hq
    rw [hq,if_pos h0]
    exact ⟨fun _ => rfl,fun h => absurd h h0⟩
  · rw [if_neg h0] at hq
    rw [if_neg h0]
    have h0' := Classical.byContradiction h0
    obtain ⟨hn,h96,hv⟩ := asked_ok he
    obtain ⟨N,rfl⟩ : ∃ N : Nat,n = (N : Int) := ⟨n.toNat,by omega⟩
    obtain ⟨e1,e2,e3,e4⟩ := eliminated_ok he h0'
    have hredAll := fun j (hj : j ≤ N) => tables_reduced he h0' (j := j) (by simpa using hj)
    rw [Int.toNat_natCast] at hq e1 e3 ⊢
    generalize (farkas_eliminated.fn p (N : Int)).1 = ts at *
    have hT := e3 0 (Nat.zero_le _)
    obtain ⟨r1,r2,r3⟩ := rows_ok (N := N) hT.1 hT.2 (hredAll 0 (Nat.zero_le _))
    rw [hq]
    refine ⟨fun h => absurd rfl h,fun _ => ⟨fun r hr => ?_,?_⟩⟩
    · have h1 := r1 r hr
      have h2 := toF_len r
      have hL := hT.1.1.2.2
      refine ⟨by omega,fun x hx => h1.2.1 x ?_⟩
      exact List.mem_append_right _ (List.mem_cons_of_mem _ hx)
    · have hre : ref09_refuted.fn ((ts.getD 0 d_farkas_table).2.map (ofF N)) = farkas_table_refuted.fn (ts.getD 0 d_farkas_table) := by
        unfold ref09_refuted.fn farkas_table_refuted.fn
        rw [refuteR_eq hn.1 _ (fun r hr => by rw [(r1 r hr).1.1]),r2,hT.2]
      rintro w hw
      have hw : w = farkas_table_refuted.fn (ts.getD 0 d_farkas_table) := by rw [hw];exact hre
      rw [← hw]
      refine ⟨fun h => by rw [if_pos h],fun h => ?_⟩
      rw [if_neg (by rw [h];simp)]
      generalize hR : innerL ts N 0 ([],1) = R
      simp only []
      refine ⟨fun m out d v x => ∃ (k : Nat) (a : farkas_point),v = (k : Int) ∧ m + k = N ∧ out = a.1 ∧ d = a.2 ∧ ptB a ∧ a.1.length = k ∧ relX a x ∧ (dnOf x : Int) = a.2 ∧ R = innerL ts m k a,
        ⟨N,0,([],1),rfl,rfl,rfl,rfl,⟨by decide,by decide,by decide,by decide⟩,rfl,⟨rfl,fun i hi => by simp at hi⟩,rfl,hR.symm⟩,?_⟩
      clear hR
      rintro m out d v x ⟨k,a,rfl,hm,rfl,rfl,ha,hk,hx,hd,hR⟩
      refine ⟨fun hi => ?_,fun hi => ?_⟩
      · have hkN : k < N := by omega
        have T := e3 (k + 1) (by omega)
        obtain ⟨s1,s2⟩ := inner_step (a := a) (n := (N : Int)) (k := k) (by omega) hn.2 T ha hk
        have hf := value_ok s1
        obtain ⟨q1,q2,q3⟩ := rows_ok (N := N) T.1 T.2 (hredAll (k + 1) (by omega))
        have hget : ((ts.drop 1).map fun t => t.2.map (ofF N)).getD k [] = (ts.getD (k + 1) d_farkas_table).2.map (ofF N) := by
          simp only [List.getD_eq_getElem?_getD,List.getElem?_map,List.getElem?_drop]
          rw [Nat.add_comm 1 k,List.getElem?_eq_getElem (by omega)];rfl
        rw [Int.toNat_natCast,hget]
        have hxl := hx.1
        have h12 := ha.1
        have hy := (value_rel (N := N) ha hx (by omega) ((ts.getD (k + 1) d_farkas_table).2.map (ofF N)) none none none none q1 trivial trivial).1
        rw [q2] at hy
        have hfv : farkas_point_value.fn a (ts.getD (k + 1) d_farkas_table) = valueL a N (ts.getD (k + 1) d_farkas_table).2 none none := by
          unfold farkas_point_value.fn;rw [T.2]
        rw [← hfv] at hy
        have hpre : ref09_value__own.pre ((ts.getD (k + 1) d_farkas_table).2.map (ofF N)) (k : Int) x := ⟨a,N,_,ha,hx,by rw [hk],⟨by omega,q3,T.1.1.2.2⟩,q1⟩
        have hyv : ref09_value__own.fn ((ts.getD (k + 1) d_farkas_table).2.map (ofF N)) (k : Int) x = valueR a.1.length x ((ts.getD (k + 1) d_farkas_table).2.map (ofF N)) none none := by
          unfold ref09_value__own.fn;rw [hk]
        rw [← hyv] at hy
        have hround := round_ok ha hf hx hd hy
        have hwith := with_all s2
        obtain ⟨m',rfl⟩ : ∃ m',m = m' + 1 := ⟨m - 1,by omega⟩
        unfold innerL at hR
        generalize farkas_point_value.fn a (ts.getD (k + 1) d_farkas_table) = f at *
        generalize ref09_value__own.fn ((ts.getD (k + 1) d_farkas_table).2.map (ofF N)) (k : Int) x = y at *
        refine ⟨⟨by omega,by rw [List.length_map,List.length_drop,e1];omega⟩,hpre,⟨?_,?_⟩,?_⟩
        · rw [List.length_singleton];omega
        · rw [List.length_singleton];omega
        rintro x' hx'
        rw [← hx'] at hround
        obtain ⟨c1,⟨c2,c2',c2p,c2b⟩,c3,c4,c5,c6⟩ := hround
        rw [← c2'] at hwith
        generalize lcmI (lowD f a.2) a.2 = D at *
        have hpl : (ptsOf a f).length = x'.length := by unfold ptsOf;rw [List.length_append,List.length_map,c1];rfl
        generalize ptsOf a f = pts at *
        refine ⟨⟨by decide,by decide⟩,?_⟩
        rintro o1 rfl
        have hp4 : (65536 : Int) ^ 8 = 340282366920938463463374607431768211456 := by decide
        refine ⟨fun m j s den => ∃ u : Nat,j = (u : Int) ∧ m + u = x'.length ∧ s = false ∧ den = dz (dnOf (x'.take u) : Int),⟨x'.length,0,rfl,rfl,rfl,rfl⟩,?_⟩
        rintro m2 j s den ⟨u,rfl,hm2,rfl,rfl⟩
        refine ⟨fun hj => ?_,fun hj => ?_⟩
        · have hu : u < x'.length := by omega
          rw [Int.toNat_natCast]
          have hru := c4 u hu
          have hpu := c3 u (by omega)
          obtain ⟨dc,dl⟩ := dz_small (v := (dnOf (x'.take u) : Int)) 8 (by omega) (by omega)
          refine ⟨⟨by omega,hj⟩,hu,?_⟩
          rintro z rfl
          have hD := hru.s.2
          have hdc := hru.c.2
          have hdl := hru.l.2
          have hmul := mul_len (x := (false,dz (dnOf (x'.take u) : Int))) (y := (x'.getD u d_ref09_Ratio).2) dc hdc (k := 100) (by show (dz _).length + _ ≤ _;omega)
          obtain ⟨g1,g2,g3⟩ := gcd_ok (false,dz (dnOf (x'.take u) : Int)) (x'.getD u d_ref09_Ratio).2
          have eden : vl (dz (dnOf (x'.take u) : Int)) = (dnOf (x'.take u) : Int) := vl_dz (by omega)
          have hgp : 0 < vl (ref09_Gcd.fn (false,dz (dnOf (x'.take u) : Int)) (x'.getD u d_ref09_Ratio).2).2 := by
            rw [g2]
            show 0 < ((Nat.gcd (vl (dz (dnOf (x'.take u) : Int))).toNat _ : Nat) : Int)
            rw [eden]
            have := Nat.gcd_pos_of_pos_left (vl (x'.getD u d_ref09_Ratio).2.2).toNat (show 0 < ((dnOf (x'.take u) : Int)).toNat by omega)
            omega
          have hgl : (ref09_Gcd.fn (false,dz (dnOf (x'.take u) : Int)) (x'.getD u d_ref09_Ratio).2).2.length ≤ 8 := by
            have hle : vl (ref09_Gcd.fn (false,dz (dnOf (x'.take u) : Int)) (x'.getD u d_ref09_Ratio).2).2 ≤ 268435456 := by
              rw [g2]
              show ((Nat.gcd (vl (dz (dnOf (x'.take u) : Int))).toNat _ : Nat) : Int) ≤ _
              rw [eden]
              have := Nat.gcd_le_left (vl (x'.getD u d_ref09_Ratio).2.2).toNat (show 0 < ((dnOf (x'.take u) : Int)).toNat by omega)
              omega
            have := dz_len (k := 8) (by omega) (show vl (ref09_Gcd.fn (false,dz (dnOf (x'.take u) : Int)) (x'.getD u d_ref09_Ratio).2).2 < 65536 ^ 8 by omega)
            rwa [g1.2] at this
          refine ⟨⟨dc.1,hdc.1,by show (dz _).length ≤ _;omega,by omega⟩,⟨⟨dc,by show (dz _).length ≤ _;omega⟩,hdc,by omega⟩,⟨⟨can_dz _,by omega⟩,⟨g1,by omega⟩,g3,hgp⟩,?_⟩
          rintro w1 rfl
          rintro w2 rfl
          rintro w3 rfl
          rintro w4 rfl
          refine ⟨⟨by omega,by omega⟩,m2 - 1,by omega,u + 1,by omega,by omega,?_,?_⟩
          · show ((false : Bool) != (x'.getD u d_ref09_Ratio).2.1) = false
            rw [hru.s.1];rfl
          · show dz (vl (dz (vl (dz (dnOf (x'.take u) : Int)) * vl (x'.getD u d_ref09_Ratio).2.2)) / vl (ref09_Gcd.fn (false,dz (dnOf (x'.take u) : Int)) (x'.getD u d_ref09_Ratio).2).2) = _
            rw [eden,vl_dz (Int.mul_nonneg (by omega) (by omega)),g2,take_get d_ref09_Ratio hu,dnOf_snoc]
            congr 1
            have eE : vl (x'.getD u d_ref09_Ratio).2.2 = ((vl (x'.getD u d_ref09_Ratio).2.2).toNat : Int) := by omega
            have eG : (vl (false,dz (dnOf (x'.take u) : Int)).2).toNat = dnOf (x'.take u) := by show (vl (dz (dnOf (x'.take u) : Int))).toNat = _;rw [eden];omega
            rw [eG,eE]
            simp only [Int.toNat_natCast]
            rw [← Int.natCast_mul]
            rfl
        · have hu : u = x'.length := by omega
          subst hu
          rw [List.take_of_length_le (Nat.le_refl _),c2]
          obtain ⟨dc,dl⟩ := dz_small (v := D) 8 (by omega) (by omega)
          have eD : vl (dz D) = D := vl_dz (by omega)
          refine ⟨⟨dc,by show (dz D).length ≤ _;omega⟩,?_⟩
          rintro sm hsm
          have hsm : sm = if D > 268435456 then (0,false) else (D,true) := by
            rw [hsm]
            unfold ref09_Int_Small.fn iv
            simp only [eD,Bool.false_eq_true,if_false]
          rintro d0 hd0
          refine ⟨fun m ok j out => ∃ u : Nat,j = (u : Int) ∧ m + u = x'.length ∧ ok = (sm.2 && !((pts.take u).any bigI)) ∧ out.length = u ∧ ((pts.take u).any bigI = false → out = pts.take u),⟨x'.length,0,rfl,rfl,by simp,rfl,fun _ => rfl⟩,?_⟩
          rintro m3 ok j out ⟨u,rfl,hm3,rfl,hol,hout⟩
          refine ⟨fun hj => ?_,fun hj => ?_⟩
          · have hu : u < x'.length := by omega
            rw [Int.toNat_natCast]
            have hru := c4 u hu
            have hD := hru.s.2
            have hc6 := c6 u hu
            have htk := take_get (0 : Int) (l := pts) (k := u) (by omega)
            refine ⟨⟨by omega,hj⟩,hu,?_⟩
            rintro z rfl
            obtain ⟨o1,o2,o3,o4⟩ := over_ok (x := (false,dz D)) (y := (x'.getD u d_ref09_Ratio).2) dc hD
            rw [show vl ((false,dz D) : ref09_Int).2 = D from eD] at o3
            have o2 : (ref09_Int_Over.fn (false,dz D) (x'.getD u d_ref09_Ratio).2).2.length ≤ 8 := Nat.le_trans o2 dl
            have hml := mul_len (x := (x'.getD u d_ref09_Ratio).1) (y := ref09_Int_Over.fn (false,dz D) (x'.getD u d_ref09_Ratio).2) hru.c.1 o1 (k := 100) (by have := hru.l.1;omega)
            have hiv := iv_mul (x := (x'.getD u d_ref09_Ratio).1) (y := ref09_Int_Over.fn (false,dz D) (x'.getD u d_ref09_Ratio).2) hru.c.1 o1
            have hov : iv (ref09_Int_Over.fn (false,dz D) (x'.getD u d_ref09_Ratio).2) = D / vl (x'.getD u d_ref09_Ratio).2.2 := by
              unfold iv;rw [o4,o3];simp
            rw [hov,hc6] at hiv
            refine ⟨⟨⟨dc,by show (dz D).length ≤ _;omega⟩,⟨hru.c.2,by have := hru.l.2;omega⟩,hru.s.1,hD⟩,⟨hru.c.1.1,o1.1,by have := hru.l.1;omega,by omega⟩,⟨hiv.2,by omega⟩,?_⟩
            rintro w1 rfl
            rintro w2 rfl
            rintro w3 hw3
            have hvl := vl_iv _ hiv.2
            rw [hiv.1] at hvl
            have hw3 : w3 = if bigI (pts.getD u 0) = true then (0,false) else (pts.getD u 0,true) := by
              rw [hw3]
              unfold ref09_Int_Small.fn
              rw [hiv.1,hvl]
              by_cases hb : bigI (pts.getD u 0) = true
              · rw [if_pos hb,if_pos]
                simp only [bigI,Bool.or_eq_true,decide_eq_true_eq] at hb;omega
              · rw [if_neg hb,if_neg]
                simp only [bigI,Bool.or_eq_true,decide_eq_true_eq] at hb;omega
            rintro w4 rfl
            refine ⟨⟨?_,?_⟩,⟨by omega,by omega⟩,m3 - 1,by omega,u + 1,by omega,by omega,?_,?_,?_⟩
            · rw [List.length_singleton];omega
            · rw [List.length_singleton];omega
            · rw [htk,List.any_append,hw3]
              cases hb : bigI (pts.getD u 0) with
              | true => simp only [List.any_cons,List.any_nil,hb,Bool.or_false,Bool.or_true,Bool.not_true,Bool.and_false,if_true]
              | false => simp only [List.any_cons,List.any_nil,hb,Bool.or_false,Bool.false_eq_true,if_false,Bool.and_true]
            · rw [List.length_append,List.length_singleton,hol]
            · intro hno
              rw [htk,List.any_append,Bool.or_eq_false_iff] at hno
              have hb : bigI (pts.getD u 0) = false := by simpa using hno.2
              rw [htk,hout hno.1,hw3,hb];rfl
          · have hu : u = x'.length := by omega
            rw [List.take_of_length_le (by omega)] at hout ⊢
            have hcond : (sm.2 && !(pts.any bigI)) = !(decide (D > 268435456) || pts.any bigI) := by
              rw [hsm]
              by_cases hD : D > 268435456
              · rw [if_pos hD,decide_eq_true hD];rfl
              · rw [if_neg hD,decide_eq_false hD];rfl
            rw [hcond]
            refine ⟨fun hbad => ?_,fun hgood => ?_⟩
            · have hbad : (decide (D > 268435456) || pts.any bigI) = true := by
                cases hh : (decide (D > 268435456) || pts.any bigI) with
                | true => rfl
                | false => rw [hh] at hbad;cases hbad
              rw [if_pos hbad] at hwith
              rw [hR,hwith]
              rfl
            · have hgood : (decide (D > 268435456) || pts.any bigI) = false := by
                cases hh : (decide (D > 268435456) || pts.any bigI) with
                | false => rfl
                | true => rw [hh] at hgood;cases hgood
              rw [if_neg (by rw [hgood];simp)] at hwith
              obtain ⟨w1,w2,w3,w4⟩ := with_ok s2 (by rw [hwith])
              rw [hwith] at w2 w3 w4 hR
              simp only [Bool.or_eq_false_iff,decide_eq_false_iff_not] at hgood
              refine ⟨⟨by omega,by omega⟩,m',by omega,k + 1,(pts,D),by omega,by omega,hout hgood.2,?_,⟨?_,w2,w3⟩,?_,⟨?_,fun i hi => ?_⟩,c2,?_⟩
              · rw [hd0,hsm,if_neg hgood.1]
              · show pts.length ≤ 12;omega
              · show pts.length = k + 1;omega
              · exact hpl.symm
              · have := c4 i hi
                exact ⟨⟨this.c,this.s⟩,this.g,this.v⟩
              · rw [hR];simp
      · have : m = 0 := by omega
        subst this
        exact hR.symm
open Go.ChangeShapes Go.WideShapes Go.ChangeAt Go.RowKit

/-! ## The arguments of a law: what is read is a datum -/
/-- Numbers fit their kinds,lists and texts are not longer than what may be. -/
def Wf : (T : Ty) → T.den → Prop
  | .int k,n => (Lit.int k n).wf = true
  | .bool,_ => True
  | .str,s => ByteArray.size s ≤ maxLen
  | .sl T,l => List.length (α := T.den) l ≤ maxLen ∧ ∀ x ∈ (l : List T.den),Wf T x
  | .pair a b,x => Wf a x.1 ∧ Wf b x.2
  | .unit,_ => True

/-- The fields of a struct,from an offset on,are the parts of a nested pair. -/
def FitS (P : Program) (F : TypeId → Ty → Prop) : Nat → List Field → Ty → Prop
  | o,[f],T => f.offset = o ∧ P.cellsOf f.type = T.size ∧ F f.type T
  | o,f :: fs,.pair A B => f.offset = o ∧ P.cellsOf f.type = A.size ∧ F f.type A ∧ FitS P F (o + A.size) fs B
  | _,_,_ => False

/-- The type t is coded by T. -/
def Fit (P : Program) : Nat → TypeId → Ty → Prop
  | 0,_,_ => False
  | n + 1,t,T => (match T with
    | .int k => P.underlying t = some (.int k)
    | .bool => P.underlying t = some .bool
    | .str => P.underlying t = some .string
    | .sl T => ∃ e,P.underlying t = some (.slice e) ∧ P.cellsOf e = T.size ∧ 0 < T.size ∧ Fit P n e T
    | _ => False) ∨ ∃ fs,P.underlying t = some (.struct fs) ∧ P.cellsOf t = T.size ∧ FitS P (Fit P n) 0 fs.toList T

section
variable {H : Type} {enc : TypeId × Value → H} {P : Program} {W : World} {held : Bool}

abbrev stab (W : World) : Nat → Prop := fun b => b < W.heap.size

theorem list_of {α : Type} {p : Nat → α → Prop} : ∀ n : Nat,(∀ i,i < n → ∃ y,p i y) → ∃ l : List α,l.length = n ∧ ∀ i y,l[i]? = some y → p i y
  | 0,_ => ⟨[],rfl,fun i y h => by simp at h⟩
  | n + 1,h => by
    obtain ⟨l,hl,hp⟩ := list_of n fun i hi => h i (by omega)
    obtain ⟨y,hy⟩ := h n (by omega)
    refine ⟨l ++ [y],by simp [hl],fun i z hz => ?_⟩
    by_cases e : i < l.length
    · rw [List.getElem?_append_left e] at hz;exact hp i z hz
    · rw [List.getElem?_append_right (by omega)] at hz
      have : i = l.length := by
        have := (List.getElem?_eq_some_iff.1 hz).1
        simp at this;omega
      subst this
      simp at hz
      subst hz
      rw [hl];exact hy

theorem openS {F : TypeId → Ty → Prop} {m : Nat} (hF : ∀ t T, F t T → ∀ cs x, DataW.trod enc P W 0 (fun _ => true) held m t cs = some x → ∃ y : T.den, Cells W (stab W) T y cs ∧ Wf T y) :
    ∀ {fs : List Field} {o : Nat} {T : Ty} {cs : List Value},FitS P F o fs T → (∀ f ∈ fs,∃ x,DataW.trod enc P W 0 (fun _ => true) held m f.type ((cs.drop f.offset).take (P.cellsOf f.type)) = some x) → cs.length = o + T.size →
      ∃ y : T.den,Cells W (stab W) T y (cs.drop o) ∧ Wf T y
  | [],o,T,cs,h,_,_ => by unfold FitS at h;exact h.elim
  | [f],o,T,cs,h,hx,hl => by
    have h' : f.offset = o ∧ P.cellsOf f.type = T.size ∧ F f.type T := by unfold FitS at h;exact h
    obtain ⟨h1,h2,h3⟩ := h'
    obtain ⟨x,hx⟩ := hx f (by simp)
    rw [h1,h2,List.take_of_length_le (by rw [List.length_drop];omega)] at hx
    exact hF _ _ h3 _ _ hx
  | f :: g :: fs,o,T,cs,h,hx,hl => by
    cases T <;> unfold FitS at h <;> try exact h.elim
    rename_i A B
    obtain ⟨h1,h2,h3,h4⟩ := h
    have hl' : cs.length = o + A.size + B.size := by rw [hl];simp only [Ty.size];omega
    obtain ⟨b,hb,hwb⟩ := openS hF (cs := cs) h4 (fun f hf => hx f (by simp [List.mem_cons.1 hf])) hl'
    obtain ⟨x,hx⟩ := hx f (by simp)
    rw [h1,h2] at hx
    obtain ⟨a,ha,hwa⟩ := hF _ _ h3 _ _ hx
    refine ⟨(a,b),⟨_,_,?_,ha,hb⟩,hwa,hwb⟩
    rw [← List.drop_drop,List.take_append_drop]

theorem cells_at {base : Nat} {a : Addr} {n : Nat} {cs : List Value} (h : W.cells? base a n = some cs) (hn : 0 < n) : a.spot = none ∧ a.block < W.heap.size ∧ cs.length = n ∧ ∀ j u,cs[j]? = some u → W.cell? ⟨a.block,a.off + j,none⟩ = some u := by
  obtain ⟨_,hl,hc⟩ := World.cells?_some h
  have h0 := hc 0 hn
  rw [List.getElem?_eq_getElem (by omega : 0 < cs.length)] at h0
  simp only [Addr.add,if_true,World.cell?] at h0
  have hs : a.spot = none ∧ a.block < W.heap.size := by
    split at h0
    · rename_i hb
      refine ⟨?_,(Array.getElem?_eq_some_iff.1 hb).1⟩
      split at h0
      · cases h0
      · rename_i hs;simpa using hs
    · cases h0
  refine ⟨hs.1,hs.2,hl,fun j u hj => ?_⟩
  have hjl : j < n := by rw [← hl];exact (List.getElem?_eq_some_iff.1 hj).1
  rw [← hj,← hc j hjl]
  obtain ⟨b,off,sp⟩ := a
  simp only at hs
  rw [hs.1]
  unfold Addr.add
  split
  · rename_i e;subst e;rfl
  · rfl

theorem open_T : ∀ (n : Nat) {t : TypeId} {T : Ty},Fit P n t T → ∀ (fuel : Nat) (cs : List Value) (x : DataW H × List MemPlace),DataW.trod enc P W 0 (fun _ => true) held fuel t cs = some x → ∃ y : T.den,Cells W (stab W) T y cs ∧ Wf T y
  | 0,_,_,h,_,_,_,_ => h.elim
  | n + 1,t,T,h,fuel,cs,x,hx => by
    unfold Fit at h
    rcases h with h | ⟨fs,h1,h2,h3⟩
    · cases T with
      | int k =>
        obtain ⟨z,rfl,_,hw⟩ := DataW.trod_int h hx
        exact ⟨z,rfl,hw⟩
      | bool =>
        obtain ⟨z,rfl,_⟩ := DataW.trod_bool h hx
        exact ⟨z,rfl,trivial⟩
      | str =>
        obtain ⟨z,rfl,_,hw⟩ := DataW.trod_string h hx
        exact ⟨z,rfl,hw⟩
      | sl T =>
        obtain ⟨e,h1,h2,h3,h4⟩ := h
        rcases DataW.trod_slice h1 hx with ⟨rfl,_⟩ | ⟨a,len,cap,elems,rest,m,_,rfl,_,_,hl,hm,hlen,hel,_,_⟩
        · exact ⟨[],⟨none,0,rfl,⟨Nat.le_refl _,Nat.zero_le _⟩,fun h => absurd rfl h⟩,Nat.zero_le _,fun x hx => by cases hx⟩
        · have each : ∀ i,i < len → ∃ y : T.den,(a.block < W.heap.size ∧ (len ≠ 0 → a.spot = none) ∧ ∃ cs',Cells W (stab W) T y cs' ∧ ∀ j u,cs'[j]? = some u → W.cell? ⟨a.block,a.off + i * T.size + j,none⟩ = some u) ∧ Wf T y := by
            intro i hi
            have h5 := hel i hi
            rw [List.getElem?_eq_getElem (by omega : i < elems.length),Option.bind_eq_some_iff] at h5
            obtain ⟨cs',h6,h7⟩ := h5
            rw [h2] at h6
            obtain ⟨y,hy,hw⟩ := open_T n h4 _ _ _ h7
            obtain ⟨k1,k2,k3,k4⟩ := cells_at h6 h3
            have hb : (a.add (i * T.size)).block = a.block := by unfold Addr.add;split <;> rfl
            have ho : (a.add (i * T.size)).off = a.off + i * T.size := by
              unfold Addr.add
              split
              · rename_i e;rw [e];rfl
              · rfl
            rw [hb,ho] at k4
            rw [hb] at k2
            refine ⟨y,⟨k2,fun _ => ?_,cs',hy,k4⟩,hw⟩
            have h50 := hel 0 (by omega)
            rw [List.getElem?_eq_getElem (by omega : 0 < elems.length),Option.bind_eq_some_iff] at h50
            obtain ⟨cs0,h60,_⟩ := h50
            rw [h2] at h60
            have := (cells_at h60 h3).1
            simpa [Addr.add] using this
          obtain ⟨l,hll,hlp⟩ := list_of len each
          refine ⟨l,⟨some a,cap,by rw [hll],⟨by rw [hll];exact hl,hm⟩,fun hne => ?_⟩,by show l.length ≤ maxLen;omega,fun y hy => ?_⟩
          · have hpos : 0 < len := by rw [← hll];exact List.length_pos_iff.2 hne
            obtain ⟨y0,⟨hb,hs,_⟩,_⟩ := each 0 hpos
            refine ⟨a.block,a.off,?_,hb,fun i x hi => ?_⟩
            · have := hs (by omega)
              obtain ⟨b,off,sp⟩ := a
              simp only at this
              rw [this]
            · obtain ⟨⟨_,_,cs',h8,h9⟩,_⟩ := hlp i x hi
              exact ⟨cs',h8,h9⟩
          · obtain ⟨i,hi⟩ := List.getElem?_of_mem hy
            exact (hlp i y hi).2
      | pair a b => exact h.elim
      | unit => exact h.elim
    · obtain ⟨xs,m,rfl,_,h4,h5,h6⟩ := DataW.trod_struct h1 hx
      have := openS (m := m) (fun t T hF cs x hx => open_T n hF m cs x hx) (cs := cs) h3 (fun f hf => by
        obtain ⟨i,hi⟩ := List.getElem?_of_mem hf
        have hi' : fs[i]? = some f := by simpa using hi
        have := h6 i f hi'
        have hlt : i < xs.length := by rw [h5];exact (Array.getElem?_eq_some_iff.1 hi').1
        exact ⟨xs[i],by rw [this,List.getElem?_eq_getElem hlt]⟩) (by rw [Nat.zero_add,h4,h2])
      simpa using this
/-- The environment in which all that exists is stable. -/
def envOf (W : World) : Env := ⟨W,stab W,0,fun _ => ⟨0,undef,0⟩,fun _ => none⟩

theorem good_envOf (W : World) : Good (envOf W) [] := ⟨rfl,fun l o h => by simp at h,fun b ⟨l,o,h,_⟩ => by simp at h,fun b h => h,fun i j p q h => by simp at h⟩

theorem one_slice {r : Reach} {base : Nat} {t e : TypeId} {v : Value} (ht : P.underlying t = some (.slice e)) (h : Value.okWide P W r base t v) : v.cells = #[v] := by obtain ⟨a,l,c,rfl⟩ := okWide_slice ht h;rfl
theorem one_int {r : Reach} {base : Nat} {t : TypeId} {k : IntKind} {v : Value} (ht : P.underlying t = some (.int k)) (h : Value.okWide P W r base t v) : v.cells = #[v] := by obtain ⟨a,rfl⟩ := okWide_int ht h;rfl
theorem one_bool {r : Reach} {base : Nat} {t : TypeId} {v : Value} (ht : P.underlying t = some .bool) (h : Value.okWide P W r base t v) : v.cells = #[v] := by obtain ⟨a,rfl⟩ := okWide_bool ht h;rfl
theorem one_string {r : Reach} {base : Nat} {t : TypeId} {v : Value} (ht : P.underlying t = some .string) (h : Value.okWide P W r base t v) : v.cells = #[v] := by obtain ⟨a,rfl⟩ := okWide_string ht h;rfl

theorem arg_plain {n : Nat} {t : TypeId} {T : Ty} {v : Value} {d : DataW H} {p : List MemPlace} (hf : Fit P n t T) (h : DataW.Trod enc P W 0 (fun _ => true) held t v d p) (hv : v.cells = #[v]) : ∃ y : T.den,Rep (envOf W) (.d T y) v ∧ Wf T y := by
  obtain ⟨fuel,h⟩ := h
  rw [hv] at h
  obtain ⟨y,hy,hw⟩ := open_T n hf _ _ _ h
  exact ⟨y,.d hy,hw⟩

theorem arg_agg {n : Nat} {t : TypeId} {T : Ty} {v : Value} {d : DataW H} {p : List MemPlace} (hf : Fit P n t T) (h : DataW.Trod enc P W 0 (fun _ => true) held t v d p) {fs : Array Field} {r : Reach} {base : Nat} (ht : P.underlying t = some (.struct fs)) (hk : Value.okWide P W r base t v) :
    ∃ y : T.den,Rep (envOf W) (.agg (flat T y)) v ∧ Wf T y := by
  obtain ⟨cs,rfl,_⟩ := okWide_struct ht hk
  obtain ⟨fuel,h⟩ := h
  obtain ⟨y,hy,hw⟩ := open_T n hf _ _ _ h
  have hr := flat_rep (E := envOf W) hy
  refine ⟨y,.agg ?_ fun j hj => ?_,hw⟩
  · have := hr.1;simpa [Value.cells] using this
  · have := hr.2 j hj
    simpa [Value.cells,Array.getD_eq_getD_getElem?,List.getD_eq_getElem?_getD] using this

theorem law_calls {f : FuncId} {vs : List V} {args : Array Value} (h : OkC P f vs (vb true)) (hr : Reps (envOf W) vs args.toList) : Calls P f args W fun e w' => e = .returned (.bool true) ∧ Below W.heap.size W w' := by
  refine (h.2 [] (envOf W) args (good_envOf W) hr).mono ?_
  rintro e w ⟨v,E',r,objs,rfl,rfl,g',st,hv,rfl,rfl⟩
  refine ⟨by rw [hv.bool_inv],st.os,st.tape,st.output,st.size,fun k hk => st.frame k hk fun ⟨l,o,h,_⟩ => by simp at h⟩
end

end Go.Proofs.Ytlncingakpelbaa

namespace Go.Proofs.Ytlncingakpelbaa
open Go
set_option linter.unusedVariables false

theorem awake09_ev : law09_awake.ev = some true := by kernel_rfl
theorem awake09_pre : law09_awake.pre := by show Option.isSome _ = true;rw [awake09_ev];rfl
theorem awake09_fn : law09_awake.fn = true := by show Option.getD _ _ = true;rw [awake09_ev];rfl

theorem law09_light.spec (p : List api_Cond) (m : Int) : law09_light.wp p m (fun x => x = law09_light.fn p m) := rfl
theorem law09_FarkasProves.spec (p : List api_Cond) (n : Int) : law09_FarkasProves.wp p n (fun y => y = law09_FarkasProves.fn p n) := by
  refine ⟨fun _ => ⟨awake09_pre,awake09_fn⟩,fun _ => ?_⟩
  rintro x1 h1
  rintro x2 h2
  rintro x3 h3
  rintro x4 h4
  have e1 : x1 = x2 := h1.trans h2.symm
  have e2 : x3 = x4 := h3.trans h4.symm
  subst e1
  subst e2
  refine ⟨fun _ => awake09_pre,?_⟩
  rw [awake09_fn,list_self,list_self]
  simp only [beq_self_eq_true];rfl
theorem law09_FarkasProves.holds (p : List api_Cond) (n : Int) (hp : Wf (.sl t_api_Cond) p) (hn : Wf (.int .i64) n) : law09_FarkasProves.fn p n = true := rfl
end Go.Proofs.Ytlncingakpelbaa
