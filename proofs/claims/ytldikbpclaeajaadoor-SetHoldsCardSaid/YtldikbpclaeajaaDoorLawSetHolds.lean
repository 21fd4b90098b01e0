/- The law SetHolds of the program returns true for every input, and each argument reads afterwards as it read before. The tables that it reads are tied to the program's text. No other conditions. -/
import Derived.Test.YtldikbpclaeajaaDoorCards
import Derived.Test.YtldikbpclaeajaaDoorTie
import Derived.Deep.DeepHandedRow
import Derived.Stop.LaidErr
import Derived.LaidMore
import Derived.Test.YtldikbpclaeajaaDoorK10
namespace Go.Proofs.YtldikbpclaeajaaDoor.setHolds
open Go
open Go.ChangeShapes Go.WideShapes Go.ChangeAt Go.RowKit
set_option linter.unusedVariables false
theorem own : ownKnob Tryd.prog.godebug = none := by kernel_rfl
theorem laidOut : laidOutB Tryd.prog = true := by kernel_rfl
theorem gTab : Tryd.prog.globalNamed "internal/strconv.uint64pow10" = some 0 := by kernel_rfl
theorem gTabType : (Tryd.prog.globals[0]?).map (·.type) = some 148 := by kernel_rfl
theorem cellsT : Tryd.prog.cellsOf 148 = 20 := by kernel_rfl
theorem cellsE : Tryd.prog.cellsOf 122 = 1 := by kernel_rfl
theorem table {W : World} (h : laidMetH Tryd.prog Rows.setHoldsRow.laid W) : Lib.TabIs Tryd.prog W "internal/strconv.uint64pow10" .u64 Lib.pow10Tab :=
  Lib.tabIs_of_head (rest := []) gTab gTabType Tryd.underlying148 Tryd.underlying122 cellsE cellsT (laidMet.tail (laidMet.tail h))
theorem fit0 : FitT Tryd.prog 8 24 (.pair (.int .i64) (.sl (.sl (.pair (.int .i64) (.pair (.int .i64) (.pair (.sl (.int .i64)) (.int .i64))))))) := (.inr ⟨_, Tryd.underlying24, by kernel_rfl, ⟨rfl, by kernel_rfl, (.inl Tryd.underlying3), ⟨rfl, by kernel_rfl, (.inl ⟨36, Tryd.underlying22, by kernel_rfl, by decide, (.inl ⟨40, Tryd.underlying36, by kernel_rfl, by decide, (.inr ⟨_, Tryd.underlying40, by kernel_rfl, ⟨rfl, by kernel_rfl, (.inl Tryd.underlying3), ⟨rfl, by kernel_rfl, (.inl Tryd.underlying3), ⟨rfl, by kernel_rfl, (.inr ⟨_, Tryd.underlying38, by kernel_rfl, ⟨rfl, by kernel_rfl, (.inl ⟨3, Tryd.underlying33, by kernel_rfl, by decide, (.inl Tryd.underlying3)⟩), ⟨rfl, by kernel_rfl, (.inl Tryd.underlying3)⟩⟩⟩)⟩⟩⟩⟩)⟩)⟩)⟩⟩⟩)
theorem fit1 : FitT Tryd.prog 8 33 (.sl (.int .i64)) := (.inl ⟨3, Tryd.underlying33, by kernel_rfl, by decide, (.inl Tryd.underlying3)⟩)
set_option maxRecDepth 100000 in
theorem contract (H : Type) (enc : TypeId × Value → H) (W : World) (base : Nat) (args : Array Value) (ds gs : List (DataW H)) (before : List MemPlace)
    (hval : ∀ (j : Nat) t v, Tryd.f4.params[j]? = some t → args[j]? = some v → Value.okWide Tryd.prog W .any base t v)
    (hW : DataW.Whole enc Tryd.prog Tryd.f4.params.toList Rows.setHoldsSpec.vars false W args.toList ds gs before) (hL : laidMetH Tryd.prog Rows.setHoldsRow.laid W) :
    Calls Tryd.prog 4 args W fun e W' => ∃ v, e = .returned v ∧ Rows.setHoldsSpec.post enc Tryd.prog Tryd.f4 false true false false W args v W' := by
  have hW' := hW
  obtain ⟨p, q, hA0, hV, rfl, hfz, hnd⟩ := hW
  have hA : DataW.TrodAll enc Tryd.prog W 0 (fun _ => true) true Tryd.f4.params.toList args.toList ds p := hA0
  rw [Tryd.params4] at hA hval
  obtain ⟨v0, vs0, d0, ds0, p0, q0, hargs, rfl, rfl, h0, r0⟩ := trodAll_cons hA
  obtain ⟨v1, vs1, d1, ds1, p1, q1, rfl, rfl, rfl, h1, r1⟩ := trodAll_cons r0
  obtain ⟨rfl, rfl, rfl⟩ := trodAll_nil r1
  obtain rfl : args = #[v0, v1] := by cases args; simp_all
  obtain ⟨rfl, rfl⟩ := trodVars_none hV
  have lt0 : ∀ x ∈ p0, x.block < W.heap.size := by obtain ⟨m, hm⟩ := h0; exact DataW.trod_lt m _ _ _ hm
  obtain ⟨y0, e0, w0⟩ := arg_agg fit0 h0 Tryd.underlying24 (hval 0 24 v0 rfl rfl)
  have lt1 : ∀ x ∈ p1, x.block < W.heap.size := by obtain ⟨m, hm⟩ := h1; exact DataW.trod_lt m _ _ _ hm
  obtain ⟨y1, e1, w1⟩ := arg_plain fit1 rfl h1 (one_slice Tryd.underlying33 (hval 1 33 v1 rfl rfl))
  refine (law04_SetHolds.calls y0 y1 (sok_of gTab (table hL)) (.cons e0 (.cons e1 .nil))).mono fun e W' ⟨he, bel⟩ => ?_
  subst he
  exact ⟨_, rfl, _, _, _, [], _, [], hW', trodAll_mk1 (shut_bool Tryd.underlying4 _), (trodAll_cons_mk (Below.trod laidOut (by kernel_rfl) (of_decide_eq_true (by kernel_rfl)) h0 bel lt0) (trodAll_cons_mk (Below.trod laidOut (by kernel_rfl) (of_decide_eq_true (by kernel_rfl)) h1 bel lt1) trodAll_mk0)), rfl, bel.frame _, fun h => by cases h⟩
noncomputable def laidWorld (os : Os) : World := World.doorLaid Tryd.prog 400 os
theorem laid_met (os : Os) : laidMetH Tryd.prog Rows.setHoldsRow.laid ((laidWorld os).forCall (fun _ _ => 0) ⟨#[], #[.agg #[.int .i64 0, .slice none 0 0], .slice none 0 0], []⟩).memory :=
  laidMetH_of_parts3 (fuel := 8) (laidMet_of_run' 8 (by kernel_rfl) (by kernel_rfl)) (by kernel_rfl) (by kernel_rfl)
set_option maxRecDepth 100000 in
theorem lifted (os : Os) (started : os.Started) (H : Type) (enc : TypeId × Value → H) :
    ReturnsInHanded {} Tryd.checked os 4 .any (fun w args => (Rows.setHoldsSpec.pre enc Tryd.prog Tryd.f4 [] false w args ∧ laidMetH Tryd.prog Rows.setHoldsRow.laid w) ∧ sizedMet enc Tryd.prog Tryd.f4 (OpenSpec.ofChange Rows.setHoldsSpec) false w args)
      (Rows.setHoldsSpec.post enc Tryd.prog Tryd.f4 false true false false) := by
  refine returnsInHanded_of_change_and (C := Tryd.checked) (X := fun w _ => laidMetH Tryd.prog Rows.setHoldsRow.laid w) (fun _ _ _ hh h => h.of_heap hh) own started (by kernel_rfl) Tryd.func4
    (ChangeSpec.witness_shaped (enc := enc) (C := Tryd.checked) (os := os) (X := fun w _ => laidMetH Tryd.prog Rows.setHoldsRow.laid w) false (laidWorld os) #[.agg #[.int .i64 0, .slice none 0 0], .slice none 0 0] 8 rfl (World.shaped_of_RefB (by kernel_rfl) (by kernel_rfl)) (by kernel_rfl) (by kernel_rfl) (by kernel_rfl) (laid_met os)) ?_
  intro W base args ds gs before hval hW _ _ hL _
  exact contract H enc W base args ds gs before hval hW hL
theorem over : Rows.SetHoldsSaid :=
  OpenClaim.holds_of_wide 4 Tryd.f4 rfl rfl rfl rfl rfl rfl rfl ⟨rfl, rfl, rfl, rfl, rfl⟩ rfl rfl rfl rfl rfl (by kernel_rfl) Tryd.func4 (by kernel_rfl)
    (of_decide_eq_true (by kernel_rfl)) (by unfold Func.isWrapper; first | (rw [if_pos (by decide +kernel)]; kernel_rfl) | (rw [if_neg (by decide +kernel)]; exact ⟨rfl, rfl⟩))
    (fun os started H enc _ => lifted os started H enc)
theorem plain (f : FuncId) (fn : Func) (hf : Tryd.pinned.checked.prog.funcNamed "headland/headlandlaw04.SetHolds" = some f) (hfn : Tryd.pinned.checked.prog.funcs[f]? = some fn) :
    false = Tryd.pinned.checked.prog.looks [] ∧ ∀ (j : Nat) t, fn.params[j]? = some t → Tryd.pinned.checked.prog.wantsStandIn t = false := by
  obtain rfl : f = 4 := Option.some.inj ((show Tryd.prog.funcNamed "headland/headlandlaw04.SetHolds" = some 4 by kernel_rfl).symm.trans hf) |>.symm
  obtain rfl : fn = Tryd.f4 := (Option.some.inj (Tryd.func4.symm.trans hfn)).symm
  refine ⟨by kernel_rfl, fun j t ht => ?_⟩
  rw [Tryd.params4] at ht
  have hm : t ∈ [24, 33] := by simpa using Array.mem_of_getElem? ht
  have hall : ([24, 33].all fun u => !Tryd.prog.wantsStandIn u) = true := by kernel_rfl
  exact (show Tryd.prog.wantsStandIn t = false by simpa using List.all_eq_true.1 hall t hm)
end Go.Proofs.YtldikbpclaeajaaDoor.setHolds
namespace Go.Proofs.YtldikbpclaeajaaDoor
open Go
/-- The law holds for every input; what it reads of the program's tables is tied to the program's text. -/
theorem setHolds_card : Rows.SetHoldsCardSaid :=
  Claim7.holds_tied_plain_at .later [] _ _ _ _ setHolds.over (fun _ h => by cases h) (by kernel_rfl) (fun _ h => by cases h) setHolds_row_tie rfl ⟨rfl, rfl⟩ (by kernel_rfl) rfl setHolds.plain (by kernel_rfl)
end Go.Proofs.YtldikbpclaeajaaDoor
