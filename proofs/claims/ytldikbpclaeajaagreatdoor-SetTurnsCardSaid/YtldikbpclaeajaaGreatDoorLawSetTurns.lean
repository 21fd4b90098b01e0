/- The law SetTurns of the program returns true for every input, and each argument reads afterwards as it read before. The tables that it reads are tied to the program's text. No other conditions. -/
import Derived.Test.YtldikbpclaeajaaGreatDoorCards
import Derived.Test.YtldikbpclaeajaaGreatDoorTie
import Derived.Deep.DeepHandedRow
import Derived.Stop.LaidErr
import Derived.LaidMore
import Derived.Test.YtldikbpclaeajaaGreatDoorK13
namespace Go.Proofs.YtldikbpclaeajaaGreatDoor.setTurns
open Go
open Go.ChangeShapes Go.WideShapes Go.ChangeAt Go.RowKit
set_option linter.unusedVariables false
theorem own : ownKnob Tryz.prog.godebug = none := by kernel_rfl
theorem laidOut : laidOutB Tryz.prog = true := by kernel_rfl
theorem gTab : Tryz.prog.globalNamed "internal/strconv.uint64pow10" = some 0 := by kernel_rfl
theorem gTabType : (Tryz.prog.globals[0]?).map (·.type) = some 180 := by kernel_rfl
theorem cellsT : Tryz.prog.cellsOf 180 = 20 := by kernel_rfl
theorem cellsE : Tryz.prog.cellsOf 144 = 1 := by kernel_rfl
theorem table {W : World} (h : laidMetH Tryz.prog Rows.setTurnsRow.laid W) : Lib.TabIs Tryz.prog W "internal/strconv.uint64pow10" .u64 Lib.pow10Tab :=
  Lib.tabIs_of_head (rest := []) gTab gTabType Tryz.underlying180 Tryz.underlying144 cellsE cellsT (laidMet.tail (laidMet.tail h))
theorem fit0 : FitT Tryz.prog 8 24 (.pair (.int .i64) (.sl (.sl (.pair (.int .i64) (.pair (.int .i64) (.pair (.sl (.int .i64)) (.int .i64))))))) := (.inr ⟨_, Tryz.underlying24, by kernel_rfl, ⟨rfl, by kernel_rfl, (.inl Tryz.underlying3), ⟨rfl, by kernel_rfl, (.inl ⟨34, Tryz.underlying22, by kernel_rfl, by decide, (.inl ⟨57, Tryz.underlying34, by kernel_rfl, by decide, (.inr ⟨_, Tryz.underlying57, by kernel_rfl, ⟨rfl, by kernel_rfl, (.inl Tryz.underlying3), ⟨rfl, by kernel_rfl, (.inl Tryz.underlying3), ⟨rfl, by kernel_rfl, (.inr ⟨_, Tryz.underlying55, by kernel_rfl, ⟨rfl, by kernel_rfl, (.inl ⟨3, Tryz.underlying45, by kernel_rfl, by decide, (.inl Tryz.underlying3)⟩), ⟨rfl, by kernel_rfl, (.inl Tryz.underlying3)⟩⟩⟩)⟩⟩⟩⟩)⟩)⟩)⟩⟩⟩)
theorem fit1 : FitT Tryz.prog 8 3 (.int .i64) := (.inl Tryz.underlying3)
theorem fit2 : FitT Tryz.prog 8 3 (.int .i64) := (.inl Tryz.underlying3)
theorem fit3 : FitT Tryz.prog 8 45 (.sl (.int .i64)) := (.inl ⟨3, Tryz.underlying45, by kernel_rfl, by decide, (.inl Tryz.underlying3)⟩)
set_option maxRecDepth 100000 in
theorem contract (H : Type) (enc : TypeId × Value → H) (W : World) (base : Nat) (args : Array Value) (ds gs : List (DataW H)) (before : List MemPlace)
    (hval : ∀ (j : Nat) t v, Tryz.f12.params[j]? = some t → args[j]? = some v → Value.okWide Tryz.prog W .any base t v)
    (hW : DataW.Whole enc Tryz.prog Tryz.f12.params.toList Rows.setTurnsSpec.vars false W args.toList ds gs before) (hL : laidMetH Tryz.prog Rows.setTurnsRow.laid W) :
    Calls Tryz.prog 12 args W fun e W' => ∃ v, e = .returned v ∧ Rows.setTurnsSpec.post enc Tryz.prog Tryz.f12 false true false false W args v W' := by
  have hW' := hW
  obtain ⟨p, q, hA0, hV, rfl, hfz, hnd⟩ := hW
  have hA : DataW.TrodAll enc Tryz.prog W 0 (fun _ => true) true Tryz.f12.params.toList args.toList ds p := hA0
  rw [Tryz.params12] at hA hval
  obtain ⟨v0, vs0, d0, ds0, p0, q0, hargs, rfl, rfl, h0, r0⟩ := trodAll_cons hA
  obtain ⟨v1, vs1, d1, ds1, p1, q1, rfl, rfl, rfl, h1, r1⟩ := trodAll_cons r0
  obtain ⟨v2, vs2, d2, ds2, p2, q2, rfl, rfl, rfl, h2, r2⟩ := trodAll_cons r1
  obtain ⟨v3, vs3, d3, ds3, p3, q3, rfl, rfl, rfl, h3, r3⟩ := trodAll_cons r2
  obtain ⟨rfl, rfl, rfl⟩ := trodAll_nil r3
  obtain rfl : args = #[v0, v1, v2, v3] := by cases args; simp_all
  obtain ⟨rfl, rfl⟩ := trodVars_none hV
  have lt0 : ∀ x ∈ p0, x.block < W.heap.size := by obtain ⟨m, hm⟩ := h0; exact DataW.trod_lt m _ _ _ hm
  obtain ⟨y0, e0, w0⟩ := arg_agg fit0 h0 Tryz.underlying24 (hval 0 24 v0 rfl rfl)
  have lt1 : ∀ x ∈ p1, x.block < W.heap.size := by obtain ⟨m, hm⟩ := h1; exact DataW.trod_lt m _ _ _ hm
  obtain ⟨y1, e1, w1⟩ := arg_plain fit1 rfl h1 (one_int Tryz.underlying3 (hval 1 3 v1 rfl rfl))
  have lt2 : ∀ x ∈ p2, x.block < W.heap.size := by obtain ⟨m, hm⟩ := h2; exact DataW.trod_lt m _ _ _ hm
  obtain ⟨y2, e2, w2⟩ := arg_plain fit2 rfl h2 (one_int Tryz.underlying3 (hval 2 3 v2 rfl rfl))
  have lt3 : ∀ x ∈ p3, x.block < W.heap.size := by obtain ⟨m, hm⟩ := h3; exact DataW.trod_lt m _ _ _ hm
  obtain ⟨y3, e3, w3⟩ := arg_plain fit3 rfl h3 (one_slice Tryz.underlying45 (hval 3 45 v3 rfl rfl))
  refine (law04_SetTurns.calls y0 y1 y2 y3 (sok_of gTab (table hL)) (.cons e0 (.cons e1 (.cons e2 (.cons e3 .nil))))).mono fun e W' ⟨he, bel⟩ => ?_
  subst he
  exact ⟨_, rfl, _, _, _, [], _, [], hW', trodAll_mk1 (shut_bool Tryz.underlying4 _), (trodAll_cons_mk (Below.trod laidOut (by kernel_rfl) (of_decide_eq_true (by kernel_rfl)) h0 bel lt0) (trodAll_cons_mk (Below.trod laidOut (by kernel_rfl) (of_decide_eq_true (by kernel_rfl)) h1 bel lt1) (trodAll_cons_mk (Below.trod laidOut (by kernel_rfl) (of_decide_eq_true (by kernel_rfl)) h2 bel lt2) (trodAll_cons_mk (Below.trod laidOut (by kernel_rfl) (of_decide_eq_true (by kernel_rfl)) h3 bel lt3) trodAll_mk0)))), rfl, bel.frame _, fun h => by cases h⟩
noncomputable def laidWorld (os : Os) : World := World.doorLaid Tryz.prog 400 os
theorem laid_met (os : Os) : laidMetH Tryz.prog Rows.setTurnsRow.laid ((laidWorld os).forCall (fun _ _ => 0) ⟨#[], #[.agg #[.int .i64 0, .slice none 0 0], .int .i64 0, .int .i64 0, .slice none 0 0], []⟩).memory :=
  laidMetH_of_parts3 (fuel := 8) (laidMet_of_run' 8 (by kernel_rfl) (by kernel_rfl)) (by kernel_rfl) (by kernel_rfl)
set_option maxRecDepth 100000 in
theorem lifted (os : Os) (started : os.Started) (H : Type) (enc : TypeId × Value → H) :
    ReturnsInHanded {} Tryz.checked os 12 .any (fun w args => (Rows.setTurnsSpec.pre enc Tryz.prog Tryz.f12 [] false w args ∧ laidMetH Tryz.prog Rows.setTurnsRow.laid w) ∧ sizedMet enc Tryz.prog Tryz.f12 (OpenSpec.ofChange Rows.setTurnsSpec) false w args)
      (Rows.setTurnsSpec.post enc Tryz.prog Tryz.f12 false true false false) := by
  refine returnsInHanded_of_change_and (C := Tryz.checked) (X := fun w _ => laidMetH Tryz.prog Rows.setTurnsRow.laid w) (fun _ _ _ hh h => h.of_heap hh) own started (by kernel_rfl) Tryz.func12
    (ChangeSpec.witness_shaped (enc := enc) (C := Tryz.checked) (os := os) (X := fun w _ => laidMetH Tryz.prog Rows.setTurnsRow.laid w) false (laidWorld os) #[.agg #[.int .i64 0, .slice none 0 0], .int .i64 0, .int .i64 0, .slice none 0 0] 8 rfl (World.shaped_of_RefB (by kernel_rfl) (by kernel_rfl)) (by kernel_rfl) (by kernel_rfl) (by kernel_rfl) (laid_met os)) ?_
  intro W base args ds gs before hval hW _ _ hL _
  exact contract H enc W base args ds gs before hval hW hL
theorem over : Rows.SetTurnsSaid :=
  OpenClaim.holds_of_wide 12 Tryz.f12 rfl rfl rfl rfl rfl rfl rfl ⟨rfl, rfl, rfl, rfl, rfl⟩ rfl rfl rfl rfl rfl (by kernel_rfl) Tryz.func12 (by kernel_rfl)
    (of_decide_eq_true (by kernel_rfl)) (by unfold Func.isWrapper; first | (rw [if_pos (by decide +kernel)]; kernel_rfl) | (rw [if_neg (by decide +kernel)]; exact ⟨rfl, rfl⟩))
    (fun os started H enc _ => lifted os started H enc)
theorem plain (f : FuncId) (fn : Func) (hf : Tryz.pinned.checked.prog.funcNamed "headland/headlandlaw04.SetTurns" = some f) (hfn : Tryz.pinned.checked.prog.funcs[f]? = some fn) :
    false = Tryz.pinned.checked.prog.looks [] ∧ ∀ (j : Nat) t, fn.params[j]? = some t → Tryz.pinned.checked.prog.wantsStandIn t = false := by
  obtain rfl : f = 12 := Option.some.inj ((show Tryz.prog.funcNamed "headland/headlandlaw04.SetTurns" = some 12 by kernel_rfl).symm.trans hf) |>.symm
  obtain rfl : fn = Tryz.f12 := (Option.some.inj (Tryz.func12.symm.trans hfn)).symm
  refine ⟨by kernel_rfl, fun j t ht => ?_⟩
  rw [Tryz.params12] at ht
  have hm : t ∈ [24, 3, 3, 45] := by simpa using Array.mem_of_getElem? ht
  have hall : ([24, 3, 3, 45].all fun u => !Tryz.prog.wantsStandIn u) = true := by kernel_rfl
  exact (show Tryz.prog.wantsStandIn t = false by simpa using List.all_eq_true.1 hall t hm)
end Go.Proofs.YtldikbpclaeajaaGreatDoor.setTurns
namespace Go.Proofs.YtldikbpclaeajaaGreatDoor
open Go
/-- The law holds for every input; what it reads of the program's tables is tied to the program's text. -/
theorem setTurns_card : Rows.SetTurnsCardSaid :=
  Claim7.holds_tied_plain_at .later [] _ _ _ _ setTurns.over (fun _ h => by cases h) (by kernel_rfl) (fun _ h => by cases h) setTurns_row_tie rfl ⟨rfl, rfl⟩ (by kernel_rfl) rfl setTurns.plain (by kernel_rfl)
end Go.Proofs.YtldikbpclaeajaaGreatDoor
