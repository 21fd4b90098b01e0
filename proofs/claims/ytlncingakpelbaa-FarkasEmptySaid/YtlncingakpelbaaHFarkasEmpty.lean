/- Part of a proof that a law of the program holds for every input: what the law answers, in plain Lean. No conditions. -/
import Derived.Test.YtlncingakpelbaaSE4
import Derived.Test.YtlncingakpelbaaSA
namespace Go.Proofs.Ytlncingakpelbaa
open Go
set_option linter.unusedVariables false


theorem piecesOf_take (l : List api_Set) (k : Nat) (hk : k < l.length) : piecesOf (l.take (k + 1)) = piecesOf (l.take k) + (l.getD k d_api_Set).2.length := by
  unfold piecesOf; rw [take_get d_api_Set hk, List.map_append, List.sum_append]; simp
theorem piecesOf_le (l : List api_Set) : ∀ k, piecesOf (l.take k) ≤ piecesOf l := fun k => by
  unfold piecesOf
  conv => rhs; rw [← List.take_append_drop k l, List.map_append, List.sum_append]
  omega
theorem law04_Few.spec (a b : Int) (l : List api_Set) (h : law04_Few.pre a b l) : law04_Few.wp a b l (fun x => x = law04_Few.fn a b l) := by
  have h : piecesOf l ≤ 9223372036854775807 := h
  intro _
  refine ⟨fun n s i => ∃ k : Nat, i = (k : Int) ∧ n + k = l.length ∧ s = (piecesOf (l.take k) : Int) ∧ (l.take k).all (fun s => s.2.all fun p => decide ((p.length : Int) ≤ b)) = true, ⟨l.length, 0, rfl, rfl, rfl, rfl⟩, ?_⟩
  rintro n s i ⟨k, rfl, hn, hs, hq⟩
  refine ⟨fun hi => ?_, fun hi => ?_⟩
  · have hk : k < l.length := by omega
    have hp := piecesOf_take l k hk
    have hle := piecesOf_le l (k + 1)
    refine ⟨⟨by omega, hi⟩, ?_⟩
    rintro x hx
    rw [Int.toNat_natCast] at hx
    rw [← hx] at hp
    refine ⟨⟨by omega, by omega⟩, fun hl2 => ?_⟩
    refine ⟨fun m j => ∃ u : Nat, j = (u : Int) ∧ m + u = x.2.length ∧ (x.2.take u).all (fun p => decide ((p.length : Int) ≤ b)) = true, ⟨x.2.length, 0, rfl, rfl, rfl⟩, ?_⟩
    rintro m j ⟨u, rfl, hm, hu0⟩
    refine ⟨fun hj => ⟨⟨by omega, hj⟩, fun hb => ?_, fun hb => ⟨⟨by omega, by omega⟩, m - 1, by omega, u + 1, by omega, by omega, ?_⟩⟩, fun hj => ⟨⟨by omega, by omega⟩, n - 1, by omega, k + 1, by omega, by omega, by omega, ?_⟩⟩
    · have hu : u < x.2.length := by omega
      rw [Int.toNat_natCast] at hb
      have hxm : x ∈ l := by rw [hx]; exact getD_mem _ hk
      have : (l.all fun s => s.2.all fun p => decide ((p.length : Int) ≤ b)) = false := by
        rw [Bool.eq_false_iff]
        intro hh
        have h1 := List.all_eq_true.1 (List.all_eq_true.1 hh x hxm) _ (getD_mem [] hu)
        have := of_decide_eq_true h1
        omega
      show false = law04_Few.fn a b l
      unfold law04_Few.fn; rw [this]; rfl
    · have hu : u < x.2.length := by omega
      rw [Int.toNat_natCast] at hb
      rw [take_get [] hu, List.all_append, hu0]
      simp only [List.all_cons, List.all_nil, Bool.and_true, Bool.true_and]
      exact decide_eq_true (by omega)
    · have hu : u = x.2.length := by omega
      subst hu
      rw [List.take_of_length_le (Nat.le_refl _)] at hu0
      rw [take_get d_api_Set hk, List.all_append, hq, ← hx]
      simp only [List.all_cons, List.all_nil, Bool.and_true, Bool.true_and]
      exact hu0
  · have hk : k = l.length := by omega
    subst hk
    rw [List.take_of_length_le (Nat.le_refl _)] at hs hq
    show _ = law04_Few.fn a b l
    unfold law04_Few.fn
    rw [hq, hs, Bool.true_and]

theorem law09_FarkasEmpty.spec (s : api_Set) (h : law09_FarkasEmpty.pre s) : law09_FarkasEmpty.wp s (fun y => y = law09_FarkasEmpty.fn s) := by
  have h : s.2.length ≤ 9223372036854775807 := h
  refine ⟨by show piecesOf [s] ≤ _; simp [piecesOf]; omega, fun _ => ⟨awake09_pre, awake09_fn⟩, fun _ => ?_⟩
  rintro r hr
  rintro r' hr'
  have e : r = r' := hr.trans hr'.symm
  subst e
  refine ⟨fun hc => by simp at hc, fun _ _ => ?_⟩
  refine ⟨fun n i => ∃ k : Nat, i = (k : Int) ∧ n + k = r.1.length, ⟨r.1.length, 0, rfl, rfl⟩, ?_⟩
  rintro n i ⟨k, rfl, hn⟩
  refine ⟨fun hi => ⟨⟨by omega, hi⟩, ⟨by omega, hi⟩, fun hc => ?_, fun _ => ⟨⟨by omega, by omega⟩, n - 1, by omega, k + 1, by omega, by omega⟩⟩, fun _ => ⟨awake09_pre, awake09_fn⟩⟩
  rw [list_self] at hc; cases hc

theorem law09_FarkasEmpty.pre_of (s : api_Set) (hs : Wf t_api_Set s) : law09_FarkasEmpty.pre s := hs.2.1
theorem law09_FarkasEmpty.holds (s : api_Set) (hs : Wf t_api_Set s) : law09_FarkasEmpty.fn s = true := rfl
end Go.Proofs.Ytlncingakpelbaa
