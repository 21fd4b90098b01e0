/- Part of a proof that a law of the program holds for every input: printed by a program of this work. No conditions. -/
import Derived.Test.YtlncingakpelbaaHFarkasEmpty
import Derived.Test.YtlncingakpelbaaProg
namespace Go.Proofs.Ytlncingakpelbaa
open Go
set_option linter.unusedVariables false
set_option maxHeartbeats 4000000

noncomputable abbrev prog : Program := Try.prog
def tyTab : List (Nat × TI) := [(3, ⟨.int .i64, 1, 8, [.int .i64 0], some (.int .i64)⟩),
  (4, ⟨.bool, 1, 1, [.bool false], some .bool⟩),
  (22, ⟨.sl 35, 1, 24, [.slice none 0 0], some (.sl t_api_Cond)⟩),
  (25, ⟨.sl 3, 1, 24, [.slice none 0 0], some (.sl (.int .i64))⟩),
  (26, ⟨.int .i64, 1, 8, [.int .i64 0], some (.int .i64)⟩),
  (33, ⟨.st [(0, 1), (1, 1)], 2, 32, [.slice none 0 0, .int .i64 0], some t_api_Lin⟩),
  (35, ⟨.st [(0, 1), (1, 1), (2, 2)], 4, 48, [.int .i64 0, .int .i64 0, .slice none 0 0, .int .i64 0], some t_api_Cond⟩),
  (36, ⟨.fn, 1, 8, [.nilFunc], none⟩),
  (37, ⟨.sl 22, 1, 24, [.slice none 0 0], some (.sl (.sl t_api_Cond))⟩),
  (39, ⟨.st [(0, 1), (1, 1)], 2, 32, [.int .i64 0, .slice none 0 0], some t_api_Set⟩),
  (41, ⟨.sl 25, 1, 24, [.slice none 0 0], some (.sl (.sl (.int .i64)))⟩),
  (53, ⟨.sl 59, 1, 24, [.slice none 0 0], some (.sl t_farkas_table)⟩),
  (57, ⟨.sl 99, 1, 24, [.slice none 0 0], some (.sl t_farkas_row)⟩),
  (59, ⟨.st [(0, 1), (1, 1)], 2, 32, [.int .i64 0, .slice none 0 0], some t_farkas_table⟩),
  (61, ⟨.sl 62, 1, 24, [.slice none 0 0], some (.sl (.sl t_ref09_Row))⟩),
  (62, ⟨.sl 102, 1, 24, [.slice none 0 0], some (.sl t_ref09_Row)⟩),
  (67, ⟨.st [(0, 1), (1, 1)], 2, 32, [.slice none 0 0, .int .i64 0], some t_farkas_point⟩),
  (71, ⟨.st [(0, 1), (1, 1)], 2, 16, [.int .i64 0, .int .i64 0], some t_farkas_fraction⟩),
  (86, ⟨.sl 39, 1, 24, [.slice none 0 0], some (.sl t_api_Set)⟩),
  (91, ⟨.fn, 1, 8, [.nilFunc], none⟩),
  (97, ⟨.sl 3, 1, 24, [.slice none 0 0], some (.sl (.int .i64))⟩),
  (99, ⟨.st [(0, 1), (1, 1)], 2, 32, [.bool false, .slice none 0 0], some t_farkas_row⟩),
  (102, ⟨.st [(0, 2), (2, 1), (3, 1)], 4, 64, [.slice none 0 0, .int .i64 0, .bool false, .slice none 0 0], some t_ref09_Row⟩),
  (107, ⟨.ptr, 1, 8, [.pointer none], none⟩),
  (114, ⟨.int .u64, 1, 8, [.int .u64 0], some (.int .u64)⟩),
  (132, ⟨.fn, 1, 8, [.nilFunc], none⟩),
  (138, ⟨.fn, 1, 8, [.nilFunc], none⟩)]
abbrev τ : TyTab := fun t => lookT t tyTab
theorem tab : TabOk prog τ := tabOk_of (by
  refine List.forall_mem_cons.2 ⟨TI.ok_mk (by kernel_rfl) (Try.underlying3) ⟨rfl, by decide, rfl⟩, ?_⟩
  refine List.forall_mem_cons.2 ⟨TI.ok_mk (by kernel_rfl) (Try.underlying4) ⟨rfl, by decide, rfl⟩, ?_⟩
  refine List.forall_mem_cons.2 ⟨TI.ok_mk (by kernel_rfl) (Try.underlying22) ⟨rfl, by decide, rfl⟩, ?_⟩
  refine List.forall_mem_cons.2 ⟨TI.ok_mk (by kernel_rfl) (Try.underlying25) ⟨rfl, by decide, rfl⟩, ?_⟩
  refine List.forall_mem_cons.2 ⟨TI.ok_mk (by kernel_rfl) (Try.underlying26) ⟨rfl, by decide, rfl⟩, ?_⟩
  refine List.forall_mem_cons.2 ⟨TI.ok_mk (by kernel_rfl) (⟨_, Try.underlying33, by kernel_rfl, by decide⟩) ⟨rfl, by decide, rfl⟩, ?_⟩
  refine List.forall_mem_cons.2 ⟨TI.ok_mk (by kernel_rfl) (⟨_, Try.underlying35, by kernel_rfl, by decide⟩) ⟨rfl, by decide, rfl⟩, ?_⟩
  refine List.forall_mem_cons.2 ⟨TI.ok_mk (by kernel_rfl) (⟨_, _, _, Try.underlying36⟩) trivial, ?_⟩
  refine List.forall_mem_cons.2 ⟨TI.ok_mk (by kernel_rfl) (Try.underlying37) ⟨rfl, by decide, rfl⟩, ?_⟩
  refine List.forall_mem_cons.2 ⟨TI.ok_mk (by kernel_rfl) (⟨_, Try.underlying39, by kernel_rfl, by decide⟩) ⟨rfl, by decide, rfl⟩, ?_⟩
  refine List.forall_mem_cons.2 ⟨TI.ok_mk (by kernel_rfl) (Try.underlying41) ⟨rfl, by decide, rfl⟩, ?_⟩
  refine List.forall_mem_cons.2 ⟨TI.ok_mk (by kernel_rfl) (Try.underlying53) ⟨rfl, by decide, rfl⟩, ?_⟩
  refine List.forall_mem_cons.2 ⟨TI.ok_mk (by kernel_rfl) (Try.underlying57) ⟨rfl, by decide, rfl⟩, ?_⟩
  refine List.forall_mem_cons.2 ⟨TI.ok_mk (by kernel_rfl) (⟨_, Try.underlying59, by kernel_rfl, by decide⟩) ⟨rfl, by decide, rfl⟩, ?_⟩
  refine List.forall_mem_cons.2 ⟨TI.ok_mk (by kernel_rfl) (Try.underlying61) ⟨rfl, by decide, rfl⟩, ?_⟩
  refine List.forall_mem_cons.2 ⟨TI.ok_mk (by kernel_rfl) (Try.underlying62) ⟨rfl, by decide, rfl⟩, ?_⟩
  refine List.forall_mem_cons.2 ⟨TI.ok_mk (by kernel_rfl) (⟨_, Try.underlying67, by kernel_rfl, by decide⟩) ⟨rfl, by decide, rfl⟩, ?_⟩
  refine List.forall_mem_cons.2 ⟨TI.ok_mk (by kernel_rfl) (⟨_, Try.underlying71, by kernel_rfl, by decide⟩) ⟨rfl, by decide, rfl⟩, ?_⟩
  refine List.forall_mem_cons.2 ⟨TI.ok_mk (by kernel_rfl) (Try.underlying86) ⟨rfl, by decide, rfl⟩, ?_⟩
  refine List.forall_mem_cons.2 ⟨TI.ok_mk (by kernel_rfl) (⟨_, _, _, Try.underlying91⟩) trivial, ?_⟩
  refine List.forall_mem_cons.2 ⟨TI.ok_mk (by kernel_rfl) (Try.underlying97) ⟨rfl, by decide, rfl⟩, ?_⟩
  refine List.forall_mem_cons.2 ⟨TI.ok_mk (by kernel_rfl) (⟨_, Try.underlying99, by kernel_rfl, by decide⟩) ⟨rfl, by decide, rfl⟩, ?_⟩
  refine List.forall_mem_cons.2 ⟨TI.ok_mk (by kernel_rfl) (⟨_, Try.underlying102, by kernel_rfl, by decide⟩) ⟨rfl, by decide, rfl⟩, ?_⟩
  refine List.forall_mem_cons.2 ⟨TI.ok_mk (by kernel_rfl) (⟨_, Try.underlying107⟩) trivial, ?_⟩
  refine List.forall_mem_cons.2 ⟨TI.ok_mk (by kernel_rfl) (Try.underlying114) ⟨rfl, by decide, rfl⟩, ?_⟩
  refine List.forall_mem_cons.2 ⟨TI.ok_mk (by kernel_rfl) (⟨_, _, _, Try.underlying132⟩) trivial, ?_⟩
  refine List.forall_mem_cons.2 ⟨TI.ok_mk (by kernel_rfl) (⟨_, _, _, Try.underlying138⟩) trivial, ?_⟩
  exact fun _ h => absurd h (by simp))
theorem mixed : prog.follows .mixedOrders = true := by kernel_rfl
end Go.Proofs.Ytlncingakpelbaa
