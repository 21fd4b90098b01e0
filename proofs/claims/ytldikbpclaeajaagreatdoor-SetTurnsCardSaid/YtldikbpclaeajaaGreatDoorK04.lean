/- Part of a proof that a law of the program holds for every input: printed by a program of this work: how the functions are walked. No conditions. -/
import Derived.Test.YtldikbpclaeajaaGreatDoorProg
import Derived.Test.YtldikbpclaeajaaGreatDoorF03
namespace Go.Proofs.YtldikbpclaeajaaGreatDoor
open Go
set_option linter.unusedVariables false
set_option maxRecDepth 8000
set_option maxHeartbeats 4000000
noncomputable abbrev prog : Program := Tryz.prog
def tyTab : List (Nat × TI) := [(1,⟨.fn,1,8,[.nilFunc],none⟩),
  (2,⟨.int .i64,1,8,[.int .i64 0],some (.int .i64)⟩),
  (3,⟨.int .i64,1,8,[.int .i64 0],some (.int .i64)⟩),
  (4,⟨.bool,1,1,[.bool false],some .bool⟩),
  (5,⟨.int .u8,1,1,[.int .u8 0],some (.int .u8)⟩),
  (6,⟨.int .u8,1,1,[.int .u8 0],some (.int .u8)⟩),
  (7,⟨.st [(0,1),(1,1),(2,1),(3,1)],4,24,[.int .i64 0,.int .i64 0,.bool false,.int .u8 0],some (.pair (.int .i64) (.pair (.int .i64) (.pair .bool (.int .u8))))⟩),
  (8,⟨.st [(0,1),(1,1),(2,1),(3,1)],4,24,[.int .i64 0,.int .i64 0,.bool false,.int .u8 0],some (.pair (.int .i64) (.pair (.int .i64) (.pair .bool (.int .u8))))⟩),
  (9,⟨.str,1,16,[.string ByteArray.empty],some .str⟩),
  (10,⟨.str,1,16,[.string ByteArray.empty],some .str⟩),
  (11,⟨.str,1,16,[.string ByteArray.empty],some .str⟩),
  (12,⟨.int .u64,1,8,[.int .u64 0],some (.int .u64)⟩),
  (13,⟨.st [(0,1),(1,1)],2,24,[.string ByteArray.empty,.int .u64 0],some (.pair .str (.int .u64))⟩),
  (14,⟨.st [(0,1),(1,1)],2,24,[.string ByteArray.empty,.int .u64 0],some (.pair .str (.int .u64))⟩),
  (15,⟨.ptr,1,8,[.pointer none],none⟩),
  (16,⟨.ptr,1,8,[.pointer none],none⟩),
  (17,⟨.ptr,1,8,[.pointer none],none⟩),
  (18,⟨.st [(0,1)],1,8,[.pointer none],none⟩),
  (19,⟨.st [(0,1)],1,8,[.pointer none],none⟩),
  (21,⟨.int .i32,1,4,[.int .i32 0],some (.int .i32)⟩),
  (22,⟨.sl 34,1,24,[.slice none 0 0],some (.sl (.sl (.pair (.int .i64) (.pair (.int .i64) (.pair (.sl (.int .i64)) (.int .i64))))))⟩),
  (23,⟨.st [(0,1),(1,1)],2,32,[.int .i64 0,.slice none 0 0],some (.pair (.int .i64) (.sl (.sl (.pair (.int .i64) (.pair (.int .i64) (.pair (.sl (.int .i64)) (.int .i64)))))))⟩),
  (24,⟨.st [(0,1),(1,1)],2,32,[.int .i64 0,.slice none 0 0],some (.pair (.int .i64) (.sl (.sl (.pair (.int .i64) (.pair (.int .i64) (.pair (.sl (.int .i64)) (.int .i64)))))))⟩),
  (25,⟨.fn,1,8,[.nilFunc],none⟩),
  (26,⟨.fn,1,8,[.nilFunc],none⟩),
  (27,⟨.int .i64,1,8,[.int .i64 0],some (.int .i64)⟩),
  (29,⟨.fn,1,8,[.nilFunc],none⟩),
  (30,⟨.fn,1,8,[.nilFunc],none⟩),
  (31,⟨.fn,1,8,[.nilFunc],none⟩),
  (32,⟨.fn,1,8,[.nilFunc],none⟩),
  (33,⟨.fn,1,8,[.nilFunc],none⟩),
  (34,⟨.sl 57,1,24,[.slice none 0 0],some (.sl (.pair (.int .i64) (.pair (.int .i64) (.pair (.sl (.int .i64)) (.int .i64)))))⟩),
  (36,⟨.fn,1,8,[.nilFunc],none⟩),
  (37,⟨.fn,1,8,[.nilFunc],none⟩),
  (38,⟨.fn,1,8,[.nilFunc],none⟩),
  (39,⟨.fn,1,8,[.nilFunc],none⟩),
  (40,⟨.fn,1,8,[.nilFunc],none⟩),
  (41,⟨.fn,1,8,[.nilFunc],none⟩),
  (42,⟨.sl 24,1,24,[.slice none 0 0],some (.sl (.pair (.int .i64) (.sl (.sl (.pair (.int .i64) (.pair (.int .i64) (.pair (.sl (.int .i64)) (.int .i64))))))))⟩),
  (43,⟨.fn,1,8,[.nilFunc],none⟩),
  (44,⟨.fn,1,8,[.nilFunc],none⟩),
  (45,⟨.sl 3,1,24,[.slice none 0 0],some (.sl (.int .i64))⟩),
  (47,⟨.fn,1,8,[.nilFunc],none⟩),
  (48,⟨.fn,1,8,[.nilFunc],none⟩),
  (49,⟨.fn,1,8,[.nilFunc],none⟩),
  (50,⟨.fn,1,8,[.nilFunc],none⟩),
  (51,⟨.fn,1,8,[.nilFunc],none⟩),
  (52,⟨.fn,1,8,[.nilFunc],none⟩),
  (53,⟨.fn,1,8,[.nilFunc],none⟩),
  (54,⟨.st [(0,1),(1,1)],2,32,[.slice none 0 0,.int .i64 0],some (.pair (.sl (.int .i64)) (.int .i64))⟩),
  (55,⟨.st [(0,1),(1,1)],2,32,[.slice none 0 0,.int .i64 0],some (.pair (.sl (.int .i64)) (.int .i64))⟩),
  (56,⟨.st [(0,1),(1,1),(2,2)],4,48,[.int .i64 0,.int .i64 0,.slice none 0 0,.int .i64 0],some (.pair (.int .i64) (.pair (.int .i64) (.pair (.sl (.int .i64)) (.int .i64))))⟩),
  (57,⟨.st [(0,1),(1,1),(2,2)],4,48,[.int .i64 0,.int .i64 0,.slice none 0 0,.int .i64 0],some (.pair (.int .i64) (.pair (.int .i64) (.pair (.sl (.int .i64)) (.int .i64))))⟩),
  (58,⟨.fn,1,8,[.nilFunc],none⟩),
  (59,⟨.fn,1,8,[.nilFunc],none⟩),
  (60,⟨.fn,1,8,[.nilFunc],none⟩),
  (61,⟨.fn,1,8,[.nilFunc],none⟩),
  (62,⟨.fn,1,8,[.nilFunc],none⟩),
  (63,⟨.fn,1,8,[.nilFunc],none⟩),
  (64,⟨.fn,1,8,[.nilFunc],none⟩),
  (65,⟨.fn,1,8,[.nilFunc],none⟩),
  (67,⟨.fn,1,8,[.nilFunc],none⟩),
  (68,⟨.fn,1,8,[.nilFunc],none⟩),
  (69,⟨.fn,1,8,[.nilFunc],none⟩),
  (71,⟨.fn,1,8,[.nilFunc],none⟩),
  (72,⟨.fn,1,8,[.nilFunc],none⟩),
  (73,⟨.fn,1,8,[.nilFunc],none⟩),
  (74,⟨.fn,1,8,[.nilFunc],none⟩),
  (75,⟨.fn,1,8,[.nilFunc],none⟩),
  (76,⟨.fn,1,8,[.nilFunc],none⟩),
  (77,⟨.fn,1,8,[.nilFunc],none⟩),
  (78,⟨.fn,1,8,[.nilFunc],none⟩),
  (79,⟨.fn,1,8,[.nilFunc],none⟩),
  (80,⟨.fn,1,8,[.nilFunc],none⟩),
  (81,⟨.fn,1,8,[.nilFunc],none⟩),
  (82,⟨.fn,1,8,[.nilFunc],none⟩),
  (83,⟨.fn,1,8,[.nilFunc],none⟩),
  (84,⟨.fn,1,8,[.nilFunc],none⟩),
  (85,⟨.fn,1,8,[.nilFunc],none⟩),
  (87,⟨.fn,1,8,[.nilFunc],none⟩),
  (88,⟨.fn,1,8,[.nilFunc],none⟩),
  (89,⟨.arr 12 4,12,12,[.bool false,.bool false,.bool false,.bool false,.bool false,.bool false,.bool false,.bool false,.bool false,.bool false,.bool false,.bool false],none⟩),
  (90,⟨.fn,1,8,[.nilFunc],none⟩),
  (91,⟨.fn,1,8,[.nilFunc],none⟩),
  (93,⟨.fn,1,8,[.nilFunc],none⟩),
  (94,⟨.fn,1,8,[.nilFunc],none⟩),
  (95,⟨.sl 4,1,24,[.slice none 0 0],some (.sl .bool)⟩),
  (96,⟨.fn,1,8,[.nilFunc],none⟩),
  (97,⟨.fn,1,8,[.nilFunc],none⟩),
  (98,⟨.fn,1,8,[.nilFunc],none⟩),
  (99,⟨.fn,1,8,[.nilFunc],none⟩),
  (101,⟨.fn,1,8,[.nilFunc],none⟩),
  (102,⟨.fn,1,8,[.nilFunc],none⟩),
  (103,⟨.fn,1,8,[.nilFunc],none⟩),
  (104,⟨.fn,1,8,[.nilFunc],none⟩),
  (105,⟨.sl 22,1,24,[.slice none 0 0],some (.sl (.sl (.sl (.pair (.int .i64) (.pair (.int .i64) (.pair (.sl (.int .i64)) (.int .i64)))))))⟩),
  (106,⟨.fn,1,8,[.nilFunc],none⟩),
  (107,⟨.fn,1,8,[.nilFunc],none⟩),
  (108,⟨.fn,1,8,[.nilFunc],none⟩),
  (110,⟨.fn,1,8,[.nilFunc],none⟩),
  (111,⟨.fn,1,8,[.nilFunc],none⟩),
  (112,⟨.fn,1,8,[.nilFunc],none⟩),
  (113,⟨.map 9 4,1,8,[.map none],none⟩),
  (114,⟨.fn,1,8,[.nilFunc],none⟩),
  (115,⟨.fn,1,8,[.nilFunc],none⟩),
  (116,⟨.fn,1,8,[.nilFunc],none⟩),
  (118,⟨.fn,1,8,[.nilFunc],none⟩),
  (121,⟨.fn,1,8,[.nilFunc],none⟩),
  (122,⟨.fn,1,8,[.nilFunc],none⟩),
  (123,⟨.fn,1,8,[.nilFunc],none⟩),
  (124,⟨.arr 3 123,3,24,[.nilFunc,.nilFunc,.nilFunc],none⟩),
  (125,⟨.fn,1,8,[.nilFunc],none⟩),
  (126,⟨.st [(0,4)],4,48,[.int .i64 0,.int .i64 0,.slice none 0 0,.int .i64 0],some (.pair (.int .i64) (.pair (.int .i64) (.pair (.sl (.int .i64)) (.int .i64))))⟩),
  (127,⟨.st [(0,4)],4,48,[.int .i64 0,.int .i64 0,.slice none 0 0,.int .i64 0],some (.pair (.int .i64) (.pair (.int .i64) (.pair (.sl (.int .i64)) (.int .i64))))⟩),
  (128,⟨.map 9 3,1,8,[.map none],none⟩),
  (129,⟨.fn,1,8,[.nilFunc],none⟩),
  (130,⟨.map 3 4,1,8,[.map none],none⟩),
  (132,⟨.fn,1,8,[.nilFunc],none⟩),
  (133,⟨.fn,1,8,[.nilFunc],none⟩),
  (134,⟨.int .u64,1,8,[.int .u64 0],some (.int .u64)⟩),
  (135,⟨.arr 3 3,3,24,[.int .i64 0,.int .i64 0,.int .i64 0],none⟩),
  (139,⟨.fn,1,8,[.nilFunc],none⟩),
  (140,⟨.fn,1,8,[.nilFunc],none⟩),
  (141,⟨.fn,1,8,[.nilFunc],none⟩),
  (142,⟨.sl 5,1,24,[.slice none 0 0],some (.sl (.int .u8))⟩),
  (144,⟨.int .u64,1,8,[.int .u64 0],some (.int .u64)⟩),
  (152,⟨.fn,1,8,[.nilFunc],none⟩),
  (154,⟨.fn,1,8,[.nilFunc],none⟩),
  (155,⟨.fn,1,8,[.nilFunc],none⟩),
  (156,⟨.fn,1,8,[.nilFunc],none⟩),
  (157,⟨.int .u32,1,4,[.int .u32 0],some (.int .u32)⟩),
  (158,⟨.fn,1,8,[.nilFunc],none⟩),
  (159,⟨.fn,1,8,[.nilFunc],none⟩),
  (167,⟨.fn,1,8,[.nilFunc],none⟩),
  (168,⟨.fn,1,8,[.nilFunc],none⟩),
  (169,⟨.fn,1,8,[.nilFunc],none⟩),
  (170,⟨.fn,1,8,[.nilFunc],none⟩),
  (185,⟨.st [(0,1),(1,1),(2,1),(3,1)],4,40,[.pointer none,.pointer none,.pointer none,.string ByteArray.empty],none⟩),
  (186,⟨.st [(0,1),(1,1),(2,1),(3,1)],4,40,[.pointer none,.pointer none,.pointer none,.string ByteArray.empty],none⟩),
  (191,⟨.int .u8,1,1,[.int .u8 0],some (.int .u8)⟩),
  (192,⟨.int .u8,1,1,[.int .u8 0],some (.int .u8)⟩),
  (193,⟨.fn,1,8,[.nilFunc],none⟩),
  (194,⟨.ptr,1,8,[.pointer none],none⟩),
  (195,⟨.int .i32,1,4,[.int .i32 0],some (.int .i32)⟩),
  (196,⟨.int .i32,1,4,[.int .i32 0],some (.int .i32)⟩),
  (197,⟨.st [(0,1),(1,1),(2,1),(3,1),(4,1),(5,1),(6,1),(7,1),(8,1),(9,1),(10,1)],11,48,[.int .u64 0,.int .u64 0,.int .u32 0,.int .u8 0,.int .u8 0,.int .u8 0,.int .u8 0,.nilFunc,.pointer none,.int .i32 0,.int .i32 0],none⟩),
  (198,⟨.st [(0,1),(1,1),(2,1),(3,1),(4,1),(5,1),(6,1),(7,1),(8,1),(9,1),(10,1)],11,48,[.int .u64 0,.int .u64 0,.int .u32 0,.int .u8 0,.int .u8 0,.int .u8 0,.int .u8 0,.nilFunc,.pointer none,.int .i32 0,.int .i32 0],none⟩)]
theorem tabL : ∀ p ∈ tyTab,p.2.Ok prog p.1 := by
  refine List.forall_mem_cons.2 ⟨TI.ok_mk (by kernel_rfl) (⟨_,_,_,Tryz.underlying1⟩) trivial,?_⟩
  refine List.forall_mem_cons.2 ⟨TI.ok_mk (by kernel_rfl) (Tryz.underlying2) ⟨rfl,by decide,rfl⟩,?_⟩
  refine List.forall_mem_cons.2 ⟨TI.ok_mk (by kernel_rfl) (Tryz.underlying3) ⟨rfl,by decide,rfl⟩,?_⟩
  refine List.forall_mem_cons.2 ⟨TI.ok_mk (by kernel_rfl) (Tryz.underlying4) ⟨rfl,by decide,rfl⟩,?_⟩
  refine List.forall_mem_cons.2 ⟨TI.ok_mk (by kernel_rfl) (Tryz.underlying5) ⟨rfl,by decide,rfl⟩,?_⟩
  refine List.forall_mem_cons.2 ⟨TI.ok_mk (by kernel_rfl) (Tryz.underlying6) ⟨rfl,by decide,rfl⟩,?_⟩
  refine List.forall_mem_cons.2 ⟨TI.ok_mk (by kernel_rfl) (⟨_,Tryz.underlying7,by kernel_rfl,by decide⟩) ⟨rfl,by decide,rfl⟩,?_⟩
  refine List.forall_mem_cons.2 ⟨TI.ok_mk (by kernel_rfl) (⟨_,Tryz.underlying8,by kernel_rfl,by decide⟩) ⟨rfl,by decide,rfl⟩,?_⟩
  refine List.forall_mem_cons.2 ⟨TI.ok_mk (by kernel_rfl) (Tryz.underlying9) ⟨rfl,by decide,rfl⟩,?_⟩
  refine List.forall_mem_cons.2 ⟨TI.ok_mk (by kernel_rfl) (Tryz.underlying10) ⟨rfl,by decide,rfl⟩,?_⟩
  refine List.forall_mem_cons.2 ⟨TI.ok_mk (by kernel_rfl) (Tryz.underlying11) ⟨rfl,by decide,rfl⟩,?_⟩
  refine List.forall_mem_cons.2 ⟨TI.ok_mk (by kernel_rfl) (Tryz.underlying12) ⟨rfl,by decide,rfl⟩,?_⟩
  refine List.forall_mem_cons.2 ⟨TI.ok_mk (by kernel_rfl) (⟨_,Tryz.underlying13,by kernel_rfl,by decide⟩) ⟨rfl,by decide,rfl⟩,?_⟩
  refine List.forall_mem_cons.2 ⟨TI.ok_mk (by kernel_rfl) (⟨_,Tryz.underlying14,by kernel_rfl,by decide⟩) ⟨rfl,by decide,rfl⟩,?_⟩
  refine List.forall_mem_cons.2 ⟨TI.ok_mk (by kernel_rfl) (⟨_,Tryz.underlying15⟩) trivial,?_⟩
  refine List.forall_mem_cons.2 ⟨TI.ok_mk (by kernel_rfl) (⟨_,Tryz.underlying16⟩) trivial,?_⟩
  refine List.forall_mem_cons.2 ⟨TI.ok_mk (by kernel_rfl) (⟨_,Tryz.underlying17⟩) trivial,?_⟩
  refine List.forall_mem_cons.2 ⟨TI.ok_mk (by kernel_rfl) (⟨_,Tryz.underlying18,by kernel_rfl,by decide⟩) trivial,?_⟩
  refine List.forall_mem_cons.2 ⟨TI.ok_mk (by kernel_rfl) (⟨_,Tryz.underlying19,by kernel_rfl,by decide⟩) trivial,?_⟩
  refine List.forall_mem_cons.2 ⟨TI.ok_mk (by kernel_rfl) (Tryz.underlying21) ⟨rfl,by decide,rfl⟩,?_⟩
  refine List.forall_mem_cons.2 ⟨TI.ok_mk (by kernel_rfl) (Tryz.underlying22) ⟨rfl,by decide,rfl⟩,?_⟩
  refine List.forall_mem_cons.2 ⟨TI.ok_mk (by kernel_rfl) (⟨_,Tryz.underlying23,by kernel_rfl,by decide⟩) ⟨rfl,by decide,rfl⟩,?_⟩
  refine List.forall_mem_cons.2 ⟨TI.ok_mk (by kernel_rfl) (⟨_,Tryz.underlying24,by kernel_rfl,by decide⟩) ⟨rfl,by decide,rfl⟩,?_⟩
  refine List.forall_mem_cons.2 ⟨TI.ok_mk (by kernel_rfl) (⟨_,_,_,Tryz.underlying25⟩) trivial,?_⟩
  refine List.forall_mem_cons.2 ⟨TI.ok_mk (by kernel_rfl) (⟨_,_,_,Tryz.underlying26⟩) trivial,?_⟩
  refine List.forall_mem_cons.2 ⟨TI.ok_mk (by kernel_rfl) (Tryz.underlying27) ⟨rfl,by decide,rfl⟩,?_⟩
  refine List.forall_mem_cons.2 ⟨TI.ok_mk (by kernel_rfl) (⟨_,_,_,Tryz.underlying29⟩) trivial,?_⟩
  refine List.forall_mem_cons.2 ⟨TI.ok_mk (by kernel_rfl) (⟨_,_,_,Tryz.underlying30⟩) trivial,?_⟩
  refine List.forall_mem_cons.2 ⟨TI.ok_mk (by kernel_rfl) (⟨_,_,_,Tryz.underlying31⟩) trivial,?_⟩
  refine List.forall_mem_cons.2 ⟨TI.ok_mk (by kernel_rfl) (⟨_,_,_,Tryz.underlying32⟩) trivial,?_⟩
  refine List.forall_mem_cons.2 ⟨TI.ok_mk (by kernel_rfl) (⟨_,_,_,Tryz.underlying33⟩) trivial,?_⟩
  refine List.forall_mem_cons.2 ⟨TI.ok_mk (by kernel_rfl) (Tryz.underlying34) ⟨rfl,by decide,rfl⟩,?_⟩
  refine List.forall_mem_cons.2 ⟨TI.ok_mk (by kernel_rfl) (⟨_,_,_,Tryz.underlying36⟩) trivial,?_⟩
  refine List.forall_mem_cons.2 ⟨TI.ok_mk (by kernel_rfl) (⟨_,_,_,Tryz.underlying37⟩) trivial,?_⟩
  refine List.forall_mem_cons.2 ⟨TI.ok_mk (by kernel_rfl) (⟨_,_,_,Tryz.underlying38⟩) trivial,?_⟩
  refine List.forall_mem_cons.2 ⟨TI.ok_mk (by kernel_rfl) (⟨_,_,_,Tryz.underlying39⟩) trivial,?_⟩
  refine List.forall_mem_cons.2 ⟨TI.ok_mk (by kernel_rfl) (⟨_,_,_,Tryz.underlying40⟩) trivial,?_⟩
  refine List.forall_mem_cons.2 ⟨TI.ok_mk (by kernel_rfl) (⟨_,_,_,Tryz.underlying41⟩) trivial,?_⟩
  refine List.forall_mem_cons.2 ⟨TI.ok_mk (by kernel_rfl) (Tryz.underlying42) ⟨rfl,by decide,rfl⟩,?_⟩
  refine List.forall_mem_cons.2 ⟨TI.ok_mk (by kernel_rfl) (⟨_,_,_,Tryz.underlying43⟩) trivial,?_⟩
  refine List.forall_mem_cons.2 ⟨TI.ok_mk (by kernel_rfl) (⟨_,_,_,Tryz.underlying44⟩) trivial,?_⟩
  refine List.forall_mem_cons.2 ⟨TI.ok_mk (by kernel_rfl) (Tryz.underlying45) ⟨rfl,by decide,rfl⟩,?_⟩
  refine List.forall_mem_cons.2 ⟨TI.ok_mk (by kernel_rfl) (⟨_,_,_,Tryz.underlying47⟩) trivial,?_⟩
  refine List.forall_mem_cons.2 ⟨TI.ok_mk (by kernel_rfl) (⟨_,_,_,Tryz.underlying48⟩) trivial,?_⟩
  refine List.forall_mem_cons.2 ⟨TI.ok_mk (by kernel_rfl) (⟨_,_,_,Tryz.underlying49⟩) trivial,?_⟩
  refine List.forall_mem_cons.2 ⟨TI.ok_mk (by kernel_rfl) (⟨_,_,_,Tryz.underlying50⟩) trivial,?_⟩
  refine List.forall_mem_cons.2 ⟨TI.ok_mk (by kernel_rfl) (⟨_,_,_,Tryz.underlying51⟩) trivial,?_⟩
  refine List.forall_mem_cons.2 ⟨TI.ok_mk (by kernel_rfl) (⟨_,_,_,Tryz.underlying52⟩) trivial,?_⟩
  refine List.forall_mem_cons.2 ⟨TI.ok_mk (by kernel_rfl) (⟨_,_,_,Tryz.underlying53⟩) trivial,?_⟩
  refine List.forall_mem_cons.2 ⟨TI.ok_mk (by kernel_rfl) (⟨_,Tryz.underlying54,by kernel_rfl,by decide⟩) ⟨rfl,by decide,rfl⟩,?_⟩
  refine List.forall_mem_cons.2 ⟨TI.ok_mk (by kernel_rfl) (⟨_,Tryz.underlying55,by kernel_rfl,by decide⟩) ⟨rfl,by decide,rfl⟩,?_⟩
  refine List.forall_mem_cons.2 ⟨TI.ok_mk (by kernel_rfl) (⟨_,Tryz.underlying56,by kernel_rfl,by decide⟩) ⟨rfl,by decide,rfl⟩,?_⟩
  refine List.forall_mem_cons.2 ⟨TI.ok_mk (by kernel_rfl) (⟨_,Tryz.underlying57,by kernel_rfl,by decide⟩) ⟨rfl,by decide,rfl⟩,?_⟩
  refine List.forall_mem_cons.2 ⟨TI.ok_mk (by kernel_rfl) (⟨_,_,_,Tryz.underlying58⟩) trivial,?_⟩
  refine List.forall_mem_cons.2 ⟨TI.ok_mk (by kernel_rfl) (⟨_,_,_,Tryz.underlying59⟩) trivial,?_⟩
  refine List.forall_mem_cons.2 ⟨TI.ok_mk (by kernel_rfl) (⟨_,_,_,Tryz.underlying60⟩) trivial,?_⟩
  refine List.forall_mem_cons.2 ⟨TI.ok_mk (by kernel_rfl) (⟨_,_,_,Tryz.underlying61⟩) trivial,?_⟩
  refine List.forall_mem_cons.2 ⟨TI.ok_mk (by kernel_rfl) (⟨_,_,_,Tryz.underlying62⟩) trivial,?_⟩
  refine List.forall_mem_cons.2 ⟨TI.ok_mk (by kernel_rfl) (⟨_,_,_,Tryz.underlying63⟩) trivial,?_⟩
  refine List.forall_mem_cons.2 ⟨TI.ok_mk (by kernel_rfl) (⟨_,_,_,Tryz.underlying64⟩) trivial,?_⟩
  refine List.forall_mem_cons.2 ⟨TI.ok_mk (by kernel_rfl) (⟨_,_,_,Tryz.underlying65⟩) trivial,?_⟩
  refine List.forall_mem_cons.2 ⟨TI.ok_mk (by kernel_rfl) (⟨_,_,_,Tryz.underlying67⟩) trivial,?_⟩
  refine List.forall_mem_cons.2 ⟨TI.ok_mk (by kernel_rfl) (⟨_,_,_,Tryz.underlying68⟩) trivial,?_⟩
  refine List.forall_mem_cons.2 ⟨TI.ok_mk (by kernel_rfl) (⟨_,_,_,Tryz.underlying69⟩) trivial,?_⟩
  refine List.forall_mem_cons.2 ⟨TI.ok_mk (by kernel_rfl) (⟨_,_,_,Tryz.underlying71⟩) trivial,?_⟩
  refine List.forall_mem_cons.2 ⟨TI.ok_mk (by kernel_rfl) (⟨_,_,_,Tryz.underlying72⟩) trivial,?_⟩
  refine List.forall_mem_cons.2 ⟨TI.ok_mk (by kernel_rfl) (⟨_,_,_,Tryz.underlying73⟩) trivial,?_⟩
  refine List.forall_mem_cons.2 ⟨TI.ok_mk (by kernel_rfl) (⟨_,_,_,Tryz.underlying74⟩) trivial,?_⟩
  refine List.forall_mem_cons.2 ⟨TI.ok_mk (by kernel_rfl) (⟨_,_,_,Tryz.underlying75⟩) trivial,?_⟩
  refine List.forall_mem_cons.2 ⟨TI.ok_mk (by kernel_rfl) (⟨_,_,_,Tryz.underlying76⟩) trivial,?_⟩
  refine List.forall_mem_cons.2 ⟨TI.ok_mk (by kernel_rfl) (⟨_,_,_,Tryz.underlying77⟩) trivial,?_⟩
  refine List.forall_mem_cons.2 ⟨TI.ok_mk (by kernel_rfl) (⟨_,_,_,Tryz.underlying78⟩) trivial,?_⟩
  refine List.forall_mem_cons.2 ⟨TI.ok_mk (by kernel_rfl) (⟨_,_,_,Tryz.underlying79⟩) trivial,?_⟩
  refine List.forall_mem_cons.2 ⟨TI.ok_mk (by kernel_rfl) (⟨_,_,_,Tryz.underlying80⟩) trivial,?_⟩
  refine List.forall_mem_cons.2 ⟨TI.ok_mk (by kernel_rfl) (⟨_,_,_,Tryz.underlying81⟩) trivial,?_⟩
  refine List.forall_mem_cons.2 ⟨TI.ok_mk (by kernel_rfl) (⟨_,_,_,Tryz.underlying82⟩) trivial,?_⟩
  refine List.forall_mem_cons.2 ⟨TI.ok_mk (by kernel_rfl) (⟨_,_,_,Tryz.underlying83⟩) trivial,?_⟩
  refine List.forall_mem_cons.2 ⟨TI.ok_mk (by kernel_rfl) (⟨_,_,_,Tryz.underlying84⟩) trivial,?_⟩
  refine List.forall_mem_cons.2 ⟨TI.ok_mk (by kernel_rfl) (⟨_,_,_,Tryz.underlying85⟩) trivial,?_⟩
  refine List.forall_mem_cons.2 ⟨TI.ok_mk (by kernel_rfl) (⟨_,_,_,Tryz.underlying87⟩) trivial,?_⟩
  refine List.forall_mem_cons.2 ⟨TI.ok_mk (by kernel_rfl) (⟨_,_,_,Tryz.underlying88⟩) trivial,?_⟩
  refine List.forall_mem_cons.2 ⟨TI.ok_mk (by kernel_rfl) (⟨Tryz.underlying89,[.bool false],1,by kernel_rfl,by kernel_rfl,rfl,by decide,by decide,by decide⟩) trivial,?_⟩
  refine List.forall_mem_cons.2 ⟨TI.ok_mk (by kernel_rfl) (⟨_,_,_,Tryz.underlying90⟩) trivial,?_⟩
  refine List.forall_mem_cons.2 ⟨TI.ok_mk (by kernel_rfl) (⟨_,_,_,Tryz.underlying91⟩) trivial,?_⟩
  refine List.forall_mem_cons.2 ⟨TI.ok_mk (by kernel_rfl) (⟨_,_,_,Tryz.underlying93⟩) trivial,?_⟩
  refine List.forall_mem_cons.2 ⟨TI.ok_mk (by kernel_rfl) (⟨_,_,_,Tryz.underlying94⟩) trivial,?_⟩
  refine List.forall_mem_cons.2 ⟨TI.ok_mk (by kernel_rfl) (Tryz.underlying95) ⟨rfl,by decide,rfl⟩,?_⟩
  refine List.forall_mem_cons.2 ⟨TI.ok_mk (by kernel_rfl) (⟨_,_,_,Tryz.underlying96⟩) trivial,?_⟩
  refine List.forall_mem_cons.2 ⟨TI.ok_mk (by kernel_rfl) (⟨_,_,_,Tryz.underlying97⟩) trivial,?_⟩
  refine List.forall_mem_cons.2 ⟨TI.ok_mk (by kernel_rfl) (⟨_,_,_,Tryz.underlying98⟩) trivial,?_⟩
  refine List.forall_mem_cons.2 ⟨TI.ok_mk (by kernel_rfl) (⟨_,_,_,Tryz.underlying99⟩) trivial,?_⟩
  refine List.forall_mem_cons.2 ⟨TI.ok_mk (by kernel_rfl) (⟨_,_,_,Tryz.underlying101⟩) trivial,?_⟩
  refine List.forall_mem_cons.2 ⟨TI.ok_mk (by kernel_rfl) (⟨_,_,_,Tryz.underlying102⟩) trivial,?_⟩
  refine List.forall_mem_cons.2 ⟨TI.ok_mk (by kernel_rfl) (⟨_,_,_,Tryz.underlying103⟩) trivial,?_⟩
  refine List.forall_mem_cons.2 ⟨TI.ok_mk (by kernel_rfl) (⟨_,_,_,Tryz.underlying104⟩) trivial,?_⟩
  refine List.forall_mem_cons.2 ⟨TI.ok_mk (by kernel_rfl) (Tryz.underlying105) ⟨rfl,by decide,rfl⟩,?_⟩
  refine List.forall_mem_cons.2 ⟨TI.ok_mk (by kernel_rfl) (⟨_,_,_,Tryz.underlying106⟩) trivial,?_⟩
  refine List.forall_mem_cons.2 ⟨TI.ok_mk (by kernel_rfl) (⟨_,_,_,Tryz.underlying107⟩) trivial,?_⟩
  refine List.forall_mem_cons.2 ⟨TI.ok_mk (by kernel_rfl) (⟨_,_,_,Tryz.underlying108⟩) trivial,?_⟩
  refine List.forall_mem_cons.2 ⟨TI.ok_mk (by kernel_rfl) (⟨_,_,_,Tryz.underlying110⟩) trivial,?_⟩
  refine List.forall_mem_cons.2 ⟨TI.ok_mk (by kernel_rfl) (⟨_,_,_,Tryz.underlying111⟩) trivial,?_⟩
  refine List.forall_mem_cons.2 ⟨TI.ok_mk (by kernel_rfl) (⟨_,_,_,Tryz.underlying112⟩) trivial,?_⟩
  refine List.forall_mem_cons.2 ⟨TI.ok_mk (by kernel_rfl) (⟨Tryz.underlying113,by kernel_rfl⟩) trivial,?_⟩
  refine List.forall_mem_cons.2 ⟨TI.ok_mk (by kernel_rfl) (⟨_,_,_,Tryz.underlying114⟩) trivial,?_⟩
  refine List.forall_mem_cons.2 ⟨TI.ok_mk (by kernel_rfl) (⟨_,_,_,Tryz.underlying115⟩) trivial,?_⟩
  refine List.forall_mem_cons.2 ⟨TI.ok_mk (by kernel_rfl) (⟨_,_,_,Tryz.underlying116⟩) trivial,?_⟩
  refine List.forall_mem_cons.2 ⟨TI.ok_mk (by kernel_rfl) (⟨_,_,_,Tryz.underlying118⟩) trivial,?_⟩
  refine List.forall_mem_cons.2 ⟨TI.ok_mk (by kernel_rfl) (⟨_,_,_,Tryz.underlying121⟩) trivial,?_⟩
  refine List.forall_mem_cons.2 ⟨TI.ok_mk (by kernel_rfl) (⟨_,_,_,Tryz.underlying122⟩) trivial,?_⟩
  refine List.forall_mem_cons.2 ⟨TI.ok_mk (by kernel_rfl) (⟨_,_,_,Tryz.underlying123⟩) trivial,?_⟩
  refine List.forall_mem_cons.2 ⟨TI.ok_mk (by kernel_rfl) (⟨Tryz.underlying124,[.nilFunc],1,by kernel_rfl,by kernel_rfl,rfl,by decide,by decide,by decide⟩) trivial,?_⟩
  refine List.forall_mem_cons.2 ⟨TI.ok_mk (by kernel_rfl) (⟨_,_,_,Tryz.underlying125⟩) trivial,?_⟩
  refine List.forall_mem_cons.2 ⟨TI.ok_mk (by kernel_rfl) (⟨_,Tryz.underlying126,by kernel_rfl,by decide⟩) ⟨rfl,by decide,rfl⟩,?_⟩
  refine List.forall_mem_cons.2 ⟨TI.ok_mk (by kernel_rfl) (⟨_,Tryz.underlying127,by kernel_rfl,by decide⟩) ⟨rfl,by decide,rfl⟩,?_⟩
  refine List.forall_mem_cons.2 ⟨TI.ok_mk (by kernel_rfl) (⟨Tryz.underlying128,by kernel_rfl⟩) trivial,?_⟩
  refine List.forall_mem_cons.2 ⟨TI.ok_mk (by kernel_rfl) (⟨_,_,_,Tryz.underlying129⟩) trivial,?_⟩
  refine List.forall_mem_cons.2 ⟨TI.ok_mk (by kernel_rfl) (⟨Tryz.underlying130,by kernel_rfl⟩) trivial,?_⟩
  refine List.forall_mem_cons.2 ⟨TI.ok_mk (by kernel_rfl) (⟨_,_,_,Tryz.underlying132⟩) trivial,?_⟩
  refine List.forall_mem_cons.2 ⟨TI.ok_mk (by kernel_rfl) (⟨_,_,_,Tryz.underlying133⟩) trivial,?_⟩
  refine List.forall_mem_cons.2 ⟨TI.ok_mk (by kernel_rfl) (Tryz.underlying134) ⟨rfl,by decide,rfl⟩,?_⟩
  refine List.forall_mem_cons.2 ⟨TI.ok_mk (by kernel_rfl) (⟨Tryz.underlying135,[.int .i64 0],1,by kernel_rfl,by kernel_rfl,rfl,by decide,by decide,by decide⟩) trivial,?_⟩
  refine List.forall_mem_cons.2 ⟨TI.ok_mk (by kernel_rfl) (⟨_,_,_,Tryz.underlying139⟩) trivial,?_⟩
  refine List.forall_mem_cons.2 ⟨TI.ok_mk (by kernel_rfl) (⟨_,_,_,Tryz.underlying140⟩) trivial,?_⟩
  refine List.forall_mem_cons.2 ⟨TI.ok_mk (by kernel_rfl) (⟨_,_,_,Tryz.underlying141⟩) trivial,?_⟩
  refine List.forall_mem_cons.2 ⟨TI.ok_mk (by kernel_rfl) (Tryz.underlying142) ⟨rfl,by decide,rfl⟩,?_⟩
  refine List.forall_mem_cons.2 ⟨TI.ok_mk (by kernel_rfl) (Tryz.underlying144) ⟨rfl,by decide,rfl⟩,?_⟩
  refine List.forall_mem_cons.2 ⟨TI.ok_mk (by kernel_rfl) (⟨_,_,_,Tryz.underlying152⟩) trivial,?_⟩
  refine List.forall_mem_cons.2 ⟨TI.ok_mk (by kernel_rfl) (⟨_,_,_,Tryz.underlying154⟩) trivial,?_⟩
  refine List.forall_mem_cons.2 ⟨TI.ok_mk (by kernel_rfl) (⟨_,_,_,Tryz.underlying155⟩) trivial,?_⟩
  refine List.forall_mem_cons.2 ⟨TI.ok_mk (by kernel_rfl) (⟨_,_,_,Tryz.underlying156⟩) trivial,?_⟩
  refine List.forall_mem_cons.2 ⟨TI.ok_mk (by kernel_rfl) (Tryz.underlying157) ⟨rfl,by decide,rfl⟩,?_⟩
  refine List.forall_mem_cons.2 ⟨TI.ok_mk (by kernel_rfl) (⟨_,_,_,Tryz.underlying158⟩) trivial,?_⟩
  refine List.forall_mem_cons.2 ⟨TI.ok_mk (by kernel_rfl) (⟨_,_,_,Tryz.underlying159⟩) trivial,?_⟩
  refine List.forall_mem_cons.2 ⟨TI.ok_mk (by kernel_rfl) (⟨_,_,_,Tryz.underlying167⟩) trivial,?_⟩
  refine List.forall_mem_cons.2 ⟨TI.ok_mk (by kernel_rfl) (⟨_,_,_,Tryz.underlying168⟩) trivial,?_⟩
  refine List.forall_mem_cons.2 ⟨TI.ok_mk (by kernel_rfl) (⟨_,_,_,Tryz.underlying169⟩) trivial,?_⟩
  refine List.forall_mem_cons.2 ⟨TI.ok_mk (by kernel_rfl) (⟨_,_,_,Tryz.underlying170⟩) trivial,?_⟩
  refine List.forall_mem_cons.2 ⟨TI.ok_mk (by kernel_rfl) (⟨_,Tryz.underlying185,by kernel_rfl,by decide⟩) trivial,?_⟩
  refine List.forall_mem_cons.2 ⟨TI.ok_mk (by kernel_rfl) (⟨_,Tryz.underlying186,by kernel_rfl,by decide⟩) trivial,?_⟩
  refine List.forall_mem_cons.2 ⟨TI.ok_mk (by kernel_rfl) (Tryz.underlying191) ⟨rfl,by decide,rfl⟩,?_⟩
  refine List.forall_mem_cons.2 ⟨TI.ok_mk (by kernel_rfl) (Tryz.underlying192) ⟨rfl,by decide,rfl⟩,?_⟩
  refine List.forall_mem_cons.2 ⟨TI.ok_mk (by kernel_rfl) (⟨_,_,_,Tryz.underlying193⟩) trivial,?_⟩
  refine List.forall_mem_cons.2 ⟨TI.ok_mk (by kernel_rfl) (⟨_,Tryz.underlying194⟩) trivial,?_⟩
  refine List.forall_mem_cons.2 ⟨TI.ok_mk (by kernel_rfl) (Tryz.underlying195) ⟨rfl,by decide,rfl⟩,?_⟩
  refine List.forall_mem_cons.2 ⟨TI.ok_mk (by kernel_rfl) (Tryz.underlying196) ⟨rfl,by decide,rfl⟩,?_⟩
  refine List.forall_mem_cons.2 ⟨TI.ok_mk (by kernel_rfl) (⟨_,Tryz.underlying197,by kernel_rfl,by decide⟩) trivial,?_⟩
  refine List.forall_mem_cons.2 ⟨TI.ok_mk (by kernel_rfl) (⟨_,Tryz.underlying198,by kernel_rfl,by decide⟩) trivial,?_⟩
  exact fun _ h => absurd h (by simp)
def τ0 : TyTab := fun n => findL n tyTab
def τw : TyTab := fun n => findL n (tyTab.filter fun p => !(Nat.beq p.1 1))
theorem tab0 : TabOk prog τ0 := tabOk_of tabL
theorem tabw : TabOk prog τw := tabOk_sub tabL _
def τz : TyTab := fun n => findL n (tyTab.filter fun p => !(Nat.beq p.1 2))
theorem tabz : TabOk prog τz := tabOk_sub tabL _
theorem mixed : prog.follows .mixedOrders = true := by kernel_rfl
end Go.Proofs.YtldikbpclaeajaaGreatDoor
