/- Part of a proof that a law of the program holds for every input: printed by a program of this work: how the functions are walked. No conditions. -/
import Derived.Test.YtldikbpclaeajaaDoorProg
import Derived.Test.YtldikbpclaeajaaDoorF03
namespace Go.Proofs.YtldikbpclaeajaaDoor
open Go
set_option linter.unusedVariables false
set_option maxRecDepth 8000
set_option maxHeartbeats 4000000
noncomputable abbrev prog : Program := Tryd.prog
def tyTab : List (Nat × TI) := [(1,⟨.fn,1,8,[.nilFunc],none⟩),
  (2,⟨.int .i64,1,8,[.int .i64 0],some (.int .i64)⟩),
  (3,⟨.int .i64,1,8,[.int .i64 0],some (.int .i64)⟩),
  (4,⟨.bool,1,1,[.bool false],some .bool⟩),
  (5,⟨.int .u8,1,1,[.int .u8 0],some (.int .u8)⟩),
  (6,⟨.int .u8,1,1,[.int .u8 0],some (.int .u8)⟩),
  (7,⟨.st [(0,1),(1,1),(2,1),(3,1)],4,24,[.int .i64 0,.int .i64 0,.bool false,.int .u8 0],some (.pair (.int .i64) (.pair (.int .i64) (.pair .bool (.int .u8))))⟩),
  (8,⟨.st [(0,1),(1,1),(2,1),(3,1)],4,24,[.int .i64 0,.int .i64 0,.bool false,.int .u8 0],some (.pair (.int .i64) (.pair (.int .i64) (.pair .bool (.int .u8))))⟩),
  (9,⟨.str,1,16,[.string ByteArray.empty],some .str⟩),
  (10,⟨.str,1,16,[.string ByteArray.empty],some .str⟩),
  (11,⟨.str,1,16,[.string ByteArray.empty],some .str⟩),
  (12,⟨.int .u64,1,8,[.int .u64 0],some (.int .u64)⟩),
  (13,⟨.st [(0,1),(1,1)],2,24,[.string ByteArray.empty,.int .u64 0],some (.pair .str (.int .u64))⟩),
  (14,⟨.st [(0,1),(1,1)],2,24,[.string ByteArray.empty,.int .u64 0],some (.pair .str (.int .u64))⟩),
  (15,⟨.ptr,1,8,[.pointer none],none⟩),
  (16,⟨.ptr,1,8,[.pointer none],none⟩),
  (17,⟨.ptr,1,8,[.pointer none],none⟩),
  (18,⟨.st [(0,1)],1,8,[.pointer none],none⟩),
  (19,⟨.st [(0,1)],1,8,[.pointer none],none⟩),
  (21,⟨.int .i32,1,4,[.int .i32 0],some (.int .i32)⟩),
  (22,⟨.sl 36,1,24,[.slice none 0 0],some (.sl (.sl (.pair (.int .i64) (.pair (.int .i64) (.pair (.sl (.int .i64)) (.int .i64))))))⟩),
  (23,⟨.st [(0,1),(1,1)],2,32,[.int .i64 0,.slice none 0 0],some (.pair (.int .i64) (.sl (.sl (.pair (.int .i64) (.pair (.int .i64) (.pair (.sl (.int .i64)) (.int .i64)))))))⟩),
  (24,⟨.st [(0,1),(1,1)],2,32,[.int .i64 0,.slice none 0 0],some (.pair (.int .i64) (.sl (.sl (.pair (.int .i64) (.pair (.int .i64) (.pair (.sl (.int .i64)) (.int .i64)))))))⟩),
  (25,⟨.fn,1,8,[.nilFunc],none⟩),
  (26,⟨.fn,1,8,[.nilFunc],none⟩),
  (27,⟨.int .i64,1,8,[.int .i64 0],some (.int .i64)⟩),
  (29,⟨.fn,1,8,[.nilFunc],none⟩),
  (30,⟨.fn,1,8,[.nilFunc],none⟩),
  (31,⟨.fn,1,8,[.nilFunc],none⟩),
  (32,⟨.fn,1,8,[.nilFunc],none⟩),
  (33,⟨.sl 3,1,24,[.slice none 0 0],some (.sl (.int .i64))⟩),
  (35,⟨.fn,1,8,[.nilFunc],none⟩),
  (36,⟨.sl 40,1,24,[.slice none 0 0],some (.sl (.pair (.int .i64) (.pair (.int .i64) (.pair (.sl (.int .i64)) (.int .i64)))))⟩),
  (37,⟨.st [(0,1),(1,1)],2,32,[.slice none 0 0,.int .i64 0],some (.pair (.sl (.int .i64)) (.int .i64))⟩),
  (38,⟨.st [(0,1),(1,1)],2,32,[.slice none 0 0,.int .i64 0],some (.pair (.sl (.int .i64)) (.int .i64))⟩),
  (39,⟨.st [(0,1),(1,1),(2,2)],4,48,[.int .i64 0,.int .i64 0,.slice none 0 0,.int .i64 0],some (.pair (.int .i64) (.pair (.int .i64) (.pair (.sl (.int .i64)) (.int .i64))))⟩),
  (40,⟨.st [(0,1),(1,1),(2,2)],4,48,[.int .i64 0,.int .i64 0,.slice none 0 0,.int .i64 0],some (.pair (.int .i64) (.pair (.int .i64) (.pair (.sl (.int .i64)) (.int .i64))))⟩),
  (41,⟨.fn,1,8,[.nilFunc],none⟩),
  (42,⟨.fn,1,8,[.nilFunc],none⟩),
  (43,⟨.sl 24,1,24,[.slice none 0 0],some (.sl (.pair (.int .i64) (.sl (.sl (.pair (.int .i64) (.pair (.int .i64) (.pair (.sl (.int .i64)) (.int .i64))))))))⟩),
  (44,⟨.fn,1,8,[.nilFunc],none⟩),
  (45,⟨.fn,1,8,[.nilFunc],none⟩),
  (46,⟨.fn,1,8,[.nilFunc],none⟩),
  (47,⟨.fn,1,8,[.nilFunc],none⟩),
  (48,⟨.fn,1,8,[.nilFunc],none⟩),
  (49,⟨.fn,1,8,[.nilFunc],none⟩),
  (50,⟨.fn,1,8,[.nilFunc],none⟩),
  (51,⟨.fn,1,8,[.nilFunc],none⟩),
  (52,⟨.fn,1,8,[.nilFunc],none⟩),
  (53,⟨.fn,1,8,[.nilFunc],none⟩),
  (54,⟨.fn,1,8,[.nilFunc],none⟩),
  (55,⟨.fn,1,8,[.nilFunc],none⟩),
  (56,⟨.fn,1,8,[.nilFunc],none⟩),
  (58,⟨.fn,1,8,[.nilFunc],none⟩),
  (59,⟨.fn,1,8,[.nilFunc],none⟩),
  (60,⟨.fn,1,8,[.nilFunc],none⟩),
  (61,⟨.fn,1,8,[.nilFunc],none⟩),
  (62,⟨.fn,1,8,[.nilFunc],none⟩),
  (63,⟨.fn,1,8,[.nilFunc],none⟩),
  (64,⟨.fn,1,8,[.nilFunc],none⟩),
  (65,⟨.fn,1,8,[.nilFunc],none⟩),
  (67,⟨.fn,1,8,[.nilFunc],none⟩),
  (68,⟨.fn,1,8,[.nilFunc],none⟩),
  (70,⟨.fn,1,8,[.nilFunc],none⟩),
  (71,⟨.fn,1,8,[.nilFunc],none⟩),
  (73,⟨.fn,1,8,[.nilFunc],none⟩),
  (74,⟨.fn,1,8,[.nilFunc],none⟩),
  (75,⟨.fn,1,8,[.nilFunc],none⟩),
  (76,⟨.fn,1,8,[.nilFunc],none⟩),
  (77,⟨.map 9 4,1,8,[.map none],none⟩),
  (78,⟨.fn,1,8,[.nilFunc],none⟩),
  (80,⟨.fn,1,8,[.nilFunc],none⟩),
  (82,⟨.fn,1,8,[.nilFunc],none⟩),
  (83,⟨.fn,1,8,[.nilFunc],none⟩),
  (84,⟨.fn,1,8,[.nilFunc],none⟩),
  (85,⟨.fn,1,8,[.nilFunc],none⟩),
  (86,⟨.fn,1,8,[.nilFunc],none⟩),
  (87,⟨.fn,1,8,[.nilFunc],none⟩),
  (88,⟨.fn,1,8,[.nilFunc],none⟩),
  (90,⟨.fn,1,8,[.nilFunc],none⟩),
  (91,⟨.fn,1,8,[.nilFunc],none⟩),
  (92,⟨.sl 5,1,24,[.slice none 0 0],some (.sl (.int .u8))⟩),
  (93,⟨.fn,1,8,[.nilFunc],none⟩),
  (94,⟨.fn,1,8,[.nilFunc],none⟩),
  (95,⟨.fn,1,8,[.nilFunc],none⟩),
  (96,⟨.arr 3 95,3,24,[.nilFunc,.nilFunc,.nilFunc],none⟩),
  (97,⟨.fn,1,8,[.nilFunc],none⟩),
  (98,⟨.st [(0,4)],4,48,[.int .i64 0,.int .i64 0,.slice none 0 0,.int .i64 0],some (.pair (.int .i64) (.pair (.int .i64) (.pair (.sl (.int .i64)) (.int .i64))))⟩),
  (99,⟨.st [(0,4)],4,48,[.int .i64 0,.int .i64 0,.slice none 0 0,.int .i64 0],some (.pair (.int .i64) (.pair (.int .i64) (.pair (.sl (.int .i64)) (.int .i64))))⟩),
  (100,⟨.map 9 3,1,8,[.map none],none⟩),
  (101,⟨.map 3 4,1,8,[.map none],none⟩),
  (103,⟨.fn,1,8,[.nilFunc],none⟩),
  (104,⟨.fn,1,8,[.nilFunc],none⟩),
  (105,⟨.int .u64,1,8,[.int .u64 0],some (.int .u64)⟩),
  (106,⟨.arr 3 3,3,24,[.int .i64 0,.int .i64 0,.int .i64 0],none⟩),
  (107,⟨.fn,1,8,[.nilFunc],none⟩),
  (108,⟨.fn,1,8,[.nilFunc],none⟩),
  (109,⟨.fn,1,8,[.nilFunc],none⟩),
  (110,⟨.fn,1,8,[.nilFunc],none⟩),
  (111,⟨.fn,1,8,[.nilFunc],none⟩),
  (112,⟨.fn,1,8,[.nilFunc],none⟩),
  (113,⟨.int .i64,1,8,[.int .i64 0],some (.int .i64)⟩),
  (115,⟨.fn,1,8,[.nilFunc],none⟩),
  (116,⟨.fn,1,8,[.nilFunc],none⟩),
  (117,⟨.fn,1,8,[.nilFunc],none⟩),
  (118,⟨.fn,1,8,[.nilFunc],none⟩),
  (119,⟨.fn,1,8,[.nilFunc],none⟩),
  (120,⟨.int .u32,1,4,[.int .u32 0],some (.int .u32)⟩),
  (121,⟨.fn,1,8,[.nilFunc],none⟩),
  (122,⟨.int .u64,1,8,[.int .u64 0],some (.int .u64)⟩),
  (123,⟨.fn,1,8,[.nilFunc],none⟩),
  (124,⟨.fn,1,8,[.nilFunc],none⟩),
  (125,⟨.fn,1,8,[.nilFunc],none⟩),
  (126,⟨.fn,1,8,[.nilFunc],none⟩),
  (127,⟨.fn,1,8,[.nilFunc],none⟩),
  (128,⟨.int .u64,1,8,[.int .u64 0],some (.int .u64)⟩),
  (129,⟨.fn,1,8,[.nilFunc],none⟩),
  (130,⟨.fn,1,8,[.nilFunc],none⟩),
  (131,⟨.fn,1,8,[.nilFunc],none⟩),
  (132,⟨.ptr,1,8,[.pointer none],none⟩),
  (133,⟨.fn,1,8,[.nilFunc],none⟩),
  (134,⟨.fn,1,8,[.nilFunc],none⟩),
  (135,⟨.arr 24 5,24,24,[.int .u8 0,.int .u8 0,.int .u8 0,.int .u8 0,.int .u8 0,.int .u8 0,.int .u8 0,.int .u8 0,.int .u8 0,.int .u8 0,.int .u8 0,.int .u8 0,.int .u8 0,.int .u8 0,.int .u8 0,.int .u8 0,.int .u8 0,.int .u8 0,.int .u8 0,.int .u8 0,.int .u8 0,.int .u8 0,.int .u8 0,.int .u8 0],none⟩),
  (136,⟨.fn,1,8,[.nilFunc],none⟩),
  (138,⟨.fn,1,8,[.nilFunc],none⟩),
  (139,⟨.fn,1,8,[.nilFunc],none⟩),
  (140,⟨.fn,1,8,[.nilFunc],none⟩),
  (141,⟨.fn,1,8,[.nilFunc],none⟩),
  (142,⟨.fn,1,8,[.nilFunc],none⟩),
  (143,⟨.ptr,1,8,[.pointer none],none⟩),
  (145,⟨.fn,1,8,[.nilFunc],none⟩),
  (146,⟨.fn,1,8,[.nilFunc],none⟩),
  (147,⟨.fn,1,8,[.nilFunc],none⟩),
  (148,⟨.arr 20 122,20,160,[.int .u64 0,.int .u64 0,.int .u64 0,.int .u64 0,.int .u64 0,.int .u64 0,.int .u64 0,.int .u64 0,.int .u64 0,.int .u64 0,.int .u64 0,.int .u64 0,.int .u64 0,.int .u64 0,.int .u64 0,.int .u64 0,.int .u64 0,.int .u64 0,.int .u64 0,.int .u64 0],none⟩),
  (149,⟨.arr 65 5,65,65,[.int .u8 0,.int .u8 0,.int .u8 0,.int .u8 0,.int .u8 0,.int .u8 0,.int .u8 0,.int .u8 0,.int .u8 0,.int .u8 0,.int .u8 0,.int .u8 0,.int .u8 0,.int .u8 0,.int .u8 0,.int .u8 0,.int .u8 0,.int .u8 0,.int .u8 0,.int .u8 0,.int .u8 0,.int .u8 0,.int .u8 0,.int .u8 0,.int .u8 0,.int .u8 0,.int .u8 0,.int .u8 0,.int .u8 0,.int .u8 0,.int .u8 0,.int .u8 0,.int .u8 0,.int .u8 0,.int .u8 0,.int .u8 0,.int .u8 0,.int .u8 0,.int .u8 0,.int .u8 0,.int .u8 0,.int .u8 0,.int .u8 0,.int .u8 0,.int .u8 0,.int .u8 0,.int .u8 0,.int .u8 0,.int .u8 0,.int .u8 0,.int .u8 0,.int .u8 0,.int .u8 0,.int .u8 0,.int .u8 0,.int .u8 0,.int .u8 0,.int .u8 0,.int .u8 0,.int .u8 0,.int .u8 0,.int .u8 0,.int .u8 0,.int .u8 0,.int .u8 0],none⟩),
  (150,⟨.arr 32 5,32,32,[.int .u8 0,.int .u8 0,.int .u8 0,.int .u8 0,.int .u8 0,.int .u8 0,.int .u8 0,.int .u8 0,.int .u8 0,.int .u8 0,.int .u8 0,.int .u8 0,.int .u8 0,.int .u8 0,.int .u8 0,.int .u8 0,.int .u8 0,.int .u8 0,.int .u8 0,.int .u8 0,.int .u8 0,.int .u8 0,.int .u8 0,.int .u8 0,.int .u8 0,.int .u8 0,.int .u8 0,.int .u8 0,.int .u8 0,.int .u8 0,.int .u8 0,.int .u8 0],none⟩),
  (151,⟨.arr 64 5,64,64,[.int .u8 0,.int .u8 0,.int .u8 0,.int .u8 0,.int .u8 0,.int .u8 0,.int .u8 0,.int .u8 0,.int .u8 0,.int .u8 0,.int .u8 0,.int .u8 0,.int .u8 0,.int .u8 0,.int .u8 0,.int .u8 0,.int .u8 0,.int .u8 0,.int .u8 0,.int .u8 0,.int .u8 0,.int .u8 0,.int .u8 0,.int .u8 0,.int .u8 0,.int .u8 0,.int .u8 0,.int .u8 0,.int .u8 0,.int .u8 0,.int .u8 0,.int .u8 0,.int .u8 0,.int .u8 0,.int .u8 0,.int .u8 0,.int .u8 0,.int .u8 0,.int .u8 0,.int .u8 0,.int .u8 0,.int .u8 0,.int .u8 0,.int .u8 0,.int .u8 0,.int .u8 0,.int .u8 0,.int .u8 0,.int .u8 0,.int .u8 0,.int .u8 0,.int .u8 0,.int .u8 0,.int .u8 0,.int .u8 0,.int .u8 0,.int .u8 0,.int .u8 0,.int .u8 0,.int .u8 0,.int .u8 0,.int .u8 0,.int .u8 0,.int .u8 0],none⟩),
  (152,⟨.fn,1,8,[.nilFunc],none⟩),
  (153,⟨.st [(0,1),(1,1),(2,1),(3,1)],4,40,[.pointer none,.pointer none,.pointer none,.string ByteArray.empty],none⟩),
  (154,⟨.st [(0,1),(1,1),(2,1),(3,1)],4,40,[.pointer none,.pointer none,.pointer none,.string ByteArray.empty],none⟩),
  (158,⟨.fn,1,8,[.nilFunc],none⟩),
  (159,⟨.int .u8,1,1,[.int .u8 0],some (.int .u8)⟩),
  (160,⟨.int .u8,1,1,[.int .u8 0],some (.int .u8)⟩),
  (161,⟨.fn,1,8,[.nilFunc],none⟩),
  (162,⟨.ptr,1,8,[.pointer none],none⟩),
  (163,⟨.int .i32,1,4,[.int .i32 0],some (.int .i32)⟩),
  (164,⟨.int .i32,1,4,[.int .i32 0],some (.int .i32)⟩),
  (165,⟨.st [(0,1),(1,1),(2,1),(3,1),(4,1),(5,1),(6,1),(7,1),(8,1),(9,1),(10,1)],11,48,[.int .u64 0,.int .u64 0,.int .u32 0,.int .u8 0,.int .u8 0,.int .u8 0,.int .u8 0,.nilFunc,.pointer none,.int .i32 0,.int .i32 0],none⟩),
  (166,⟨.st [(0,1),(1,1),(2,1),(3,1),(4,1),(5,1),(6,1),(7,1),(8,1),(9,1),(10,1)],11,48,[.int .u64 0,.int .u64 0,.int .u32 0,.int .u8 0,.int .u8 0,.int .u8 0,.int .u8 0,.nilFunc,.pointer none,.int .i32 0,.int .i32 0],none⟩)]
theorem tabL : ∀ p ∈ tyTab,p.2.Ok prog p.1 := by
  refine List.forall_mem_cons.2 ⟨TI.ok_mk (by kernel_rfl) (⟨_,_,_,Tryd.underlying1⟩) trivial,?_⟩
  refine List.forall_mem_cons.2 ⟨TI.ok_mk (by kernel_rfl) (Tryd.underlying2) ⟨rfl,by decide,rfl⟩,?_⟩
  refine List.forall_mem_cons.2 ⟨TI.ok_mk (by kernel_rfl) (Tryd.underlying3) ⟨rfl,by decide,rfl⟩,?_⟩
  refine List.forall_mem_cons.2 ⟨TI.ok_mk (by kernel_rfl) (Tryd.underlying4) ⟨rfl,by decide,rfl⟩,?_⟩
  refine List.forall_mem_cons.2 ⟨TI.ok_mk (by kernel_rfl) (Tryd.underlying5) ⟨rfl,by decide,rfl⟩,?_⟩
  refine List.forall_mem_cons.2 ⟨TI.ok_mk (by kernel_rfl) (Tryd.underlying6) ⟨rfl,by decide,rfl⟩,?_⟩
  refine List.forall_mem_cons.2 ⟨TI.ok_mk (by kernel_rfl) (⟨_,Tryd.underlying7,by kernel_rfl,by decide⟩) ⟨rfl,by decide,rfl⟩,?_⟩
  refine List.forall_mem_cons.2 ⟨TI.ok_mk (by kernel_rfl) (⟨_,Tryd.underlying8,by kernel_rfl,by decide⟩) ⟨rfl,by decide,rfl⟩,?_⟩
  refine List.forall_mem_cons.2 ⟨TI.ok_mk (by kernel_rfl) (Tryd.underlying9) ⟨rfl,by decide,rfl⟩,?_⟩
  refine List.forall_mem_cons.2 ⟨TI.ok_mk (by kernel_rfl) (Tryd.underlying10) ⟨rfl,by decide,rfl⟩,?_⟩
  refine List.forall_mem_cons.2 ⟨TI.ok_mk (by kernel_rfl) (Tryd.underlying11) ⟨rfl,by decide,rfl⟩,?_⟩
  refine List.forall_mem_cons.2 ⟨TI.ok_mk (by kernel_rfl) (Tryd.underlying12) ⟨rfl,by decide,rfl⟩,?_⟩
  refine List.forall_mem_cons.2 ⟨TI.ok_mk (by kernel_rfl) (⟨_,Tryd.underlying13,by kernel_rfl,by decide⟩) ⟨rfl,by decide,rfl⟩,?_⟩
  refine List.forall_mem_cons.2 ⟨TI.ok_mk (by kernel_rfl) (⟨_,Tryd.underlying14,by kernel_rfl,by decide⟩) ⟨rfl,by decide,rfl⟩,?_⟩
  refine List.forall_mem_cons.2 ⟨TI.ok_mk (by kernel_rfl) (⟨_,Tryd.underlying15⟩) trivial,?_⟩
  refine List.forall_mem_cons.2 ⟨TI.ok_mk (by kernel_rfl) (⟨_,Tryd.underlying16⟩) trivial,?_⟩
  refine List.forall_mem_cons.2 ⟨TI.ok_mk (by kernel_rfl) (⟨_,Tryd.underlying17⟩) trivial,?_⟩
  refine List.forall_mem_cons.2 ⟨TI.ok_mk (by kernel_rfl) (⟨_,Tryd.underlying18,by kernel_rfl,by decide⟩) trivial,?_⟩
  refine List.forall_mem_cons.2 ⟨TI.ok_mk (by kernel_rfl) (⟨_,Tryd.underlying19,by kernel_rfl,by decide⟩) trivial,?_⟩
  refine List.forall_mem_cons.2 ⟨TI.ok_mk (by kernel_rfl) (Tryd.underlying21) ⟨rfl,by decide,rfl⟩,?_⟩
  refine List.forall_mem_cons.2 ⟨TI.ok_mk (by kernel_rfl) (Tryd.underlying22) ⟨rfl,by decide,rfl⟩,?_⟩
  refine List.forall_mem_cons.2 ⟨TI.ok_mk (by kernel_rfl) (⟨_,Tryd.underlying23,by kernel_rfl,by decide⟩) ⟨rfl,by decide,rfl⟩,?_⟩
  refine List.forall_mem_cons.2 ⟨TI.ok_mk (by kernel_rfl) (⟨_,Tryd.underlying24,by kernel_rfl,by decide⟩) ⟨rfl,by decide,rfl⟩,?_⟩
  refine List.forall_mem_cons.2 ⟨TI.ok_mk (by kernel_rfl) (⟨_,_,_,Tryd.underlying25⟩) trivial,?_⟩
  refine List.forall_mem_cons.2 ⟨TI.ok_mk (by kernel_rfl) (⟨_,_,_,Tryd.underlying26⟩) trivial,?_⟩
  refine List.forall_mem_cons.2 ⟨TI.ok_mk (by kernel_rfl) (Tryd.underlying27) ⟨rfl,by decide,rfl⟩,?_⟩
  refine List.forall_mem_cons.2 ⟨TI.ok_mk (by kernel_rfl) (⟨_,_,_,Tryd.underlying29⟩) trivial,?_⟩
  refine List.forall_mem_cons.2 ⟨TI.ok_mk (by kernel_rfl) (⟨_,_,_,Tryd.underlying30⟩) trivial,?_⟩
  refine List.forall_mem_cons.2 ⟨TI.ok_mk (by kernel_rfl) (⟨_,_,_,Tryd.underlying31⟩) trivial,?_⟩
  refine List.forall_mem_cons.2 ⟨TI.ok_mk (by kernel_rfl) (⟨_,_,_,Tryd.underlying32⟩) trivial,?_⟩
  refine List.forall_mem_cons.2 ⟨TI.ok_mk (by kernel_rfl) (Tryd.underlying33) ⟨rfl,by decide,rfl⟩,?_⟩
  refine List.forall_mem_cons.2 ⟨TI.ok_mk (by kernel_rfl) (⟨_,_,_,Tryd.underlying35⟩) trivial,?_⟩
  refine List.forall_mem_cons.2 ⟨TI.ok_mk (by kernel_rfl) (Tryd.underlying36) ⟨rfl,by decide,rfl⟩,?_⟩
  refine List.forall_mem_cons.2 ⟨TI.ok_mk (by kernel_rfl) (⟨_,Tryd.underlying37,by kernel_rfl,by decide⟩) ⟨rfl,by decide,rfl⟩,?_⟩
  refine List.forall_mem_cons.2 ⟨TI.ok_mk (by kernel_rfl) (⟨_,Tryd.underlying38,by kernel_rfl,by decide⟩) ⟨rfl,by decide,rfl⟩,?_⟩
  refine List.forall_mem_cons.2 ⟨TI.ok_mk (by kernel_rfl) (⟨_,Tryd.underlying39,by kernel_rfl,by decide⟩) ⟨rfl,by decide,rfl⟩,?_⟩
  refine List.forall_mem_cons.2 ⟨TI.ok_mk (by kernel_rfl) (⟨_,Tryd.underlying40,by kernel_rfl,by decide⟩) ⟨rfl,by decide,rfl⟩,?_⟩
  refine List.forall_mem_cons.2 ⟨TI.ok_mk (by kernel_rfl) (⟨_,_,_,Tryd.underlying41⟩) trivial,?_⟩
  refine List.forall_mem_cons.2 ⟨TI.ok_mk (by kernel_rfl) (⟨_,_,_,Tryd.underlying42⟩) trivial,?_⟩
  refine List.forall_mem_cons.2 ⟨TI.ok_mk (by kernel_rfl) (Tryd.underlying43) ⟨rfl,by decide,rfl⟩,?_⟩
  refine List.forall_mem_cons.2 ⟨TI.ok_mk (by kernel_rfl) (⟨_,_,_,Tryd.underlying44⟩) trivial,?_⟩
  refine List.forall_mem_cons.2 ⟨TI.ok_mk (by kernel_rfl) (⟨_,_,_,Tryd.underlying45⟩) trivial,?_⟩
  refine List.forall_mem_cons.2 ⟨TI.ok_mk (by kernel_rfl) (⟨_,_,_,Tryd.underlying46⟩) trivial,?_⟩
  refine List.forall_mem_cons.2 ⟨TI.ok_mk (by kernel_rfl) (⟨_,_,_,Tryd.underlying47⟩) trivial,?_⟩
  refine List.forall_mem_cons.2 ⟨TI.ok_mk (by kernel_rfl) (⟨_,_,_,Tryd.underlying48⟩) trivial,?_⟩
  refine List.forall_mem_cons.2 ⟨TI.ok_mk (by kernel_rfl) (⟨_,_,_,Tryd.underlying49⟩) trivial,?_⟩
  refine List.forall_mem_cons.2 ⟨TI.ok_mk (by kernel_rfl) (⟨_,_,_,Tryd.underlying50⟩) trivial,?_⟩
  refine List.forall_mem_cons.2 ⟨TI.ok_mk (by kernel_rfl) (⟨_,_,_,Tryd.underlying51⟩) trivial,?_⟩
  refine List.forall_mem_cons.2 ⟨TI.ok_mk (by kernel_rfl) (⟨_,_,_,Tryd.underlying52⟩) trivial,?_⟩
  refine List.forall_mem_cons.2 ⟨TI.ok_mk (by kernel_rfl) (⟨_,_,_,Tryd.underlying53⟩) trivial,?_⟩
  refine List.forall_mem_cons.2 ⟨TI.ok_mk (by kernel_rfl) (⟨_,_,_,Tryd.underlying54⟩) trivial,?_⟩
  refine List.forall_mem_cons.2 ⟨TI.ok_mk (by kernel_rfl) (⟨_,_,_,Tryd.underlying55⟩) trivial,?_⟩
  refine List.forall_mem_cons.2 ⟨TI.ok_mk (by kernel_rfl) (⟨_,_,_,Tryd.underlying56⟩) trivial,?_⟩
  refine List.forall_mem_cons.2 ⟨TI.ok_mk (by kernel_rfl) (⟨_,_,_,Tryd.underlying58⟩) trivial,?_⟩
  refine List.forall_mem_cons.2 ⟨TI.ok_mk (by kernel_rfl) (⟨_,_,_,Tryd.underlying59⟩) trivial,?_⟩
  refine List.forall_mem_cons.2 ⟨TI.ok_mk (by kernel_rfl) (⟨_,_,_,Tryd.underlying60⟩) trivial,?_⟩
  refine List.forall_mem_cons.2 ⟨TI.ok_mk (by kernel_rfl) (⟨_,_,_,Tryd.underlying61⟩) trivial,?_⟩
  refine List.forall_mem_cons.2 ⟨TI.ok_mk (by kernel_rfl) (⟨_,_,_,Tryd.underlying62⟩) trivial,?_⟩
  refine List.forall_mem_cons.2 ⟨TI.ok_mk (by kernel_rfl) (⟨_,_,_,Tryd.underlying63⟩) trivial,?_⟩
  refine List.forall_mem_cons.2 ⟨TI.ok_mk (by kernel_rfl) (⟨_,_,_,Tryd.underlying64⟩) trivial,?_⟩
  refine List.forall_mem_cons.2 ⟨TI.ok_mk (by kernel_rfl) (⟨_,_,_,Tryd.underlying65⟩) trivial,?_⟩
  refine List.forall_mem_cons.2 ⟨TI.ok_mk (by kernel_rfl) (⟨_,_,_,Tryd.underlying67⟩) trivial,?_⟩
  refine List.forall_mem_cons.2 ⟨TI.ok_mk (by kernel_rfl) (⟨_,_,_,Tryd.underlying68⟩) trivial,?_⟩
  refine List.forall_mem_cons.2 ⟨TI.ok_mk (by kernel_rfl) (⟨_,_,_,Tryd.underlying70⟩) trivial,?_⟩
  refine List.forall_mem_cons.2 ⟨TI.ok_mk (by kernel_rfl) (⟨_,_,_,Tryd.underlying71⟩) trivial,?_⟩
  refine List.forall_mem_cons.2 ⟨TI.ok_mk (by kernel_rfl) (⟨_,_,_,Tryd.underlying73⟩) trivial,?_⟩
  refine List.forall_mem_cons.2 ⟨TI.ok_mk (by kernel_rfl) (⟨_,_,_,Tryd.underlying74⟩) trivial,?_⟩
  refine List.forall_mem_cons.2 ⟨TI.ok_mk (by kernel_rfl) (⟨_,_,_,Tryd.underlying75⟩) trivial,?_⟩
  refine List.forall_mem_cons.2 ⟨TI.ok_mk (by kernel_rfl) (⟨_,_,_,Tryd.underlying76⟩) trivial,?_⟩
  refine List.forall_mem_cons.2 ⟨TI.ok_mk (by kernel_rfl) (⟨Tryd.underlying77,by kernel_rfl⟩) trivial,?_⟩
  refine List.forall_mem_cons.2 ⟨TI.ok_mk (by kernel_rfl) (⟨_,_,_,Tryd.underlying78⟩) trivial,?_⟩
  refine List.forall_mem_cons.2 ⟨TI.ok_mk (by kernel_rfl) (⟨_,_,_,Tryd.underlying80⟩) trivial,?_⟩
  refine List.forall_mem_cons.2 ⟨TI.ok_mk (by kernel_rfl) (⟨_,_,_,Tryd.underlying82⟩) trivial,?_⟩
  refine List.forall_mem_cons.2 ⟨TI.ok_mk (by kernel_rfl) (⟨_,_,_,Tryd.underlying83⟩) trivial,?_⟩
  refine List.forall_mem_cons.2 ⟨TI.ok_mk (by kernel_rfl) (⟨_,_,_,Tryd.underlying84⟩) trivial,?_⟩
  refine List.forall_mem_cons.2 ⟨TI.ok_mk (by kernel_rfl) (⟨_,_,_,Tryd.underlying85⟩) trivial,?_⟩
  refine List.forall_mem_cons.2 ⟨TI.ok_mk (by kernel_rfl) (⟨_,_,_,Tryd.underlying86⟩) trivial,?_⟩
  refine List.forall_mem_cons.2 ⟨TI.ok_mk (by kernel_rfl) (⟨_,_,_,Tryd.underlying87⟩) trivial,?_⟩
  refine List.forall_mem_cons.2 ⟨TI.ok_mk (by kernel_rfl) (⟨_,_,_,Tryd.underlying88⟩) trivial,?_⟩
  refine List.forall_mem_cons.2 ⟨TI.ok_mk (by kernel_rfl) (⟨_,_,_,Tryd.underlying90⟩) trivial,?_⟩
  refine List.forall_mem_cons.2 ⟨TI.ok_mk (by kernel_rfl) (⟨_,_,_,Tryd.underlying91⟩) trivial,?_⟩
  refine List.forall_mem_cons.2 ⟨TI.ok_mk (by kernel_rfl) (Tryd.underlying92) ⟨rfl,by decide,rfl⟩,?_⟩
  refine List.forall_mem_cons.2 ⟨TI.ok_mk (by kernel_rfl) (⟨_,_,_,Tryd.underlying93⟩) trivial,?_⟩
  refine List.forall_mem_cons.2 ⟨TI.ok_mk (by kernel_rfl) (⟨_,_,_,Tryd.underlying94⟩) trivial,?_⟩
  refine List.forall_mem_cons.2 ⟨TI.ok_mk (by kernel_rfl) (⟨_,_,_,Tryd.underlying95⟩) trivial,?_⟩
  refine List.forall_mem_cons.2 ⟨TI.ok_mk (by kernel_rfl) (⟨Tryd.underlying96,[.nilFunc],1,by kernel_rfl,by kernel_rfl,rfl,by decide,by decide,by decide⟩) trivial,?_⟩
  refine List.forall_mem_cons.2 ⟨TI.ok_mk (by kernel_rfl) (⟨_,_,_,Tryd.underlying97⟩) trivial,?_⟩
  refine List.forall_mem_cons.2 ⟨TI.ok_mk (by kernel_rfl) (⟨_,Tryd.underlying98,by kernel_rfl,by decide⟩) ⟨rfl,by decide,rfl⟩,?_⟩
  refine List.forall_mem_cons.2 ⟨TI.ok_mk (by kernel_rfl) (⟨_,Tryd.underlying99,by kernel_rfl,by decide⟩) ⟨rfl,by decide,rfl⟩,?_⟩
  refine List.forall_mem_cons.2 ⟨TI.ok_mk (by kernel_rfl) (⟨Tryd.underlying100,by kernel_rfl⟩) trivial,?_⟩
  refine List.forall_mem_cons.2 ⟨TI.ok_mk (by kernel_rfl) (⟨Tryd.underlying101,by kernel_rfl⟩) trivial,?_⟩
  refine List.forall_mem_cons.2 ⟨TI.ok_mk (by kernel_rfl) (⟨_,_,_,Tryd.underlying103⟩) trivial,?_⟩
  refine List.forall_mem_cons.2 ⟨TI.ok_mk (by kernel_rfl) (⟨_,_,_,Tryd.underlying104⟩) trivial,?_⟩
  refine List.forall_mem_cons.2 ⟨TI.ok_mk (by kernel_rfl) (Tryd.underlying105) ⟨rfl,by decide,rfl⟩,?_⟩
  refine List.forall_mem_cons.2 ⟨TI.ok_mk (by kernel_rfl) (⟨Tryd.underlying106,[.int .i64 0],1,by kernel_rfl,by kernel_rfl,rfl,by decide,by decide,by decide⟩) trivial,?_⟩
  refine List.forall_mem_cons.2 ⟨TI.ok_mk (by kernel_rfl) (⟨_,_,_,Tryd.underlying107⟩) trivial,?_⟩
  refine List.forall_mem_cons.2 ⟨TI.ok_mk (by kernel_rfl) (⟨_,_,_,Tryd.underlying108⟩) trivial,?_⟩
  refine List.forall_mem_cons.2 ⟨TI.ok_mk (by kernel_rfl) (⟨_,_,_,Tryd.underlying109⟩) trivial,?_⟩
  refine List.forall_mem_cons.2 ⟨TI.ok_mk (by kernel_rfl) (⟨_,_,_,Tryd.underlying110⟩) trivial,?_⟩
  refine List.forall_mem_cons.2 ⟨TI.ok_mk (by kernel_rfl) (⟨_,_,_,Tryd.underlying111⟩) trivial,?_⟩
  refine List.forall_mem_cons.2 ⟨TI.ok_mk (by kernel_rfl) (⟨_,_,_,Tryd.underlying112⟩) trivial,?_⟩
  refine List.forall_mem_cons.2 ⟨TI.ok_mk (by kernel_rfl) (Tryd.underlying113) ⟨rfl,by decide,rfl⟩,?_⟩
  refine List.forall_mem_cons.2 ⟨TI.ok_mk (by kernel_rfl) (⟨_,_,_,Tryd.underlying115⟩) trivial,?_⟩
  refine List.forall_mem_cons.2 ⟨TI.ok_mk (by kernel_rfl) (⟨_,_,_,Tryd.underlying116⟩) trivial,?_⟩
  refine List.forall_mem_cons.2 ⟨TI.ok_mk (by kernel_rfl) (⟨_,_,_,Tryd.underlying117⟩) trivial,?_⟩
  refine List.forall_mem_cons.2 ⟨TI.ok_mk (by kernel_rfl) (⟨_,_,_,Tryd.underlying118⟩) trivial,?_⟩
  refine List.forall_mem_cons.2 ⟨TI.ok_mk (by kernel_rfl) (⟨_,_,_,Tryd.underlying119⟩) trivial,?_⟩
  refine List.forall_mem_cons.2 ⟨TI.ok_mk (by kernel_rfl) (Tryd.underlying120) ⟨rfl,by decide,rfl⟩,?_⟩
  refine List.forall_mem_cons.2 ⟨TI.ok_mk (by kernel_rfl) (⟨_,_,_,Tryd.underlying121⟩) trivial,?_⟩
  refine List.forall_mem_cons.2 ⟨TI.ok_mk (by kernel_rfl) (Tryd.underlying122) ⟨rfl,by decide,rfl⟩,?_⟩
  refine List.forall_mem_cons.2 ⟨TI.ok_mk (by kernel_rfl) (⟨_,_,_,Tryd.underlying123⟩) trivial,?_⟩
  refine List.forall_mem_cons.2 ⟨TI.ok_mk (by kernel_rfl) (⟨_,_,_,Tryd.underlying124⟩) trivial,?_⟩
  refine List.forall_mem_cons.2 ⟨TI.ok_mk (by kernel_rfl) (⟨_,_,_,Tryd.underlying125⟩) trivial,?_⟩
  refine List.forall_mem_cons.2 ⟨TI.ok_mk (by kernel_rfl) (⟨_,_,_,Tryd.underlying126⟩) trivial,?_⟩
  refine List.forall_mem_cons.2 ⟨TI.ok_mk (by kernel_rfl) (⟨_,_,_,Tryd.underlying127⟩) trivial,?_⟩
  refine List.forall_mem_cons.2 ⟨TI.ok_mk (by kernel_rfl) (Tryd.underlying128) ⟨rfl,by decide,rfl⟩,?_⟩
  refine List.forall_mem_cons.2 ⟨TI.ok_mk (by kernel_rfl) (⟨_,_,_,Tryd.underlying129⟩) trivial,?_⟩
  refine List.forall_mem_cons.2 ⟨TI.ok_mk (by kernel_rfl) (⟨_,_,_,Tryd.underlying130⟩) trivial,?_⟩
  refine List.forall_mem_cons.2 ⟨TI.ok_mk (by kernel_rfl) (⟨_,_,_,Tryd.underlying131⟩) trivial,?_⟩
  refine List.forall_mem_cons.2 ⟨TI.ok_mk (by kernel_rfl) (⟨_,Tryd.underlying132⟩) trivial,?_⟩
  refine List.forall_mem_cons.2 ⟨TI.ok_mk (by kernel_rfl) (⟨_,_,_,Tryd.underlying133⟩) trivial,?_⟩
  refine List.forall_mem_cons.2 ⟨TI.ok_mk (by kernel_rfl) (⟨_,_,_,Tryd.underlying134⟩) trivial,?_⟩
  refine List.forall_mem_cons.2 ⟨TI.ok_mk (by kernel_rfl) (⟨Tryd.underlying135,[.int .u8 0],1,by kernel_rfl,by kernel_rfl,rfl,by decide,by decide,by decide⟩) trivial,?_⟩
  refine List.forall_mem_cons.2 ⟨TI.ok_mk (by kernel_rfl) (⟨_,_,_,Tryd.underlying136⟩) trivial,?_⟩
  refine List.forall_mem_cons.2 ⟨TI.ok_mk (by kernel_rfl) (⟨_,_,_,Tryd.underlying138⟩) trivial,?_⟩
  refine List.forall_mem_cons.2 ⟨TI.ok_mk (by kernel_rfl) (⟨_,_,_,Tryd.underlying139⟩) trivial,?_⟩
  refine List.forall_mem_cons.2 ⟨TI.ok_mk (by kernel_rfl) (⟨_,_,_,Tryd.underlying140⟩) trivial,?_⟩
  refine List.forall_mem_cons.2 ⟨TI.ok_mk (by kernel_rfl) (⟨_,_,_,Tryd.underlying141⟩) trivial,?_⟩
  refine List.forall_mem_cons.2 ⟨TI.ok_mk (by kernel_rfl) (⟨_,_,_,Tryd.underlying142⟩) trivial,?_⟩
  refine List.forall_mem_cons.2 ⟨TI.ok_mk (by kernel_rfl) (⟨_,Tryd.underlying143⟩) trivial,?_⟩
  refine List.forall_mem_cons.2 ⟨TI.ok_mk (by kernel_rfl) (⟨_,_,_,Tryd.underlying145⟩) trivial,?_⟩
  refine List.forall_mem_cons.2 ⟨TI.ok_mk (by kernel_rfl) (⟨_,_,_,Tryd.underlying146⟩) trivial,?_⟩
  refine List.forall_mem_cons.2 ⟨TI.ok_mk (by kernel_rfl) (⟨_,_,_,Tryd.underlying147⟩) trivial,?_⟩
  refine List.forall_mem_cons.2 ⟨TI.ok_mk (by kernel_rfl) (⟨Tryd.underlying148,[.int .u64 0],1,by kernel_rfl,by kernel_rfl,rfl,by decide,by decide,by decide⟩) trivial,?_⟩
  refine List.forall_mem_cons.2 ⟨TI.ok_mk (by kernel_rfl) (⟨Tryd.underlying149,[.int .u8 0],1,by kernel_rfl,by kernel_rfl,rfl,by decide,by decide,by decide⟩) trivial,?_⟩
  refine List.forall_mem_cons.2 ⟨TI.ok_mk (by kernel_rfl) (⟨Tryd.underlying150,[.int .u8 0],1,by kernel_rfl,by kernel_rfl,rfl,by decide,by decide,by decide⟩) trivial,?_⟩
  refine List.forall_mem_cons.2 ⟨TI.ok_mk (by kernel_rfl) (⟨Tryd.underlying151,[.int .u8 0],1,by kernel_rfl,by kernel_rfl,rfl,by decide,by decide,by decide⟩) trivial,?_⟩
  refine List.forall_mem_cons.2 ⟨TI.ok_mk (by kernel_rfl) (⟨_,_,_,Tryd.underlying152⟩) trivial,?_⟩
  refine List.forall_mem_cons.2 ⟨TI.ok_mk (by kernel_rfl) (⟨_,Tryd.underlying153,by kernel_rfl,by decide⟩) trivial,?_⟩
  refine List.forall_mem_cons.2 ⟨TI.ok_mk (by kernel_rfl) (⟨_,Tryd.underlying154,by kernel_rfl,by decide⟩) trivial,?_⟩
  refine List.forall_mem_cons.2 ⟨TI.ok_mk (by kernel_rfl) (⟨_,_,_,Tryd.underlying158⟩) trivial,?_⟩
  refine List.forall_mem_cons.2 ⟨TI.ok_mk (by kernel_rfl) (Tryd.underlying159) ⟨rfl,by decide,rfl⟩,?_⟩
  refine List.forall_mem_cons.2 ⟨TI.ok_mk (by kernel_rfl) (Tryd.underlying160) ⟨rfl,by decide,rfl⟩,?_⟩
  refine List.forall_mem_cons.2 ⟨TI.ok_mk (by kernel_rfl) (⟨_,_,_,Tryd.underlying161⟩) trivial,?_⟩
  refine List.forall_mem_cons.2 ⟨TI.ok_mk (by kernel_rfl) (⟨_,Tryd.underlying162⟩) trivial,?_⟩
  refine List.forall_mem_cons.2 ⟨TI.ok_mk (by kernel_rfl) (Tryd.underlying163) ⟨rfl,by decide,rfl⟩,?_⟩
  refine List.forall_mem_cons.2 ⟨TI.ok_mk (by kernel_rfl) (Tryd.underlying164) ⟨rfl,by decide,rfl⟩,?_⟩
  refine List.forall_mem_cons.2 ⟨TI.ok_mk (by kernel_rfl) (⟨_,Tryd.underlying165,by kernel_rfl,by decide⟩) trivial,?_⟩
  refine List.forall_mem_cons.2 ⟨TI.ok_mk (by kernel_rfl) (⟨_,Tryd.underlying166,by kernel_rfl,by decide⟩) trivial,?_⟩
  exact fun _ h => absurd h (by simp)
def τ0 : TyTab := fun n => findL n tyTab
def τw : TyTab := fun n => findL n (tyTab.filter fun p => !(Nat.beq p.1 1))
theorem tab0 : TabOk prog τ0 := tabOk_of tabL
theorem tabw : TabOk prog τw := tabOk_sub tabL _
theorem mixed : prog.follows .mixedOrders = true := by kernel_rfl
end Go.Proofs.YtldikbpclaeajaaDoor
