/- Part of a proof that a law of the program holds for every input: printed by a program of this work: how the functions are walked. No conditions. -/
import Derived.Test.YtgpdnmfpgkkgcaaGreatDoorProg
import Derived.Test.YtgpdnmfpgkkgcaaGreatDoorF03
namespace Go.Proofs.YtgpdnmfpgkkgcaaGreatDoor
open Go
set_option linter.unusedVariables false
set_option maxRecDepth 8000
set_option maxHeartbeats 4000000
noncomputable abbrev prog:Program:=Tryz.prog
def ZuW:List (Nat×TI):=[(1,⟨.fn,1,8,[.nilFunc],none⟩),
 (2,⟨.int .i64,1,8,[.int .i64 0],some (.int .i64)⟩),
 (3,⟨.int .i64,1,8,[.int .i64 0],some (.int .i64)⟩),
 (4,⟨.bool,1,1,[.bool false],some .bool⟩),
 (5,⟨.int .u8,1,1,[.int .u8 0],some (.int .u8)⟩),
 (6,⟨.int .u8,1,1,[.int .u8 0],some (.int .u8)⟩),
 (7,⟨.st [(0,1),(1,1),(2,1),(3,1)],4,24,[.int .i64 0,.int .i64 0,.bool false,.int .u8 0],some (.pair (.int .i64) (.pair (.int .i64) (.pair .bool (.int .u8))))⟩),
 (8,⟨.st [(0,1),(1,1),(2,1),(3,1)],4,24,[.int .i64 0,.int .i64 0,.bool false,.int .u8 0],some (.pair (.int .i64) (.pair (.int .i64) (.pair .bool (.int .u8))))⟩),
 (9,⟨.str,1,16,[.string ByteArray.empty],some .str⟩),
 (10,⟨.str,1,16,[.string ByteArray.empty],some .str⟩),
 (11,⟨.str,1,16,[.string ByteArray.empty],some .str⟩),
 (12,⟨.int .u64,1,8,[.int .u64 0],some (.int .u64)⟩),
 (13,⟨.st [(0,1),(1,1)],2,24,[.string ByteArray.empty,.int .u64 0],some (.pair .str (.int .u64))⟩),
 (14,⟨.st [(0,1),(1,1)],2,24,[.string ByteArray.empty,.int .u64 0],some (.pair .str (.int .u64))⟩),
 (15,⟨.ptr,1,8,[.pointer none],none⟩),
 (16,⟨.ptr,1,8,[.pointer none],none⟩),
 (17,⟨.ptr,1,8,[.pointer none],none⟩),
 (18,⟨.st [(0,1)],1,8,[.pointer none],none⟩),
 (19,⟨.st [(0,1)],1,8,[.pointer none],none⟩),
 (21,⟨.int .i32,1,4,[.int .i32 0],some (.int .i32)⟩),
 (22,⟨.sl 38,1,24,[.slice none 0 0],some (.sl (.sl (.pair (.int .i64) (.pair (.int .i64) (.pair (.sl (.int .i64)) (.int .i64))))))⟩),
 (23,⟨.st [(0,1),(1,1)],2,32,[.int .i64 0,.slice none 0 0],some (.pair (.int .i64) (.sl (.sl (.pair (.int .i64) (.pair (.int .i64) (.pair (.sl (.int .i64)) (.int .i64)))))))⟩),
 (24,⟨.st [(0,1),(1,1)],2,32,[.int .i64 0,.slice none 0 0],some (.pair (.int .i64) (.sl (.sl (.pair (.int .i64) (.pair (.int .i64) (.pair (.sl (.int .i64)) (.int .i64)))))))⟩),
 (25,⟨.fn,1,8,[.nilFunc],none⟩),
 (26,⟨.fn,1,8,[.nilFunc],none⟩),
 (27,⟨.int .i64,1,8,[.int .i64 0],some (.int .i64)⟩),
 (29,⟨.fn,1,8,[.nilFunc],none⟩),
 (30,⟨.fn,1,8,[.nilFunc],none⟩),
 (31,⟨.fn,1,8,[.nilFunc],none⟩),
 (32,⟨.fn,1,8,[.nilFunc],none⟩),
 (34,⟨.fn,1,8,[.nilFunc],none⟩),
 (35,⟨.fn,1,8,[.nilFunc],none⟩),
 (36,⟨.sl 3,1,24,[.slice none 0 0],some (.sl (.int .i64))⟩),
 (37,⟨.fn,1,8,[.nilFunc],none⟩),
 (38,⟨.sl 58,1,24,[.slice none 0 0],some (.sl (.pair (.int .i64) (.pair (.int .i64) (.pair (.sl (.int .i64)) (.int .i64)))))⟩),
 (40,⟨.fn,1,8,[.nilFunc],none⟩),
 (41,⟨.fn,1,8,[.nilFunc],none⟩),
 (42,⟨.fn,1,8,[.nilFunc],none⟩),
 (43,⟨.fn,1,8,[.nilFunc],none⟩),
 (44,⟨.fn,1,8,[.nilFunc],none⟩),
 (46,⟨.fn,1,8,[.nilFunc],none⟩),
 (47,⟨.fn,1,8,[.nilFunc],none⟩),
 (48,⟨.fn,1,8,[.nilFunc],none⟩),
 (49,⟨.fn,1,8,[.nilFunc],none⟩),
 (50,⟨.fn,1,8,[.nilFunc],none⟩),
 (51,⟨.fn,1,8,[.nilFunc],none⟩),
 (52,⟨.fn,1,8,[.nilFunc],none⟩),
 (53,⟨.fn,1,8,[.nilFunc],none⟩),
 (54,⟨.sl 24,1,24,[.slice none 0 0],some (.sl (.pair (.int .i64) (.sl (.sl (.pair (.int .i64) (.pair (.int .i64) (.pair (.sl (.int .i64)) (.int .i64))))))))⟩),
 (55,⟨.st [(0,1),(1,1)],2,32,[.slice none 0 0,.int .i64 0],some (.pair (.sl (.int .i64)) (.int .i64))⟩),
 (56,⟨.st [(0,1),(1,1)],2,32,[.slice none 0 0,.int .i64 0],some (.pair (.sl (.int .i64)) (.int .i64))⟩),
 (57,⟨.st [(0,1),(1,1),(2,2)],4,48,[.int .i64 0,.int .i64 0,.slice none 0 0,.int .i64 0],some (.pair (.int .i64) (.pair (.int .i64) (.pair (.sl (.int .i64)) (.int .i64))))⟩),
 (58,⟨.st [(0,1),(1,1),(2,2)],4,48,[.int .i64 0,.int .i64 0,.slice none 0 0,.int .i64 0],some (.pair (.int .i64) (.pair (.int .i64) (.pair (.sl (.int .i64)) (.int .i64))))⟩),
 (59,⟨.fn,1,8,[.nilFunc],none⟩),
 (60,⟨.fn,1,8,[.nilFunc],none⟩),
 (61,⟨.fn,1,8,[.nilFunc],none⟩),
 (63,⟨.fn,1,8,[.nilFunc],none⟩),
 (64,⟨.fn,1,8,[.nilFunc],none⟩),
 (65,⟨.fn,1,8,[.nilFunc],none⟩),
 (66,⟨.fn,1,8,[.nilFunc],none⟩),
 (67,⟨.fn,1,8,[.nilFunc],none⟩),
 (68,⟨.fn,1,8,[.nilFunc],none⟩),
 (69,⟨.fn,1,8,[.nilFunc],none⟩),
 (70,⟨.fn,1,8,[.nilFunc],none⟩),
 (71,⟨.fn,1,8,[.nilFunc],none⟩),
 (72,⟨.arr 2 4,2,2,[.bool false,.bool false],none⟩),
 (73,⟨.fn,1,8,[.nilFunc],none⟩),
 (74,⟨.fn,1,8,[.nilFunc],none⟩),
 (75,⟨.fn,1,8,[.nilFunc],none⟩),
 (76,⟨.fn,1,8,[.nilFunc],none⟩),
 (78,⟨.fn,1,8,[.nilFunc],none⟩),
 (80,⟨.fn,1,8,[.nilFunc],none⟩),
 (81,⟨.fn,1,8,[.nilFunc],none⟩),
 (82,⟨.arr 12 4,12,12,[.bool false,.bool false,.bool false,.bool false,.bool false,.bool false,.bool false,.bool false,.bool false,.bool false,.bool false,.bool false],none⟩),
 (83,⟨.fn,1,8,[.nilFunc],none⟩),
 (84,⟨.fn,1,8,[.nilFunc],none⟩),
 (85,⟨.sl 4,1,24,[.slice none 0 0],some (.sl .bool)⟩),
 (86,⟨.fn,1,8,[.nilFunc],none⟩),
 (87,⟨.fn,1,8,[.nilFunc],none⟩),
 (88,⟨.sl 118,1,24,[.slice none 0 0],some (.sl (.pair (.pair (.int .i64) (.pair (.int .i64) (.pair (.sl (.int .i64)) (.int .i64)))) (.pair (.int .i64) (.pair (.sl (.int .i64)) (.int .i64)))))⟩),
 (89,⟨.st [(0,1),(1,1),(2,1),(3,1),(4,1),(5,1),(6,1)],7,136,[.int .i64 0,.slice none 0 0,.slice none 0 0,.int .i64 0,.slice none 0 0,.slice none 0 0,.slice none 0 0],some (.pair (.int .i64) (.pair (.sl (.pair (.int .i64) (.pair (.int .i64) (.pair (.sl (.int .i64)) (.int .i64))))) (.pair (.sl (.pair (.pair (.int .i64) (.pair (.int .i64) (.pair (.sl (.int .i64)) (.int .i64)))) (.pair (.int .i64) (.pair (.sl (.int .i64)) (.int .i64))))) (.pair (.int .i64) (.pair (.sl (.pair (.pair (.int .i64) (.pair (.int .i64) (.pair (.sl (.int .i64)) (.int .i64)))) (.pair (.int .i64) (.pair (.sl (.int .i64)) (.int .i64))))) (.pair (.sl (.pair (.pair (.int .i64) (.pair (.int .i64) (.pair (.sl (.int .i64)) (.int .i64)))) (.pair (.int .i64) (.pair (.sl (.int .i64)) (.int .i64))))) (.sl (.pair (.pair (.int .i64) (.pair (.int .i64) (.pair (.sl (.int .i64)) (.int .i64)))) (.pair (.int .i64) (.pair (.sl (.int .i64)) (.int .i64)))))))))))⟩),
 (90,⟨.st [(0,1),(1,1),(2,1),(3,1),(4,1),(5,1),(6,1)],7,136,[.int .i64 0,.slice none 0 0,.slice none 0 0,.int .i64 0,.slice none 0 0,.slice none 0 0,.slice none 0 0],some (.pair (.int .i64) (.pair (.sl (.pair (.int .i64) (.pair (.int .i64) (.pair (.sl (.int .i64)) (.int .i64))))) (.pair (.sl (.pair (.pair (.int .i64) (.pair (.int .i64) (.pair (.sl (.int .i64)) (.int .i64)))) (.pair (.int .i64) (.pair (.sl (.int .i64)) (.int .i64))))) (.pair (.int .i64) (.pair (.sl (.pair (.pair (.int .i64) (.pair (.int .i64) (.pair (.sl (.int .i64)) (.int .i64)))) (.pair (.int .i64) (.pair (.sl (.int .i64)) (.int .i64))))) (.pair (.sl (.pair (.pair (.int .i64) (.pair (.int .i64) (.pair (.sl (.int .i64)) (.int .i64)))) (.pair (.int .i64) (.pair (.sl (.int .i64)) (.int .i64))))) (.sl (.pair (.pair (.int .i64) (.pair (.int .i64) (.pair (.sl (.int .i64)) (.int .i64)))) (.pair (.int .i64) (.pair (.sl (.int .i64)) (.int .i64)))))))))))⟩),
 (91,⟨.fn,1,8,[.nilFunc],none⟩),
 (92,⟨.fn,1,8,[.nilFunc],none⟩),
 (93,⟨.fn,1,8,[.nilFunc],none⟩),
 (94,⟨.fn,1,8,[.nilFunc],none⟩),
 (95,⟨.fn,1,8,[.nilFunc],none⟩),
 (96,⟨.sl 65,1,24,[.slice none 0 0],none⟩),
 (97,⟨.map 9 4,1,8,[.map none],none⟩),
 (98,⟨.fn,1,8,[.nilFunc],none⟩),
 (99,⟨.fn,1,8,[.nilFunc],none⟩),
 (100,⟨.fn,1,8,[.nilFunc],none⟩),
 (101,⟨.fn,1,8,[.nilFunc],none⟩),
 (102,⟨.fn,1,8,[.nilFunc],none⟩),
 (103,⟨.fn,1,8,[.nilFunc],none⟩),
 (104,⟨.fn,1,8,[.nilFunc],none⟩),
 (105,⟨.fn,1,8,[.nilFunc],none⟩),
 (106,⟨.fn,1,8,[.nilFunc],none⟩),
 (107,⟨.fn,1,8,[.nilFunc],none⟩),
 (108,⟨.fn,1,8,[.nilFunc],none⟩),
 (109,⟨.fn,1,8,[.nilFunc],none⟩),
 (110,⟨.fn,1,8,[.nilFunc],none⟩),
 (111,⟨.fn,1,8,[.nilFunc],none⟩),
 (112,⟨.fn,1,8,[.nilFunc],none⟩),
 (113,⟨.fn,1,8,[.nilFunc],none⟩),
 (115,⟨.fn,1,8,[.nilFunc],none⟩),
 (116,⟨.fn,1,8,[.nilFunc],none⟩),
 (117,⟨.st [(0,4),(4,1),(5,2)],7,88,[.int .i64 0,.int .i64 0,.slice none 0 0,.int .i64 0,.int .i64 0,.slice none 0 0,.int .i64 0],some (.pair (.pair (.int .i64) (.pair (.int .i64) (.pair (.sl (.int .i64)) (.int .i64)))) (.pair (.int .i64) (.pair (.sl (.int .i64)) (.int .i64))))⟩),
 (118,⟨.st [(0,4),(4,1),(5,2)],7,88,[.int .i64 0,.int .i64 0,.slice none 0 0,.int .i64 0,.int .i64 0,.slice none 0 0,.int .i64 0],some (.pair (.pair (.int .i64) (.pair (.int .i64) (.pair (.sl (.int .i64)) (.int .i64)))) (.pair (.int .i64) (.pair (.sl (.int .i64)) (.int .i64))))⟩),
 (120,⟨.fn,1,8,[.nilFunc],none⟩),
 (121,⟨.fn,1,8,[.nilFunc],none⟩),
 (123,⟨.fn,1,8,[.nilFunc],none⟩),
 (125,⟨.fn,1,8,[.nilFunc],none⟩),
 (126,⟨.fn,1,8,[.nilFunc],none⟩),
 (127,⟨.fn,1,8,[.nilFunc],none⟩),
 (128,⟨.fn,1,8,[.nilFunc],none⟩),
 (129,⟨.sl 5,1,24,[.slice none 0 0],some (.sl (.int .u8))⟩),
 (130,⟨.fn,1,8,[.nilFunc],none⟩),
 (131,⟨.fn,1,8,[.nilFunc],none⟩),
 (132,⟨.fn,1,8,[.nilFunc],none⟩),
 (133,⟨.fn,1,8,[.nilFunc],none⟩),
 (134,⟨.fn,1,8,[.nilFunc],none⟩),
 (135,⟨.fn,1,8,[.nilFunc],none⟩),
 (136,⟨.fn,1,8,[.nilFunc],none⟩),
 (137,⟨.fn,1,8,[.nilFunc],none⟩),
 (138,⟨.fn,1,8,[.nilFunc],none⟩),
 (139,⟨.ptr,1,8,[.pointer none],none⟩),
 (140,⟨.fn,1,8,[.nilFunc],none⟩),
 (141,⟨.arr 3 140,3,24,[.nilFunc,.nilFunc,.nilFunc],none⟩),
 (142,⟨.fn,1,8,[.nilFunc],none⟩),
 (143,⟨.st [(0,4)],4,48,[.int .i64 0,.int .i64 0,.slice none 0 0,.int .i64 0],some (.pair (.int .i64) (.pair (.int .i64) (.pair (.sl (.int .i64)) (.int .i64))))⟩),
 (144,⟨.st [(0,4)],4,48,[.int .i64 0,.int .i64 0,.slice none 0 0,.int .i64 0],some (.pair (.int .i64) (.pair (.int .i64) (.pair (.sl (.int .i64)) (.int .i64))))⟩),
 (145,⟨.map 9 3,1,8,[.map none],none⟩),
 (146,⟨.map 3 4,1,8,[.map none],none⟩),
 (148,⟨.fn,1,8,[.nilFunc],none⟩),
 (149,⟨.fn,1,8,[.nilFunc],none⟩),
 (150,⟨.int .u64,1,8,[.int .u64 0],some (.int .u64)⟩),
 (151,⟨.arr 3 3,3,24,[.int .i64 0,.int .i64 0,.int .i64 0],none⟩),
 (152,⟨.fn,1,8,[.nilFunc],none⟩),
 (153,⟨.fn,1,8,[.nilFunc],none⟩),
 (154,⟨.fn,1,8,[.nilFunc],none⟩),
 (155,⟨.fn,1,8,[.nilFunc],none⟩),
 (156,⟨.fn,1,8,[.nilFunc],none⟩),
 (157,⟨.fn,1,8,[.nilFunc],none⟩),
 (158,⟨.fn,1,8,[.nilFunc],none⟩),
 (160,⟨.fn,1,8,[.nilFunc],none⟩),
 (161,⟨.int .u64,1,8,[.int .u64 0],some (.int .u64)⟩),
 (162,⟨.fn,1,8,[.nilFunc],none⟩),
 (163,⟨.fn,1,8,[.nilFunc],none⟩),
 (164,⟨.fn,1,8,[.nilFunc],none⟩),
 (165,⟨.fn,1,8,[.nilFunc],none⟩),
 (166,⟨.fn,1,8,[.nilFunc],none⟩),
 (167,⟨.int .i64,1,8,[.int .i64 0],some (.int .i64)⟩),
 (169,⟨.fn,1,8,[.nilFunc],none⟩),
 (170,⟨.fn,1,8,[.nilFunc],none⟩),
 (171,⟨.fn,1,8,[.nilFunc],none⟩),
 (172,⟨.fn,1,8,[.nilFunc],none⟩),
 (173,⟨.fn,1,8,[.nilFunc],none⟩),
 (174,⟨.int .u32,1,4,[.int .u32 0],some (.int .u32)⟩),
 (175,⟨.fn,1,8,[.nilFunc],none⟩),
 (176,⟨.fn,1,8,[.nilFunc],none⟩),
 (177,⟨.fn,1,8,[.nilFunc],none⟩),
 (178,⟨.fn,1,8,[.nilFunc],none⟩),
 (179,⟨.fn,1,8,[.nilFunc],none⟩),
 (180,⟨.int .u64,1,8,[.int .u64 0],some (.int .u64)⟩),
 (181,⟨.fn,1,8,[.nilFunc],none⟩),
 (182,⟨.fn,1,8,[.nilFunc],none⟩),
 (183,⟨.fn,1,8,[.nilFunc],none⟩),
 (184,⟨.ptr,1,8,[.pointer none],none⟩),
 (185,⟨.fn,1,8,[.nilFunc],none⟩),
 (186,⟨.fn,1,8,[.nilFunc],none⟩),
 (187,⟨.arr 24 5,24,24,[.int .u8 0,.int .u8 0,.int .u8 0,.int .u8 0,.int .u8 0,.int .u8 0,.int .u8 0,.int .u8 0,.int .u8 0,.int .u8 0,.int .u8 0,.int .u8 0,.int .u8 0,.int .u8 0,.int .u8 0,.int .u8 0,.int .u8 0,.int .u8 0,.int .u8 0,.int .u8 0,.int .u8 0,.int .u8 0,.int .u8 0,.int .u8 0],none⟩),
 (188,⟨.fn,1,8,[.nilFunc],none⟩),
 (190,⟨.fn,1,8,[.nilFunc],none⟩),
 (191,⟨.ptr,1,8,[.pointer none],none⟩),
 (193,⟨.fn,1,8,[.nilFunc],none⟩),
 (194,⟨.fn,1,8,[.nilFunc],none⟩),
 (195,⟨.arr 20 161,20,160,[.int .u64 0,.int .u64 0,.int .u64 0,.int .u64 0,.int .u64 0,.int .u64 0,.int .u64 0,.int .u64 0,.int .u64 0,.int .u64 0,.int .u64 0,.int .u64 0,.int .u64 0,.int .u64 0,.int .u64 0,.int .u64 0,.int .u64 0,.int .u64 0,.int .u64 0,.int .u64 0],none⟩),
 (196,⟨.arr 65 5,65,65,[.int .u8 0,.int .u8 0,.int .u8 0,.int .u8 0,.int .u8 0,.int .u8 0,.int .u8 0,.int .u8 0,.int .u8 0,.int .u8 0,.int .u8 0,.int .u8 0,.int .u8 0,.int .u8 0,.int .u8 0,.int .u8 0,.int .u8 0,.int .u8 0,.int .u8 0,.int .u8 0,.int .u8 0,.int .u8 0,.int .u8 0,.int .u8 0,.int .u8 0,.int .u8 0,.int .u8 0,.int .u8 0,.int .u8 0,.int .u8 0,.int .u8 0,.int .u8 0,.int .u8 0,.int .u8 0,.int .u8 0,.int .u8 0,.int .u8 0,.int .u8 0,.int .u8 0,.int .u8 0,.int .u8 0,.int .u8 0,.int .u8 0,.int .u8 0,.int .u8 0,.int .u8 0,.int .u8 0,.int .u8 0,.int .u8 0,.int .u8 0,.int .u8 0,.int .u8 0,.int .u8 0,.int .u8 0,.int .u8 0,.int .u8 0,.int .u8 0,.int .u8 0,.int .u8 0,.int .u8 0,.int .u8 0,.int .u8 0,.int .u8 0,.int .u8 0,.int .u8 0],none⟩),
 (197,⟨.arr 32 5,32,32,[.int .u8 0,.int .u8 0,.int .u8 0,.int .u8 0,.int .u8 0,.int .u8 0,.int .u8 0,.int .u8 0,.int .u8 0,.int .u8 0,.int .u8 0,.int .u8 0,.int .u8 0,.int .u8 0,.int .u8 0,.int .u8 0,.int .u8 0,.int .u8 0,.int .u8 0,.int .u8 0,.int .u8 0,.int .u8 0,.int .u8 0,.int .u8 0,.int .u8 0,.int .u8 0,.int .u8 0,.int .u8 0,.int .u8 0,.int .u8 0,.int .u8 0,.int .u8 0],none⟩),
 (198,⟨.arr 64 5,64,64,[.int .u8 0,.int .u8 0,.int .u8 0,.int .u8 0,.int .u8 0,.int .u8 0,.int .u8 0,.int .u8 0,.int .u8 0,.int .u8 0,.int .u8 0,.int .u8 0,.int .u8 0,.int .u8 0,.int .u8 0,.int .u8 0,.int .u8 0,.int .u8 0,.int .u8 0,.int .u8 0,.int .u8 0,.int .u8 0,.int .u8 0,.int .u8 0,.int .u8 0,.int .u8 0,.int .u8 0,.int .u8 0,.int .u8 0,.int .u8 0,.int .u8 0,.int .u8 0,.int .u8 0,.int .u8 0,.int .u8 0,.int .u8 0,.int .u8 0,.int .u8 0,.int .u8 0,.int .u8 0,.int .u8 0,.int .u8 0,.int .u8 0,.int .u8 0,.int .u8 0,.int .u8 0,.int .u8 0,.int .u8 0,.int .u8 0,.int .u8 0,.int .u8 0,.int .u8 0,.int .u8 0,.int .u8 0,.int .u8 0,.int .u8 0,.int .u8 0,.int .u8 0,.int .u8 0,.int .u8 0,.int .u8 0,.int .u8 0,.int .u8 0,.int .u8 0],none⟩),
 (199,⟨.fn,1,8,[.nilFunc],none⟩),
 (200,⟨.st [(0,1),(1,1),(2,1),(3,1)],4,40,[.pointer none,.pointer none,.pointer none,.string ByteArray.empty],none⟩),
 (201,⟨.st [(0,1),(1,1),(2,1),(3,1)],4,40,[.pointer none,.pointer none,.pointer none,.string ByteArray.empty],none⟩),
 (205,⟨.fn,1,8,[.nilFunc],none⟩),
 (206,⟨.int .u8,1,1,[.int .u8 0],some (.int .u8)⟩),
 (207,⟨.int .u8,1,1,[.int .u8 0],some (.int .u8)⟩),
 (208,⟨.fn,1,8,[.nilFunc],none⟩),
 (209,⟨.ptr,1,8,[.pointer none],none⟩),
 (210,⟨.int .i32,1,4,[.int .i32 0],some (.int .i32)⟩),
 (211,⟨.int .i32,1,4,[.int .i32 0],some (.int .i32)⟩),
 (212,⟨.st [(0,1),(1,1),(2,1),(3,1),(4,1),(5,1),(6,1),(7,1),(8,1),(9,1),(10,1)],11,48,[.int .u64 0,.int .u64 0,.int .u32 0,.int .u8 0,.int .u8 0,.int .u8 0,.int .u8 0,.nilFunc,.pointer none,.int .i32 0,.int .i32 0],none⟩),
 (213,⟨.st [(0,1),(1,1),(2,1),(3,1),(4,1),(5,1),(6,1),(7,1),(8,1),(9,1),(10,1)],11,48,[.int .u64 0,.int .u64 0,.int .u32 0,.int .u8 0,.int .u8 0,.int .u8 0,.int .u8 0,.nilFunc,.pointer none,.int .i32 0,.int .i32 0],none⟩)]
theorem ZwH:∀ p∈ZuW,p.2.Ok prog p.1:=by
 refine List.forall_mem_cons.2 ⟨TI.ok_mk (by kernel_rfl) (⟨_,_,_,Tryz.underlying1⟩) trivial,?_⟩
 refine List.forall_mem_cons.2 ⟨TI.ok_mk (by kernel_rfl) (Tryz.underlying2) ⟨rfl,by decide,rfl⟩,?_⟩
 refine List.forall_mem_cons.2 ⟨TI.ok_mk (by kernel_rfl) (Tryz.underlying3) ⟨rfl,by decide,rfl⟩,?_⟩
 refine List.forall_mem_cons.2 ⟨TI.ok_mk (by kernel_rfl) (Tryz.underlying4) ⟨rfl,by decide,rfl⟩,?_⟩
 refine List.forall_mem_cons.2 ⟨TI.ok_mk (by kernel_rfl) (Tryz.underlying5) ⟨rfl,by decide,rfl⟩,?_⟩
 refine List.forall_mem_cons.2 ⟨TI.ok_mk (by kernel_rfl) (Tryz.underlying6) ⟨rfl,by decide,rfl⟩,?_⟩
 refine List.forall_mem_cons.2 ⟨TI.ok_mk (by kernel_rfl) (⟨_,Tryz.underlying7,by kernel_rfl,by decide⟩) ⟨rfl,by decide,rfl⟩,?_⟩
 refine List.forall_mem_cons.2 ⟨TI.ok_mk (by kernel_rfl) (⟨_,Tryz.underlying8,by kernel_rfl,by decide⟩) ⟨rfl,by decide,rfl⟩,?_⟩
 refine List.forall_mem_cons.2 ⟨TI.ok_mk (by kernel_rfl) (Tryz.underlying9) ⟨rfl,by decide,rfl⟩,?_⟩
 refine List.forall_mem_cons.2 ⟨TI.ok_mk (by kernel_rfl) (Tryz.underlying10) ⟨rfl,by decide,rfl⟩,?_⟩
 refine List.forall_mem_cons.2 ⟨TI.ok_mk (by kernel_rfl) (Tryz.underlying11) ⟨rfl,by decide,rfl⟩,?_⟩
 refine List.forall_mem_cons.2 ⟨TI.ok_mk (by kernel_rfl) (Tryz.underlying12) ⟨rfl,by decide,rfl⟩,?_⟩
 refine List.forall_mem_cons.2 ⟨TI.ok_mk (by kernel_rfl) (⟨_,Tryz.underlying13,by kernel_rfl,by decide⟩) ⟨rfl,by decide,rfl⟩,?_⟩
 refine List.forall_mem_cons.2 ⟨TI.ok_mk (by kernel_rfl) (⟨_,Tryz.underlying14,by kernel_rfl,by decide⟩) ⟨rfl,by decide,rfl⟩,?_⟩
 refine List.forall_mem_cons.2 ⟨TI.ok_mk (by kernel_rfl) (⟨_,Tryz.underlying15⟩) trivial,?_⟩
 refine List.forall_mem_cons.2 ⟨TI.ok_mk (by kernel_rfl) (⟨_,Tryz.underlying16⟩) trivial,?_⟩
 refine List.forall_mem_cons.2 ⟨TI.ok_mk (by kernel_rfl) (⟨_,Tryz.underlying17⟩) trivial,?_⟩
 refine List.forall_mem_cons.2 ⟨TI.ok_mk (by kernel_rfl) (⟨_,Tryz.underlying18,by kernel_rfl,by decide⟩) trivial,?_⟩
 refine List.forall_mem_cons.2 ⟨TI.ok_mk (by kernel_rfl) (⟨_,Tryz.underlying19,by kernel_rfl,by decide⟩) trivial,?_⟩
 refine List.forall_mem_cons.2 ⟨TI.ok_mk (by kernel_rfl) (Tryz.underlying21) ⟨rfl,by decide,rfl⟩,?_⟩
 refine List.forall_mem_cons.2 ⟨TI.ok_mk (by kernel_rfl) (Tryz.underlying22) ⟨rfl,by decide,rfl⟩,?_⟩
 refine List.forall_mem_cons.2 ⟨TI.ok_mk (by kernel_rfl) (⟨_,Tryz.underlying23,by kernel_rfl,by decide⟩) ⟨rfl,by decide,rfl⟩,?_⟩
 refine List.forall_mem_cons.2 ⟨TI.ok_mk (by kernel_rfl) (⟨_,Tryz.underlying24,by kernel_rfl,by decide⟩) ⟨rfl,by decide,rfl⟩,?_⟩
 refine List.forall_mem_cons.2 ⟨TI.ok_mk (by kernel_rfl) (⟨_,_,_,Tryz.underlying25⟩) trivial,?_⟩
 refine List.forall_mem_cons.2 ⟨TI.ok_mk (by kernel_rfl) (⟨_,_,_,Tryz.underlying26⟩) trivial,?_⟩
 refine List.forall_mem_cons.2 ⟨TI.ok_mk (by kernel_rfl) (Tryz.underlying27) ⟨rfl,by decide,rfl⟩,?_⟩
 refine List.forall_mem_cons.2 ⟨TI.ok_mk (by kernel_rfl) (⟨_,_,_,Tryz.underlying29⟩) trivial,?_⟩
 refine List.forall_mem_cons.2 ⟨TI.ok_mk (by kernel_rfl) (⟨_,_,_,Tryz.underlying30⟩) trivial,?_⟩
 refine List.forall_mem_cons.2 ⟨TI.ok_mk (by kernel_rfl) (⟨_,_,_,Tryz.underlying31⟩) trivial,?_⟩
 refine List.forall_mem_cons.2 ⟨TI.ok_mk (by kernel_rfl) (⟨_,_,_,Tryz.underlying32⟩) trivial,?_⟩
 refine List.forall_mem_cons.2 ⟨TI.ok_mk (by kernel_rfl) (⟨_,_,_,Tryz.underlying34⟩) trivial,?_⟩
 refine List.forall_mem_cons.2 ⟨TI.ok_mk (by kernel_rfl) (⟨_,_,_,Tryz.underlying35⟩) trivial,?_⟩
 refine List.forall_mem_cons.2 ⟨TI.ok_mk (by kernel_rfl) (Tryz.underlying36) ⟨rfl,by decide,rfl⟩,?_⟩
 refine List.forall_mem_cons.2 ⟨TI.ok_mk (by kernel_rfl) (⟨_,_,_,Tryz.underlying37⟩) trivial,?_⟩
 refine List.forall_mem_cons.2 ⟨TI.ok_mk (by kernel_rfl) (Tryz.underlying38) ⟨rfl,by decide,rfl⟩,?_⟩
 refine List.forall_mem_cons.2 ⟨TI.ok_mk (by kernel_rfl) (⟨_,_,_,Tryz.underlying40⟩) trivial,?_⟩
 refine List.forall_mem_cons.2 ⟨TI.ok_mk (by kernel_rfl) (⟨_,_,_,Tryz.underlying41⟩) trivial,?_⟩
 refine List.forall_mem_cons.2 ⟨TI.ok_mk (by kernel_rfl) (⟨_,_,_,Tryz.underlying42⟩) trivial,?_⟩
 refine List.forall_mem_cons.2 ⟨TI.ok_mk (by kernel_rfl) (⟨_,_,_,Tryz.underlying43⟩) trivial,?_⟩
 refine List.forall_mem_cons.2 ⟨TI.ok_mk (by kernel_rfl) (⟨_,_,_,Tryz.underlying44⟩) trivial,?_⟩
 refine List.forall_mem_cons.2 ⟨TI.ok_mk (by kernel_rfl) (⟨_,_,_,Tryz.underlying46⟩) trivial,?_⟩
 refine List.forall_mem_cons.2 ⟨TI.ok_mk (by kernel_rfl) (⟨_,_,_,Tryz.underlying47⟩) trivial,?_⟩
 refine List.forall_mem_cons.2 ⟨TI.ok_mk (by kernel_rfl) (⟨_,_,_,Tryz.underlying48⟩) trivial,?_⟩
 refine List.forall_mem_cons.2 ⟨TI.ok_mk (by kernel_rfl) (⟨_,_,_,Tryz.underlying49⟩) trivial,?_⟩
 refine List.forall_mem_cons.2 ⟨TI.ok_mk (by kernel_rfl) (⟨_,_,_,Tryz.underlying50⟩) trivial,?_⟩
 refine List.forall_mem_cons.2 ⟨TI.ok_mk (by kernel_rfl) (⟨_,_,_,Tryz.underlying51⟩) trivial,?_⟩
 refine List.forall_mem_cons.2 ⟨TI.ok_mk (by kernel_rfl) (⟨_,_,_,Tryz.underlying52⟩) trivial,?_⟩
 refine List.forall_mem_cons.2 ⟨TI.ok_mk (by kernel_rfl) (⟨_,_,_,Tryz.underlying53⟩) trivial,?_⟩
 refine List.forall_mem_cons.2 ⟨TI.ok_mk (by kernel_rfl) (Tryz.underlying54) ⟨rfl,by decide,rfl⟩,?_⟩
 refine List.forall_mem_cons.2 ⟨TI.ok_mk (by kernel_rfl) (⟨_,Tryz.underlying55,by kernel_rfl,by decide⟩) ⟨rfl,by decide,rfl⟩,?_⟩
 refine List.forall_mem_cons.2 ⟨TI.ok_mk (by kernel_rfl) (⟨_,Tryz.underlying56,by kernel_rfl,by decide⟩) ⟨rfl,by decide,rfl⟩,?_⟩
 refine List.forall_mem_cons.2 ⟨TI.ok_mk (by kernel_rfl) (⟨_,Tryz.underlying57,by kernel_rfl,by decide⟩) ⟨rfl,by decide,rfl⟩,?_⟩
 refine List.forall_mem_cons.2 ⟨TI.ok_mk (by kernel_rfl) (⟨_,Tryz.underlying58,by kernel_rfl,by decide⟩) ⟨rfl,by decide,rfl⟩,?_⟩
 refine List.forall_mem_cons.2 ⟨TI.ok_mk (by kernel_rfl) (⟨_,_,_,Tryz.underlying59⟩) trivial,?_⟩
 refine List.forall_mem_cons.2 ⟨TI.ok_mk (by kernel_rfl) (⟨_,_,_,Tryz.underlying60⟩) trivial,?_⟩
 refine List.forall_mem_cons.2 ⟨TI.ok_mk (by kernel_rfl) (⟨_,_,_,Tryz.underlying61⟩) trivial,?_⟩
 refine List.forall_mem_cons.2 ⟨TI.ok_mk (by kernel_rfl) (⟨_,_,_,Tryz.underlying63⟩) trivial,?_⟩
 refine List.forall_mem_cons.2 ⟨TI.ok_mk (by kernel_rfl) (⟨_,_,_,Tryz.underlying64⟩) trivial,?_⟩
 refine List.forall_mem_cons.2 ⟨TI.ok_mk (by kernel_rfl) (⟨_,_,_,Tryz.underlying65⟩) trivial,?_⟩
 refine List.forall_mem_cons.2 ⟨TI.ok_mk (by kernel_rfl) (⟨_,_,_,Tryz.underlying66⟩) trivial,?_⟩
 refine List.forall_mem_cons.2 ⟨TI.ok_mk (by kernel_rfl) (⟨_,_,_,Tryz.underlying67⟩) trivial,?_⟩
 refine List.forall_mem_cons.2 ⟨TI.ok_mk (by kernel_rfl) (⟨_,_,_,Tryz.underlying68⟩) trivial,?_⟩
 refine List.forall_mem_cons.2 ⟨TI.ok_mk (by kernel_rfl) (⟨_,_,_,Tryz.underlying69⟩) trivial,?_⟩
 refine List.forall_mem_cons.2 ⟨TI.ok_mk (by kernel_rfl) (⟨_,_,_,Tryz.underlying70⟩) trivial,?_⟩
 refine List.forall_mem_cons.2 ⟨TI.ok_mk (by kernel_rfl) (⟨_,_,_,Tryz.underlying71⟩) trivial,?_⟩
 refine List.forall_mem_cons.2 ⟨TI.ok_mk (by kernel_rfl) (⟨Tryz.underlying72,[.bool false],1,by kernel_rfl,by kernel_rfl,rfl,by decide,by decide,by decide⟩) trivial,?_⟩
 refine List.forall_mem_cons.2 ⟨TI.ok_mk (by kernel_rfl) (⟨_,_,_,Tryz.underlying73⟩) trivial,?_⟩
 refine List.forall_mem_cons.2 ⟨TI.ok_mk (by kernel_rfl) (⟨_,_,_,Tryz.underlying74⟩) trivial,?_⟩
 refine List.forall_mem_cons.2 ⟨TI.ok_mk (by kernel_rfl) (⟨_,_,_,Tryz.underlying75⟩) trivial,?_⟩
 refine List.forall_mem_cons.2 ⟨TI.ok_mk (by kernel_rfl) (⟨_,_,_,Tryz.underlying76⟩) trivial,?_⟩
 refine List.forall_mem_cons.2 ⟨TI.ok_mk (by kernel_rfl) (⟨_,_,_,Tryz.underlying78⟩) trivial,?_⟩
 refine List.forall_mem_cons.2 ⟨TI.ok_mk (by kernel_rfl) (⟨_,_,_,Tryz.underlying80⟩) trivial,?_⟩
 refine List.forall_mem_cons.2 ⟨TI.ok_mk (by kernel_rfl) (⟨_,_,_,Tryz.underlying81⟩) trivial,?_⟩
 refine List.forall_mem_cons.2 ⟨TI.ok_mk (by kernel_rfl) (⟨Tryz.underlying82,[.bool false],1,by kernel_rfl,by kernel_rfl,rfl,by decide,by decide,by decide⟩) trivial,?_⟩
 refine List.forall_mem_cons.2 ⟨TI.ok_mk (by kernel_rfl) (⟨_,_,_,Tryz.underlying83⟩) trivial,?_⟩
 refine List.forall_mem_cons.2 ⟨TI.ok_mk (by kernel_rfl) (⟨_,_,_,Tryz.underlying84⟩) trivial,?_⟩
 refine List.forall_mem_cons.2 ⟨TI.ok_mk (by kernel_rfl) (Tryz.underlying85) ⟨rfl,by decide,rfl⟩,?_⟩
 refine List.forall_mem_cons.2 ⟨TI.ok_mk (by kernel_rfl) (⟨_,_,_,Tryz.underlying86⟩) trivial,?_⟩
 refine List.forall_mem_cons.2 ⟨TI.ok_mk (by kernel_rfl) (⟨_,_,_,Tryz.underlying87⟩) trivial,?_⟩
 refine List.forall_mem_cons.2 ⟨TI.ok_mk (by kernel_rfl) (Tryz.underlying88) ⟨rfl,by decide,rfl⟩,?_⟩
 refine List.forall_mem_cons.2 ⟨TI.ok_mk (by kernel_rfl) (⟨_,Tryz.underlying89,by kernel_rfl,by decide⟩) ⟨rfl,by decide,rfl⟩,?_⟩
 refine List.forall_mem_cons.2 ⟨TI.ok_mk (by kernel_rfl) (⟨_,Tryz.underlying90,by kernel_rfl,by decide⟩) ⟨rfl,by decide,rfl⟩,?_⟩
 refine List.forall_mem_cons.2 ⟨TI.ok_mk (by kernel_rfl) (⟨_,_,_,Tryz.underlying91⟩) trivial,?_⟩
 refine List.forall_mem_cons.2 ⟨TI.ok_mk (by kernel_rfl) (⟨_,_,_,Tryz.underlying92⟩) trivial,?_⟩
 refine List.forall_mem_cons.2 ⟨TI.ok_mk (by kernel_rfl) (⟨_,_,_,Tryz.underlying93⟩) trivial,?_⟩
 refine List.forall_mem_cons.2 ⟨TI.ok_mk (by kernel_rfl) (⟨_,_,_,Tryz.underlying94⟩) trivial,?_⟩
 refine List.forall_mem_cons.2 ⟨TI.ok_mk (by kernel_rfl) (⟨_,_,_,Tryz.underlying95⟩) trivial,?_⟩
 refine List.forall_mem_cons.2 ⟨TI.ok_mk (by kernel_rfl) (Tryz.underlying96) trivial,?_⟩
 refine List.forall_mem_cons.2 ⟨TI.ok_mk (by kernel_rfl) (⟨Tryz.underlying97,by kernel_rfl⟩) trivial,?_⟩
 refine List.forall_mem_cons.2 ⟨TI.ok_mk (by kernel_rfl) (⟨_,_,_,Tryz.underlying98⟩) trivial,?_⟩
 refine List.forall_mem_cons.2 ⟨TI.ok_mk (by kernel_rfl) (⟨_,_,_,Tryz.underlying99⟩) trivial,?_⟩
 refine List.forall_mem_cons.2 ⟨TI.ok_mk (by kernel_rfl) (⟨_,_,_,Tryz.underlying100⟩) trivial,?_⟩
 refine List.forall_mem_cons.2 ⟨TI.ok_mk (by kernel_rfl) (⟨_,_,_,Tryz.underlying101⟩) trivial,?_⟩
 refine List.forall_mem_cons.2 ⟨TI.ok_mk (by kernel_rfl) (⟨_,_,_,Tryz.underlying102⟩) trivial,?_⟩
 refine List.forall_mem_cons.2 ⟨TI.ok_mk (by kernel_rfl) (⟨_,_,_,Tryz.underlying103⟩) trivial,?_⟩
 refine List.forall_mem_cons.2 ⟨TI.ok_mk (by kernel_rfl) (⟨_,_,_,Tryz.underlying104⟩) trivial,?_⟩
 refine List.forall_mem_cons.2 ⟨TI.ok_mk (by kernel_rfl) (⟨_,_,_,Tryz.underlying105⟩) trivial,?_⟩
 refine List.forall_mem_cons.2 ⟨TI.ok_mk (by kernel_rfl) (⟨_,_,_,Tryz.underlying106⟩) trivial,?_⟩
 refine List.forall_mem_cons.2 ⟨TI.ok_mk (by kernel_rfl) (⟨_,_,_,Tryz.underlying107⟩) trivial,?_⟩
 refine List.forall_mem_cons.2 ⟨TI.ok_mk (by kernel_rfl) (⟨_,_,_,Tryz.underlying108⟩) trivial,?_⟩
 refine List.forall_mem_cons.2 ⟨TI.ok_mk (by kernel_rfl) (⟨_,_,_,Tryz.underlying109⟩) trivial,?_⟩
 refine List.forall_mem_cons.2 ⟨TI.ok_mk (by kernel_rfl) (⟨_,_,_,Tryz.underlying110⟩) trivial,?_⟩
 refine List.forall_mem_cons.2 ⟨TI.ok_mk (by kernel_rfl) (⟨_,_,_,Tryz.underlying111⟩) trivial,?_⟩
 refine List.forall_mem_cons.2 ⟨TI.ok_mk (by kernel_rfl) (⟨_,_,_,Tryz.underlying112⟩) trivial,?_⟩
 refine List.forall_mem_cons.2 ⟨TI.ok_mk (by kernel_rfl) (⟨_,_,_,Tryz.underlying113⟩) trivial,?_⟩
 refine List.forall_mem_cons.2 ⟨TI.ok_mk (by kernel_rfl) (⟨_,_,_,Tryz.underlying115⟩) trivial,?_⟩
 refine List.forall_mem_cons.2 ⟨TI.ok_mk (by kernel_rfl) (⟨_,_,_,Tryz.underlying116⟩) trivial,?_⟩
 refine List.forall_mem_cons.2 ⟨TI.ok_mk (by kernel_rfl) (⟨_,Tryz.underlying117,by kernel_rfl,by decide⟩) ⟨rfl,by decide,rfl⟩,?_⟩
 refine List.forall_mem_cons.2 ⟨TI.ok_mk (by kernel_rfl) (⟨_,Tryz.underlying118,by kernel_rfl,by decide⟩) ⟨rfl,by decide,rfl⟩,?_⟩
 refine List.forall_mem_cons.2 ⟨TI.ok_mk (by kernel_rfl) (⟨_,_,_,Tryz.underlying120⟩) trivial,?_⟩
 refine List.forall_mem_cons.2 ⟨TI.ok_mk (by kernel_rfl) (⟨_,_,_,Tryz.underlying121⟩) trivial,?_⟩
 refine List.forall_mem_cons.2 ⟨TI.ok_mk (by kernel_rfl) (⟨_,_,_,Tryz.underlying123⟩) trivial,?_⟩
 refine List.forall_mem_cons.2 ⟨TI.ok_mk (by kernel_rfl) (⟨_,_,_,Tryz.underlying125⟩) trivial,?_⟩
 refine List.forall_mem_cons.2 ⟨TI.ok_mk (by kernel_rfl) (⟨_,_,_,Tryz.underlying126⟩) trivial,?_⟩
 refine List.forall_mem_cons.2 ⟨TI.ok_mk (by kernel_rfl) (⟨_,_,_,Tryz.underlying127⟩) trivial,?_⟩
 refine List.forall_mem_cons.2 ⟨TI.ok_mk (by kernel_rfl) (⟨_,_,_,Tryz.underlying128⟩) trivial,?_⟩
 refine List.forall_mem_cons.2 ⟨TI.ok_mk (by kernel_rfl) (Tryz.underlying129) ⟨rfl,by decide,rfl⟩,?_⟩
 refine List.forall_mem_cons.2 ⟨TI.ok_mk (by kernel_rfl) (⟨_,_,_,Tryz.underlying130⟩) trivial,?_⟩
 refine List.forall_mem_cons.2 ⟨TI.ok_mk (by kernel_rfl) (⟨_,_,_,Tryz.underlying131⟩) trivial,?_⟩
 refine List.forall_mem_cons.2 ⟨TI.ok_mk (by kernel_rfl) (⟨_,_,_,Tryz.underlying132⟩) trivial,?_⟩
 refine List.forall_mem_cons.2 ⟨TI.ok_mk (by kernel_rfl) (⟨_,_,_,Tryz.underlying133⟩) trivial,?_⟩
 refine List.forall_mem_cons.2 ⟨TI.ok_mk (by kernel_rfl) (⟨_,_,_,Tryz.underlying134⟩) trivial,?_⟩
 refine List.forall_mem_cons.2 ⟨TI.ok_mk (by kernel_rfl) (⟨_,_,_,Tryz.underlying135⟩) trivial,?_⟩
 refine List.forall_mem_cons.2 ⟨TI.ok_mk (by kernel_rfl) (⟨_,_,_,Tryz.underlying136⟩) trivial,?_⟩
 refine List.forall_mem_cons.2 ⟨TI.ok_mk (by kernel_rfl) (⟨_,_,_,Tryz.underlying137⟩) trivial,?_⟩
 refine List.forall_mem_cons.2 ⟨TI.ok_mk (by kernel_rfl) (⟨_,_,_,Tryz.underlying138⟩) trivial,?_⟩
 refine List.forall_mem_cons.2 ⟨TI.ok_mk (by kernel_rfl) (⟨_,Tryz.underlying139⟩) trivial,?_⟩
 refine List.forall_mem_cons.2 ⟨TI.ok_mk (by kernel_rfl) (⟨_,_,_,Tryz.underlying140⟩) trivial,?_⟩
 refine List.forall_mem_cons.2 ⟨TI.ok_mk (by kernel_rfl) (⟨Tryz.underlying141,[.nilFunc],1,by kernel_rfl,by kernel_rfl,rfl,by decide,by decide,by decide⟩) trivial,?_⟩
 refine List.forall_mem_cons.2 ⟨TI.ok_mk (by kernel_rfl) (⟨_,_,_,Tryz.underlying142⟩) trivial,?_⟩
 refine List.forall_mem_cons.2 ⟨TI.ok_mk (by kernel_rfl) (⟨_,Tryz.underlying143,by kernel_rfl,by decide⟩) ⟨rfl,by decide,rfl⟩,?_⟩
 refine List.forall_mem_cons.2 ⟨TI.ok_mk (by kernel_rfl) (⟨_,Tryz.underlying144,by kernel_rfl,by decide⟩) ⟨rfl,by decide,rfl⟩,?_⟩
 refine List.forall_mem_cons.2 ⟨TI.ok_mk (by kernel_rfl) (⟨Tryz.underlying145,by kernel_rfl⟩) trivial,?_⟩
 refine List.forall_mem_cons.2 ⟨TI.ok_mk (by kernel_rfl) (⟨Tryz.underlying146,by kernel_rfl⟩) trivial,?_⟩
 refine List.forall_mem_cons.2 ⟨TI.ok_mk (by kernel_rfl) (⟨_,_,_,Tryz.underlying148⟩) trivial,?_⟩
 refine List.forall_mem_cons.2 ⟨TI.ok_mk (by kernel_rfl) (⟨_,_,_,Tryz.underlying149⟩) trivial,?_⟩
 refine List.forall_mem_cons.2 ⟨TI.ok_mk (by kernel_rfl) (Tryz.underlying150) ⟨rfl,by decide,rfl⟩,?_⟩
 refine List.forall_mem_cons.2 ⟨TI.ok_mk (by kernel_rfl) (⟨Tryz.underlying151,[.int .i64 0],1,by kernel_rfl,by kernel_rfl,rfl,by decide,by decide,by decide⟩) trivial,?_⟩
 refine List.forall_mem_cons.2 ⟨TI.ok_mk (by kernel_rfl) (⟨_,_,_,Tryz.underlying152⟩) trivial,?_⟩
 refine List.forall_mem_cons.2 ⟨TI.ok_mk (by kernel_rfl) (⟨_,_,_,Tryz.underlying153⟩) trivial,?_⟩
 refine List.forall_mem_cons.2 ⟨TI.ok_mk (by kernel_rfl) (⟨_,_,_,Tryz.underlying154⟩) trivial,?_⟩
 refine List.forall_mem_cons.2 ⟨TI.ok_mk (by kernel_rfl) (⟨_,_,_,Tryz.underlying155⟩) trivial,?_⟩
 refine List.forall_mem_cons.2 ⟨TI.ok_mk (by kernel_rfl) (⟨_,_,_,Tryz.underlying156⟩) trivial,?_⟩
 refine List.forall_mem_cons.2 ⟨TI.ok_mk (by kernel_rfl) (⟨_,_,_,Tryz.underlying157⟩) trivial,?_⟩
 refine List.forall_mem_cons.2 ⟨TI.ok_mk (by kernel_rfl) (⟨_,_,_,Tryz.underlying158⟩) trivial,?_⟩
 refine List.forall_mem_cons.2 ⟨TI.ok_mk (by kernel_rfl) (⟨_,_,_,Tryz.underlying160⟩) trivial,?_⟩
 refine List.forall_mem_cons.2 ⟨TI.ok_mk (by kernel_rfl) (Tryz.underlying161) ⟨rfl,by decide,rfl⟩,?_⟩
 refine List.forall_mem_cons.2 ⟨TI.ok_mk (by kernel_rfl) (⟨_,_,_,Tryz.underlying162⟩) trivial,?_⟩
 refine List.forall_mem_cons.2 ⟨TI.ok_mk (by kernel_rfl) (⟨_,_,_,Tryz.underlying163⟩) trivial,?_⟩
 refine List.forall_mem_cons.2 ⟨TI.ok_mk (by kernel_rfl) (⟨_,_,_,Tryz.underlying164⟩) trivial,?_⟩
 refine List.forall_mem_cons.2 ⟨TI.ok_mk (by kernel_rfl) (⟨_,_,_,Tryz.underlying165⟩) trivial,?_⟩
 refine List.forall_mem_cons.2 ⟨TI.ok_mk (by kernel_rfl) (⟨_,_,_,Tryz.underlying166⟩) trivial,?_⟩
 refine List.forall_mem_cons.2 ⟨TI.ok_mk (by kernel_rfl) (Tryz.underlying167) ⟨rfl,by decide,rfl⟩,?_⟩
 refine List.forall_mem_cons.2 ⟨TI.ok_mk (by kernel_rfl) (⟨_,_,_,Tryz.underlying169⟩) trivial,?_⟩
 refine List.forall_mem_cons.2 ⟨TI.ok_mk (by kernel_rfl) (⟨_,_,_,Tryz.underlying170⟩) trivial,?_⟩
 refine List.forall_mem_cons.2 ⟨TI.ok_mk (by kernel_rfl) (⟨_,_,_,Tryz.underlying171⟩) trivial,?_⟩
 refine List.forall_mem_cons.2 ⟨TI.ok_mk (by kernel_rfl) (⟨_,_,_,Tryz.underlying172⟩) trivial,?_⟩
 refine List.forall_mem_cons.2 ⟨TI.ok_mk (by kernel_rfl) (⟨_,_,_,Tryz.underlying173⟩) trivial,?_⟩
 refine List.forall_mem_cons.2 ⟨TI.ok_mk (by kernel_rfl) (Tryz.underlying174) ⟨rfl,by decide,rfl⟩,?_⟩
 refine List.forall_mem_cons.2 ⟨TI.ok_mk (by kernel_rfl) (⟨_,_,_,Tryz.underlying175⟩) trivial,?_⟩
 refine List.forall_mem_cons.2 ⟨TI.ok_mk (by kernel_rfl) (⟨_,_,_,Tryz.underlying176⟩) trivial,?_⟩
 refine List.forall_mem_cons.2 ⟨TI.ok_mk (by kernel_rfl) (⟨_,_,_,Tryz.underlying177⟩) trivial,?_⟩
 refine List.forall_mem_cons.2 ⟨TI.ok_mk (by kernel_rfl) (⟨_,_,_,Tryz.underlying178⟩) trivial,?_⟩
 refine List.forall_mem_cons.2 ⟨TI.ok_mk (by kernel_rfl) (⟨_,_,_,Tryz.underlying179⟩) trivial,?_⟩
 refine List.forall_mem_cons.2 ⟨TI.ok_mk (by kernel_rfl) (Tryz.underlying180) ⟨rfl,by decide,rfl⟩,?_⟩
 refine List.forall_mem_cons.2 ⟨TI.ok_mk (by kernel_rfl) (⟨_,_,_,Tryz.underlying181⟩) trivial,?_⟩
 refine List.forall_mem_cons.2 ⟨TI.ok_mk (by kernel_rfl) (⟨_,_,_,Tryz.underlying182⟩) trivial,?_⟩
 refine List.forall_mem_cons.2 ⟨TI.ok_mk (by kernel_rfl) (⟨_,_,_,Tryz.underlying183⟩) trivial,?_⟩
 refine List.forall_mem_cons.2 ⟨TI.ok_mk (by kernel_rfl) (⟨_,Tryz.underlying184⟩) trivial,?_⟩
 refine List.forall_mem_cons.2 ⟨TI.ok_mk (by kernel_rfl) (⟨_,_,_,Tryz.underlying185⟩) trivial,?_⟩
 refine List.forall_mem_cons.2 ⟨TI.ok_mk (by kernel_rfl) (⟨_,_,_,Tryz.underlying186⟩) trivial,?_⟩
 refine List.forall_mem_cons.2 ⟨TI.ok_mk (by kernel_rfl) (⟨Tryz.underlying187,[.int .u8 0],1,by kernel_rfl,by kernel_rfl,rfl,by decide,by decide,by decide⟩) trivial,?_⟩
 refine List.forall_mem_cons.2 ⟨TI.ok_mk (by kernel_rfl) (⟨_,_,_,Tryz.underlying188⟩) trivial,?_⟩
 refine List.forall_mem_cons.2 ⟨TI.ok_mk (by kernel_rfl) (⟨_,_,_,Tryz.underlying190⟩) trivial,?_⟩
 refine List.forall_mem_cons.2 ⟨TI.ok_mk (by kernel_rfl) (⟨_,Tryz.underlying191⟩) trivial,?_⟩
 refine List.forall_mem_cons.2 ⟨TI.ok_mk (by kernel_rfl) (⟨_,_,_,Tryz.underlying193⟩) trivial,?_⟩
 refine List.forall_mem_cons.2 ⟨TI.ok_mk (by kernel_rfl) (⟨_,_,_,Tryz.underlying194⟩) trivial,?_⟩
 refine List.forall_mem_cons.2 ⟨TI.ok_mk (by kernel_rfl) (⟨Tryz.underlying195,[.int .u64 0],1,by kernel_rfl,by kernel_rfl,rfl,by decide,by decide,by decide⟩) trivial,?_⟩
 refine List.forall_mem_cons.2 ⟨TI.ok_mk (by kernel_rfl) (⟨Tryz.underlying196,[.int .u8 0],1,by kernel_rfl,by kernel_rfl,rfl,by decide,by decide,by decide⟩) trivial,?_⟩
 refine List.forall_mem_cons.2 ⟨TI.ok_mk (by kernel_rfl) (⟨Tryz.underlying197,[.int .u8 0],1,by kernel_rfl,by kernel_rfl,rfl,by decide,by decide,by decide⟩) trivial,?_⟩
 refine List.forall_mem_cons.2 ⟨TI.ok_mk (by kernel_rfl) (⟨Tryz.underlying198,[.int .u8 0],1,by kernel_rfl,by kernel_rfl,rfl,by decide,by decide,by decide⟩) trivial,?_⟩
 refine List.forall_mem_cons.2 ⟨TI.ok_mk (by kernel_rfl) (⟨_,_,_,Tryz.underlying199⟩) trivial,?_⟩
 refine List.forall_mem_cons.2 ⟨TI.ok_mk (by kernel_rfl) (⟨_,Tryz.underlying200,by kernel_rfl,by decide⟩) trivial,?_⟩
 refine List.forall_mem_cons.2 ⟨TI.ok_mk (by kernel_rfl) (⟨_,Tryz.underlying201,by kernel_rfl,by decide⟩) trivial,?_⟩
 refine List.forall_mem_cons.2 ⟨TI.ok_mk (by kernel_rfl) (⟨_,_,_,Tryz.underlying205⟩) trivial,?_⟩
 refine List.forall_mem_cons.2 ⟨TI.ok_mk (by kernel_rfl) (Tryz.underlying206) ⟨rfl,by decide,rfl⟩,?_⟩
 refine List.forall_mem_cons.2 ⟨TI.ok_mk (by kernel_rfl) (Tryz.underlying207) ⟨rfl,by decide,rfl⟩,?_⟩
 refine List.forall_mem_cons.2 ⟨TI.ok_mk (by kernel_rfl) (⟨_,_,_,Tryz.underlying208⟩) trivial,?_⟩
 refine List.forall_mem_cons.2 ⟨TI.ok_mk (by kernel_rfl) (⟨_,Tryz.underlying209⟩) trivial,?_⟩
 refine List.forall_mem_cons.2 ⟨TI.ok_mk (by kernel_rfl) (Tryz.underlying210) ⟨rfl,by decide,rfl⟩,?_⟩
 refine List.forall_mem_cons.2 ⟨TI.ok_mk (by kernel_rfl) (Tryz.underlying211) ⟨rfl,by decide,rfl⟩,?_⟩
 refine List.forall_mem_cons.2 ⟨TI.ok_mk (by kernel_rfl) (⟨_,Tryz.underlying212,by kernel_rfl,by decide⟩) trivial,?_⟩
 refine List.forall_mem_cons.2 ⟨TI.ok_mk (by kernel_rfl) (⟨_,Tryz.underlying213,by kernel_rfl,by decide⟩) trivial,?_⟩
 exact fun _ h=>absurd h (by simp)
def τ0:ZaA:=fun n=>Zch n ZuW
def τw:ZaA:=fun n=>Zch n (ZuW.filter fun p=>!(Nat.beq p.1 1))
theorem Zat:Zbl prog τ0:=Zso ZwH
theorem ZwN:Zbl prog τw:=ZqS ZwH _
theorem mixed:prog.follows .mixedOrders=true:=by kernel_rfl
end Go.Proofs.YtgpdnmfpgkkgcaaGreatDoor
