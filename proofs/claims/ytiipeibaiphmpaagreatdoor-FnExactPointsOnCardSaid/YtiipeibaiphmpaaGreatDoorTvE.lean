/- Texts of this claim: ZvE. -/
import Derived.Test.YtiipeibaiphmpaaGreatDoorTv17
import Derived.Test.YtiipeibaiphmpaaGreatDoorProg
set_option linter.unusedVariables false
namespace Go.Vai
def tys:List (Nat × TyI):=[
 (0,⟨.other,1,0,[]⟩),
 (1,⟨.other,1,8,[.raw .nilFunc]⟩),
 (2,⟨.int .i64,1,8,[.int .i64 0]⟩),
 (3,⟨.int .i64,1,8,[.int .i64 0]⟩),
 (4,⟨.bool,1,1,[.bool false]⟩),
 (5,⟨.int .u8,1,1,[.int .u8 0]⟩),
 (6,⟨.int .u8,1,1,[.int .u8 0]⟩),
 (7,⟨.struct [(0,2),(1,3),(2,4),(3,6)],4,24,[.int .i64 0,.int .i64 0,.bool false,.int .u8 0]⟩),
 (8,⟨.struct [(0,2),(1,3),(2,4),(3,6)],4,24,[.int .i64 0,.int .i64 0,.bool false,.int .u8 0]⟩),
 (9,⟨.string,1,16,[.str ⟨#[]⟩]⟩),
 (10,⟨.string,1,16,[.str ⟨#[]⟩]⟩),
 (11,⟨.string,1,16,[.str ⟨#[]⟩]⟩),
 (12,⟨.int .u64,1,8,[.int .u64 0]⟩),
 (13,⟨.struct [(0,9),(1,12)],2,24,[.str ⟨#[]⟩,.int .u64 0]⟩),
 (14,⟨.struct [(0,9),(1,12)],2,24,[.str ⟨#[]⟩,.int .u64 0]⟩),
 (15,⟨.ptr 294,1,8,[.raw (.pointer none)]⟩),
 (16,⟨.ptr 297,1,8,[.raw (.pointer none)]⟩),
 (17,⟨.ptr 306,1,8,[.raw (.pointer none)]⟩),
 (18,⟨.struct [(0,17)],1,8,[.raw (.pointer none)]⟩),
 (19,⟨.struct [(0,17)],1,8,[.raw (.pointer none)]⟩),
 (20,⟨.other,1,16,[.raw .nilIface]⟩),
 (21,⟨.int .i32,1,4,[.int .i32 0]⟩),
 (22,⟨.slice 122,1,24,[.sl []]⟩),
 (23,⟨.slice 124,1,24,[.sl []]⟩),
 (24,⟨.struct [(0,22),(1,23)],2,48,[.sl [],.sl []]⟩),
 (25,⟨.struct [(0,22),(1,23)],2,48,[.sl [],.sl []]⟩),
 (26,⟨.other,1,8,[.raw .nilFunc]⟩),
 (27,⟨.slice 2,1,24,[.sl []]⟩),
 (28,⟨.other,1,8,[.raw .nilFunc]⟩),
 (29,⟨.slice 85,1,24,[.sl []]⟩),
 (30,⟨.slice 87,1,24,[.sl []]⟩),
 (31,⟨.struct [(0,29),(1,30)],2,48,[.sl [],.sl []]⟩),
 (32,⟨.struct [(0,29),(1,30)],2,48,[.sl [],.sl []]⟩),
 (33,⟨.other,1,8,[.raw .nilFunc]⟩),
 (34,⟨.other,1,8,[.raw .nilFunc]⟩),
 (35,⟨.other,1,8,[.raw .nilFunc]⟩),
 (36,⟨.other,1,8,[.raw .nilFunc]⟩),
 (37,⟨.other,1,8,[.raw .nilFunc]⟩),
 (38,⟨.other,1,8,[.raw .nilFunc]⟩),
 (39,⟨.other,1,8,[.raw .nilFunc]⟩),
 (40,⟨.other,1,0,[]⟩),
 (41,⟨.other,1,8,[.raw .nilFunc]⟩),
 (42,⟨.struct [(0,2),(1,2),(2,2)],3,24,[.int .i64 0,.int .i64 0,.int .i64 0]⟩),
 (43,⟨.struct [(0,2),(1,2),(2,2)],3,24,[.int .i64 0,.int .i64 0,.int .i64 0]⟩),
 (44,⟨.struct [(0,2),(1,43)],4,32,[.int .i64 0,.int .i64 0,.int .i64 0,.int .i64 0]⟩),
 (45,⟨.struct [(0,2),(1,43)],4,32,[.int .i64 0,.int .i64 0,.int .i64 0,.int .i64 0]⟩),
 (46,⟨.other,1,0,[]⟩),
 (47,⟨.other,1,8,[.raw .nilFunc]⟩),
 (48,⟨.struct [(0,2),(1,2),(2,2)],3,24,[.int .i64 0,.int .i64 0,.int .i64 0]⟩),
 (49,⟨.struct [(0,2),(1,48)],4,32,[.int .i64 0,.int .i64 0,.int .i64 0,.int .i64 0]⟩),
 (50,⟨.struct [(0,2),(1,48)],4,32,[.int .i64 0,.int .i64 0,.int .i64 0,.int .i64 0]⟩),
 (51,⟨.other,1,8,[.raw .nilFunc]⟩),
 (52,⟨.other,1,8,[.raw .nilFunc]⟩),
 (53,⟨.other,1,8,[.raw .nilFunc]⟩),
 (54,⟨.other,1,8,[.raw .nilFunc]⟩),
 (55,⟨.other,1,0,[]⟩),
 (56,⟨.other,1,8,[.raw .nilFunc]⟩),
 (57,⟨.other,1,8,[.raw .nilFunc]⟩),
 (58,⟨.other,1,8,[.raw .nilFunc]⟩),
 (59,⟨.other,1,8,[.raw .nilFunc]⟩),
 (60,⟨.ptr 32,1,8,[.raw (.pointer none)]⟩),
 (61,⟨.other,1,8,[.raw .nilFunc]⟩),
 (62,⟨.other,1,8,[.raw .nilFunc]⟩),
 (63,⟨.other,1,8,[.raw .nilFunc]⟩),
 (64,⟨.other,1,8,[.raw .nilFunc]⟩),
 (65,⟨.other,1,8,[.raw .nilFunc]⟩),
 (66,⟨.other,1,8,[.raw .nilFunc]⟩),
 (67,⟨.other,1,8,[.raw .nilFunc]⟩),
 (68,⟨.other,1,8,[.raw .nilFunc]⟩),
 (69,⟨.other,1,8,[.raw .nilFunc]⟩),
 (70,⟨.other,1,8,[.raw .nilFunc]⟩),
 (71,⟨.other,1,8,[.raw .nilFunc]⟩),
 (72,⟨.other,1,8,[.raw .nilFunc]⟩),
 (73,⟨.other,1,8,[.raw .nilFunc]⟩),
 (74,⟨.struct [(0,2),(1,2),(2,2)],3,24,[.int .i64 0,.int .i64 0,.int .i64 0]⟩),
 (75,⟨.struct [(0,2),(1,2),(2,2)],3,24,[.int .i64 0,.int .i64 0,.int .i64 0]⟩),
 (76,⟨.struct [(0,2),(1,75)],4,32,[.int .i64 0,.int .i64 0,.int .i64 0,.int .i64 0]⟩),
 (77,⟨.struct [(0,2),(1,75)],4,32,[.int .i64 0,.int .i64 0,.int .i64 0,.int .i64 0]⟩),
 (78,⟨.other,1,8,[.raw .nilFunc]⟩),
 (79,⟨.struct [(0,75),(3,75)],6,48,[.int .i64 0,.int .i64 0,.int .i64 0,.int .i64 0,.int .i64 0,.int .i64 0]⟩),
 (80,⟨.struct [(0,75),(3,75)],6,48,[.int .i64 0,.int .i64 0,.int .i64 0,.int .i64 0,.int .i64 0,.int .i64 0]⟩),
 (81,⟨.struct [(0,80),(6,80),(12,2)],13,104,[.int .i64 0,.int .i64 0,.int .i64 0,.int .i64 0,.int .i64 0,.int .i64 0,.int .i64 0,.int .i64 0,.int .i64 0,.int .i64 0,.int .i64 0,.int .i64 0,.int .i64 0]⟩),
 (82,⟨.struct [(0,80),(6,80),(12,2)],13,104,[.int .i64 0,.int .i64 0,.int .i64 0,.int .i64 0,.int .i64 0,.int .i64 0,.int .i64 0,.int .i64 0,.int .i64 0,.int .i64 0,.int .i64 0,.int .i64 0,.int .i64 0]⟩),
 (83,⟨.other,1,8,[.raw .nilFunc]⟩),
 (84,⟨.struct [(0,48),(3,48)],6,48,[.int .i64 0,.int .i64 0,.int .i64 0,.int .i64 0,.int .i64 0,.int .i64 0]⟩),
 (85,⟨.struct [(0,48),(3,48)],6,48,[.int .i64 0,.int .i64 0,.int .i64 0,.int .i64 0,.int .i64 0,.int .i64 0]⟩),
 (86,⟨.struct [(0,2),(1,2),(2,2)],3,24,[.int .i64 0,.int .i64 0,.int .i64 0]⟩),
 (87,⟨.struct [(0,2),(1,2),(2,2)],3,24,[.int .i64 0,.int .i64 0,.int .i64 0]⟩),
 (88,⟨.other,1,8,[.raw .nilFunc]⟩),
 (89,⟨.other,1,8,[.raw .nilFunc]⟩),
 (90,⟨.other,1,0,[]⟩),
 (91,⟨.other,1,8,[.raw .nilFunc]⟩),
 (92,⟨.other,1,8,[.raw .nilFunc]⟩),
 (93,⟨.other,1,8,[.raw .nilFunc]⟩),
 (94,⟨.other,1,8,[.raw .nilFunc]⟩),
 (95,⟨.slice 98,1,24,[.sl []]⟩),
 (96,⟨.other,1,8,[.raw .nilFunc]⟩),
 (97,⟨.struct [(0,85),(6,85),(12,2)],13,104,[.int .i64 0,.int .i64 0,.int .i64 0,.int .i64 0,.int .i64 0,.int .i64 0,.int .i64 0,.int .i64 0,.int .i64 0,.int .i64 0,.int .i64 0,.int .i64 0,.int .i64 0]⟩),
 (98,⟨.struct [(0,85),(6,85),(12,2)],13,104,[.int .i64 0,.int .i64 0,.int .i64 0,.int .i64 0,.int .i64 0,.int .i64 0,.int .i64 0,.int .i64 0,.int .i64 0,.int .i64 0,.int .i64 0,.int .i64 0,.int .i64 0]⟩),
 (99,⟨.other,1,8,[.raw .nilFunc]⟩),
 (100,⟨.other,1,0,[]⟩),
 (101,⟨.other,1,8,[.raw .nilFunc]⟩),
 (102,⟨.other,1,8,[.raw .nilFunc]⟩),
 (103,⟨.other,1,8,[.raw .nilFunc]⟩),
 (104,⟨.other,1,8,[.raw .nilFunc]⟩),
 (105,⟨.other,1,8,[.raw .nilFunc]⟩),
 (106,⟨.other,1,8,[.raw .nilFunc]⟩),
 (107,⟨.other,1,8,[.raw .nilFunc]⟩),
 (108,⟨.other,1,8,[.raw .nilFunc]⟩),
 (109,⟨.slice 175,1,24,[.sl []]⟩),
 (110,⟨.other,1,8,[.raw .nilFunc]⟩),
 (111,⟨.other,1,8,[.raw .nilFunc]⟩),
 (112,⟨.other,1,8,[.raw .nilFunc]⟩),
 (113,⟨.other,1,8,[.raw .nilFunc]⟩),
 (114,⟨.other,1,8,[.raw .nilFunc]⟩),
 (115,⟨.other,1,8,[.raw .nilFunc]⟩),
 (116,⟨.other,1,0,[]⟩),
 (117,⟨.other,1,8,[.raw .nilFunc]⟩),
 (118,⟨.other,1,8,[.raw .nilFunc]⟩),
 (119,⟨.other,1,8,[.raw .nilFunc]⟩),
 (120,⟨.other,1,8,[.raw .nilFunc]⟩),
 (121,⟨.struct [(0,43),(3,43)],6,48,[.int .i64 0,.int .i64 0,.int .i64 0,.int .i64 0,.int .i64 0,.int .i64 0]⟩),
 (122,⟨.struct [(0,43),(3,43)],6,48,[.int .i64 0,.int .i64 0,.int .i64 0,.int .i64 0,.int .i64 0,.int .i64 0]⟩),
 (123,⟨.other,1,8,[.raw .nilFunc]⟩),
 (124,⟨.struct [(0,2),(1,2),(2,2)],3,24,[.int .i64 0,.int .i64 0,.int .i64 0]⟩),
 (125,⟨.other,1,0,[]⟩),
 (126,⟨.other,1,8,[.raw .nilFunc]⟩),
 (127,⟨.other,1,8,[.raw .nilFunc]⟩),
 (128,⟨.other,1,8,[.raw .nilFunc]⟩),
 (129,⟨.other,1,8,[.raw .nilFunc]⟩),
 (130,⟨.other,1,8,[.raw .nilFunc]⟩),
 (131,⟨.other,1,8,[.raw .nilFunc]⟩),
 (132,⟨.other,1,8,[.raw .nilFunc]⟩),
 (133,⟨.other,1,8,[.raw .nilFunc]⟩),
 (134,⟨.other,1,8,[.raw .nilFunc]⟩),
 (135,⟨.other,1,8,[.raw .nilFunc]⟩),
 (136,⟨.other,1,8,[.raw .nilFunc]⟩),
 (137,⟨.other,1,8,[.raw .nilFunc]⟩),
 (138,⟨.other,1,8,[.raw .nilFunc]⟩),
 (139,⟨.other,1,8,[.raw .nilFunc]⟩),
 (140,⟨.other,1,8,[.raw .nilFunc]⟩),
 (141,⟨.other,1,8,[.raw .nilFunc]⟩),
 (142,⟨.other,1,8,[.raw .nilFunc]⟩),
 (143,⟨.other,1,8,[.raw .nilFunc]⟩),
 (144,⟨.other,1,8,[.raw .nilFunc]⟩),
 (145,⟨.other,1,8,[.raw .nilFunc]⟩),
 (146,⟨.other,1,8,[.raw .nilFunc]⟩),
 (147,⟨.other,1,0,[]⟩),
 (148,⟨.other,1,8,[.raw .nilFunc]⟩),
 (149,⟨.other,1,8,[.raw .nilFunc]⟩),
 (150,⟨.other,1,0,[]⟩),
 (151,⟨.other,1,8,[.raw .nilFunc]⟩),
 (152,⟨.ptr 82,1,8,[.raw (.pointer none)]⟩),
 (153,⟨.other,1,8,[.raw .nilFunc]⟩),
 (154,⟨.other,1,8,[.raw .nilFunc]⟩),
 (155,⟨.other,1,8,[.raw .nilFunc]⟩),
 (156,⟨.other,1,8,[.raw .nilFunc]⟩),
 (157,⟨.other,1,8,[.raw .nilFunc]⟩),
 (158,⟨.other,1,8,[.raw .nilFunc]⟩),
 (159,⟨.other,1,8,[.raw .nilFunc]⟩),
 (160,⟨.other,1,8,[.raw .nilFunc]⟩),
 (161,⟨.other,1,8,[.raw .nilFunc]⟩),
 (162,⟨.other,1,8,[.raw .nilFunc]⟩),
 (163,⟨.other,1,8,[.raw .nilFunc]⟩),
 (164,⟨.int .u64,1,8,[.int .u64 0]⟩),
 (165,⟨.other,1,8,[.raw .nilFunc]⟩),
 (166,⟨.other,1,8,[.raw .nilFunc]⟩),
 (167,⟨.other,1,8,[.raw .nilFunc]⟩),
 (168,⟨.other,1,0,[]⟩),
 (169,⟨.other,1,8,[.raw .nilFunc]⟩),
 (170,⟨.other,1,8,[.raw .nilFunc]⟩),
 (171,⟨.other,1,8,[.raw .nilFunc]⟩),
 (172,⟨.other,1,8,[.raw .nilFunc]⟩),
 (173,⟨.other,1,8,[.raw .nilFunc]⟩),
 (174,⟨.struct [(0,85),(6,85),(12,2)],13,104,[.int .i64 0,.int .i64 0,.int .i64 0,.int .i64 0,.int .i64 0,.int .i64 0,.int .i64 0,.int .i64 0,.int .i64 0,.int .i64 0,.int .i64 0,.int .i64 0,.int .i64 0]⟩),
 (175,⟨.struct [(0,85),(6,85),(12,2)],13,104,[.int .i64 0,.int .i64 0,.int .i64 0,.int .i64 0,.int .i64 0,.int .i64 0,.int .i64 0,.int .i64 0,.int .i64 0,.int .i64 0,.int .i64 0,.int .i64 0,.int .i64 0]⟩),
 (176,⟨.other,1,8,[.raw .nilFunc]⟩),
 (177,⟨.other,1,8,[.raw .nilFunc]⟩),
 (178,⟨.other,1,8,[.raw .nilFunc]⟩),
 (179,⟨.other,1,8,[.raw .nilFunc]⟩),
 (180,⟨.other,1,8,[.raw .nilFunc]⟩),
 (181,⟨.slice 4,1,24,[.sl []]⟩),
 (182,⟨.other,1,8,[.raw .nilFunc]⟩),
 (183,⟨.slice 187,1,24,[.sl []]⟩),
 (184,⟨.other,1,8,[.raw .nilFunc]⟩),
 (185,⟨.other,1,8,[.raw .nilFunc]⟩),
 (186,⟨.struct [(0,2),(1,2),(2,2)],3,24,[.int .i64 0,.int .i64 0,.int .i64 0]⟩),
 (187,⟨.struct [(0,2),(1,2),(2,2)],3,24,[.int .i64 0,.int .i64 0,.int .i64 0]⟩),
 (188,⟨.other,1,8,[.raw .nilFunc]⟩),
 (189,⟨.other,1,8,[.raw .nilFunc]⟩),
 (190,⟨.other,1,8,[.raw .nilFunc]⟩),
 (191,⟨.slice 82,1,24,[.sl []]⟩),
 (192,⟨.other,1,0,[]⟩),
 (193,⟨.other,1,8,[.raw .nilFunc]⟩),
 (194,⟨.other,1,8,[.raw .nilFunc]⟩),
 (195,⟨.other,1,8,[.raw .nilFunc]⟩),
 (196,⟨.other,1,8,[.raw .nilFunc]⟩),
 (197,⟨.other,1,8,[.raw .nilFunc]⟩),
 (198,⟨.other,1,8,[.raw .nilFunc]⟩),
 (199,⟨.other,1,8,[.raw .nilFunc]⟩),
 (200,⟨.other,1,8,[.raw .nilFunc]⟩),
 (201,⟨.other,1,8,[.raw .nilFunc]⟩),
 (202,⟨.other,1,8,[.raw .nilFunc]⟩),
 (203,⟨.other,1,8,[.raw .nilFunc]⟩),
 (204,⟨.other,1,0,[]⟩),
 (205,⟨.other,1,8,[.raw .nilFunc]⟩),
 (206,⟨.other,1,0,[]⟩),
 (207,⟨.other,1,8,[.raw .nilFunc]⟩),
 (208,⟨.other,1,8,[.raw .nilFunc]⟩),
 (209,⟨.other,1,8,[.raw .nilFunc]⟩),
 (210,⟨.other,1,8,[.raw .nilFunc]⟩),
 (211,⟨.other,1,8,[.raw .nilFunc]⟩),
 (212,⟨.other,1,8,[.raw .nilFunc]⟩),
 (213,⟨.other,1,8,[.raw .nilFunc]⟩),
 (214,⟨.other,1,8,[.raw .nilFunc]⟩),
 (215,⟨.other,1,8,[.raw .nilFunc]⟩),
 (216,⟨.other,1,8,[.raw .nilFunc]⟩),
 (217,⟨.other,1,8,[.raw .nilFunc]⟩),
 (218,⟨.int .i64,1,8,[.int .i64 0]⟩),
 (219,⟨.other,1,0,[]⟩),
 (220,⟨.other,1,8,[.raw .nilFunc]⟩),
 (221,⟨.other,1,8,[.raw .nilFunc]⟩),
 (222,⟨.other,1,8,[.raw .nilFunc]⟩),
 (223,⟨.other,1,0,[]⟩),
 (224,⟨.other,1,8,[.raw .nilFunc]⟩),
 (225,⟨.other,1,8,[.raw .nilFunc]⟩),
 (226,⟨.int .u32,1,4,[.int .u32 0]⟩),
 (227,⟨.other,1,8,[.raw .nilFunc]⟩),
 (228,⟨.int .u64,1,8,[.int .u64 0]⟩),
 (229,⟨.other,1,0,[]⟩),
 (230,⟨.other,1,8,[.raw .nilFunc]⟩),
 (231,⟨.other,1,8,[.raw .nilFunc]⟩),
 (232,⟨.other,1,8,[.raw .nilFunc]⟩),
 (233,⟨.other,1,8,[.raw .nilFunc]⟩),
 (234,⟨.slice 3,1,24,[.sl []]⟩),
 (235,⟨.other,1,8,[.raw .nilFunc]⟩),
 (236,⟨.other,1,8,[.raw .nilFunc]⟩),
 (237,⟨.other,1,8,[.raw .nilFunc]⟩),
 (238,⟨.other,1,8,[.raw .nilFunc]⟩),
 (239,⟨.other,1,8,[.raw .nilFunc]⟩),
 (240,⟨.other,1,8,[.raw .nilFunc]⟩),
 (241,⟨.other,1,8,[.raw .nilFunc]⟩),
 (242,⟨.slice 80,1,24,[.sl []]⟩),
 (243,⟨.other,1,8,[.raw .nilFunc]⟩),
 (244,⟨.other,1,8,[.raw .nilFunc]⟩),
 (245,⟨.other,1,8,[.raw .nilFunc]⟩),
 (246,⟨.other,1,8,[.raw .nilFunc]⟩),
 (247,⟨.other,1,8,[.raw .nilFunc]⟩),
 (248,⟨.other,1,8,[.raw .nilFunc]⟩),
 (249,⟨.map 2 27,1,8,[.raw (.map none)]⟩),
 (250,⟨.other,1,8,[.raw .nilFunc]⟩),
 (251,⟨.slice 29,1,24,[.sl []]⟩),
 (252,⟨.other,1,8,[.raw .nilFunc]⟩),
 (253,⟨.other,1,0,[]⟩),
 (254,⟨.other,1,8,[.raw .nilFunc]⟩),
 (255,⟨.arr 8 85,48,384,[.int .i64 0,.int .i64 0,.int .i64 0,.int .i64 0,.int .i64 0,.int .i64 0,.int .i64 0,.int .i64 0,.int .i64 0,.int .i64 0,.int .i64 0,.int .i64 0,.int .i64 0,.int .i64 0,.int .i64 0,.int .i64 0,.int .i64 0,.int .i64 0,.int .i64 0,.int .i64 0,.int .i64 0,.int .i64 0,.int .i64 0,.int .i64 0,.int .i64 0,.int .i64 0,.int .i64 0,.int .i64 0,.int .i64 0,.int .i64 0,.int .i64 0,.int .i64 0,.int .i64 0,.int .i64 0,.int .i64 0,.int .i64 0,.int .i64 0,.int .i64 0,.int .i64 0,.int .i64 0,.int .i64 0,.int .i64 0,.int .i64 0,.int .i64 0,.int .i64 0,.int .i64 0,.int .i64 0,.int .i64 0]⟩),
 (256,⟨.other,1,8,[.raw .nilFunc]⟩),
 (257,⟨.other,1,8,[.raw .nilFunc]⟩),
 (258,⟨.other,1,8,[.raw .nilFunc]⟩),
 (259,⟨.other,1,8,[.raw .nilFunc]⟩),
 (260,⟨.other,1,8,[.raw .nilFunc]⟩),
 (261,⟨.other,1,0,[]⟩),
 (262,⟨.other,1,8,[.raw .nilFunc]⟩),
 (263,⟨.other,1,8,[.raw .nilFunc]⟩),
 (264,⟨.int .u64,1,8,[.int .u64 0]⟩),
 (265,⟨.other,1,8,[.raw .nilFunc]⟩),
 (266,⟨.other,1,8,[.raw .nilFunc]⟩),
 (267,⟨.other,1,8,[.raw .nilFunc]⟩),
 (268,⟨.ptr 3,1,8,[.raw (.pointer none)]⟩),
 (269,⟨.other,1,8,[.raw .nilFunc]⟩),
 (270,⟨.other,1,8,[.raw .nilFunc]⟩),
 (271,⟨.other,1,8,[.raw .nilFunc]⟩),
 (272,⟨.slice 27,1,24,[.sl []]⟩),
 (273,⟨.other,1,8,[.raw .nilFunc]⟩),
 (274,⟨.other,1,8,[.raw .nilFunc]⟩),
 (275,⟨.other,1,8,[.raw .nilFunc]⟩),
 (276,⟨.other,1,8,[.raw .nilFunc]⟩),
 (277,⟨.other,1,8,[.raw .nilFunc]⟩),
 (278,⟨.other,1,8,[.raw .nilFunc]⟩),
 (279,⟨.slice 75,1,24,[.sl []]⟩),
 (280,⟨.other,1,8,[.raw .nilFunc]⟩),
 (281,⟨.other,1,8,[.raw .nilFunc]⟩),
 (282,⟨.ptr 264,1,8,[.raw (.pointer none)]⟩),
 (283,⟨.other,1,0,[]⟩),
 (284,⟨.other,1,8,[.raw .nilFunc]⟩),
 (285,⟨.other,1,8,[.raw .nilFunc]⟩),
 (286,⟨.other,1,8,[.raw .nilFunc]⟩),
 (287,⟨.other,1,8,[.raw .nilFunc]⟩),
 (288,⟨.other,1,8,[.raw .nilFunc]⟩),
 (289,⟨.other,1,8,[.raw .nilFunc]⟩),
 (290,⟨.other,1,8,[.raw .nilFunc]⟩),
 (291,⟨.other,1,8,[.raw .nilFunc]⟩),
 (292,⟨.other,1,8,[.raw .nilFunc]⟩),
 (293,⟨.struct [(0,17),(1,17),(2,17),(3,9)],4,40,[.raw (.pointer none),.raw (.pointer none),.raw (.pointer none),.str ⟨#[]⟩]⟩),
 (294,⟨.struct [(0,17),(1,17),(2,17),(3,9)],4,40,[.raw (.pointer none),.raw (.pointer none),.raw (.pointer none),.str ⟨#[]⟩]⟩),
 (295,⟨.arr 0 16,0,0,[]⟩),
 (296,⟨.struct [(0,295)],0,0,[]⟩),
 (297,⟨.struct [(0,295)],0,0,[]⟩),
 (298,⟨.other,1,8,[.raw .nilFunc]⟩),
 (299,⟨.int .u8,1,1,[.int .u8 0]⟩),
 (300,⟨.int .u8,1,1,[.int .u8 0]⟩),
 (301,⟨.other,1,8,[.raw .nilFunc]⟩),
 (302,⟨.ptr 5,1,8,[.raw (.pointer none)]⟩),
 (303,⟨.int .i32,1,4,[.int .i32 0]⟩),
 (304,⟨.int .i32,1,4,[.int .i32 0]⟩),
 (305,⟨.struct [(0,12),(1,12),(2,226),(3,299),(4,5),(5,5),(6,300),(7,301),(8,302),(9,303),(10,304)],11,48,[.int .u64 0,.int .u64 0,.int .u32 0,.int .u8 0,.int .u8 0,.int .u8 0,.int .u8 0,.raw .nilFunc,.raw (.pointer none),.int .i32 0,.int .i32 0]⟩),
 (306,⟨.struct [(0,12),(1,12),(2,226),(3,299),(4,5),(5,5),(6,300),(7,301),(8,302),(9,303),(10,304)],11,48,[.int .u64 0,.int .u64 0,.int .u32 0,.int .u8 0,.int .u8 0,.int .u8 0,.int .u8 0,.raw .nilFunc,.raw (.pointer none),.int .i32 0,.int .i32 0]⟩),
 (307,⟨.other,1,8,[.raw .nilFunc]⟩),
 (308,⟨.other,1,8,[.raw (.pointer none)]⟩)]
def gv0:List IV:=[.int .i64 1,.int .i64 0,.int .i64 0,.int .i64 0,.int .i64 0,.int .i64 0,.int .i64 1,.int .i64 0,.int .i64 0,.int .i64 (-1),.int .i64 1,.int .i64 0,.int .i64 1,.int .i64 0,.int .i64 0,.int .i64 1,.int .i64 0,.int .i64 0,.int .i64 (-1),.int .i64 1,.int .i64 0,.int .i64 1,.int .i64 0,.int .i64 0,.int .i64 0,.int .i64 0,.int .i64 0,.int .i64 1,.int .i64 0,.int .i64 0,.int .i64 1,.int .i64 (-1),.int .i64 0,.int .i64 1,.int .i64 0,.int .i64 0,.int .i64 (-1),.int .i64 0,.int .i64 0,.int .i64 1,.int .i64 0,.int .i64 0,.int .i64 (-1),.int .i64 0,.int .i64 0,.int .i64 (-1),.int .i64 1,.int .i64 0]
def muts:List Nat:=[18,19,31,53,231,252]
noncomputable def E:Env:=⟨Proofs.Tryz.prog,look tys,[(0,gv0)],muts,[276,295]⟩
theorem EG:E.G = [(0,gv0)]:=rfl
attribute [simp] EG
theorem tys_ok:tysOk Proofs.Tryz.prog tys = true:=by kernel_rfl
theorem hE:E.Ok:=⟨fun t i h=>tysOk_spec tys_ok t i h,by kernel_rfl⟩
theorem τ2:E.τ 2 = some ⟨.int .i64,1,8,[.int .i64 0]⟩:=by kernel_rfl
theorem k2:tkOf E 2 = some (.int .i64):=by kernel_rfl
theorem τ3:E.τ 3 = some ⟨.int .i64,1,8,[.int .i64 0]⟩:=by kernel_rfl
theorem k3:tkOf E 3 = some (.int .i64):=by kernel_rfl
theorem τ4:E.τ 4 = some ⟨.bool,1,1,[.bool false]⟩:=by kernel_rfl
theorem k4:tkOf E 4 = some (.bool):=by kernel_rfl
theorem τ22:E.τ 22 = some ⟨.slice 122,1,24,[.sl []]⟩:=by kernel_rfl
theorem k22:tkOf E 22 = some (.slice 122):=by kernel_rfl
theorem τ23:E.τ 23 = some ⟨.slice 124,1,24,[.sl []]⟩:=by kernel_rfl
theorem k23:tkOf E 23 = some (.slice 124):=by kernel_rfl
theorem τ25:E.τ 25 = some ⟨.struct [(0,22),(1,23)],2,48,[.sl [],.sl []]⟩:=by kernel_rfl
theorem k25:tkOf E 25 = some (.struct [(0,22),(1,23)]):=by kernel_rfl
theorem k27:tkOf E 27 = some (.slice 2):=by kernel_rfl
theorem τ29:E.τ 29 = some ⟨.slice 85,1,24,[.sl []]⟩:=by kernel_rfl
theorem k29:tkOf E 29 = some (.slice 85):=by kernel_rfl
theorem τ30:E.τ 30 = some ⟨.slice 87,1,24,[.sl []]⟩:=by kernel_rfl
theorem k30:tkOf E 30 = some (.slice 87):=by kernel_rfl
theorem τ32:E.τ 32 = some ⟨.struct [(0,29),(1,30)],2,48,[.sl [],.sl []]⟩:=by kernel_rfl
theorem k32:tkOf E 32 = some (.struct [(0,29),(1,30)]):=by kernel_rfl
theorem τ43:E.τ 43 = some ⟨.struct [(0,2),(1,2),(2,2)],3,24,[.int .i64 0,.int .i64 0,.int .i64 0]⟩:=by kernel_rfl
theorem k43:tkOf E 43 = some (.struct [(0,2),(1,2),(2,2)]):=by kernel_rfl
theorem τ45:E.τ 45 = some ⟨.struct [(0,2),(1,43)],4,32,[.int .i64 0,.int .i64 0,.int .i64 0,.int .i64 0]⟩:=by kernel_rfl
theorem k45:tkOf E 45 = some (.struct [(0,2),(1,43)]):=by kernel_rfl
theorem τ48:E.τ 48 = some ⟨.struct [(0,2),(1,2),(2,2)],3,24,[.int .i64 0,.int .i64 0,.int .i64 0]⟩:=by kernel_rfl
theorem k48:tkOf E 48 = some (.struct [(0,2),(1,2),(2,2)]):=by kernel_rfl
theorem τ50:E.τ 50 = some ⟨.struct [(0,2),(1,48)],4,32,[.int .i64 0,.int .i64 0,.int .i64 0,.int .i64 0]⟩:=by kernel_rfl
theorem k50:tkOf E 50 = some (.struct [(0,2),(1,48)]):=by kernel_rfl
theorem τ75:E.τ 75 = some ⟨.struct [(0,2),(1,2),(2,2)],3,24,[.int .i64 0,.int .i64 0,.int .i64 0]⟩:=by kernel_rfl
theorem k75:tkOf E 75 = some (.struct [(0,2),(1,2),(2,2)]):=by kernel_rfl
theorem τ77:E.τ 77 = some ⟨.struct [(0,2),(1,75)],4,32,[.int .i64 0,.int .i64 0,.int .i64 0,.int .i64 0]⟩:=by kernel_rfl
theorem k77:tkOf E 77 = some (.struct [(0,2),(1,75)]):=by kernel_rfl
theorem τ80:E.τ 80 = some ⟨.struct [(0,75),(3,75)],6,48,[.int .i64 0,.int .i64 0,.int .i64 0,.int .i64 0,.int .i64 0,.int .i64 0]⟩:=by kernel_rfl
theorem k80:tkOf E 80 = some (.struct [(0,75),(3,75)]):=by kernel_rfl
theorem τ82:E.τ 82 = some ⟨.struct [(0,80),(6,80),(12,2)],13,104,[.int .i64 0,.int .i64 0,.int .i64 0,.int .i64 0,.int .i64 0,.int .i64 0,.int .i64 0,.int .i64 0,.int .i64 0,.int .i64 0,.int .i64 0,.int .i64 0,.int .i64 0]⟩:=by kernel_rfl
theorem k82:tkOf E 82 = some (.struct [(0,80),(6,80),(12,2)]):=by kernel_rfl
theorem τ85:E.τ 85 = some ⟨.struct [(0,48),(3,48)],6,48,[.int .i64 0,.int .i64 0,.int .i64 0,.int .i64 0,.int .i64 0,.int .i64 0]⟩:=by kernel_rfl
theorem k85:tkOf E 85 = some (.struct [(0,48),(3,48)]):=by kernel_rfl
theorem τ87:E.τ 87 = some ⟨.struct [(0,2),(1,2),(2,2)],3,24,[.int .i64 0,.int .i64 0,.int .i64 0]⟩:=by kernel_rfl
theorem k87:tkOf E 87 = some (.struct [(0,2),(1,2),(2,2)]):=by kernel_rfl
theorem k95:tkOf E 95 = some (.slice 98):=by kernel_rfl
theorem τ98:E.τ 98 = some ⟨.struct [(0,85),(6,85),(12,2)],13,104,[.int .i64 0,.int .i64 0,.int .i64 0,.int .i64 0,.int .i64 0,.int .i64 0,.int .i64 0,.int .i64 0,.int .i64 0,.int .i64 0,.int .i64 0,.int .i64 0,.int .i64 0]⟩:=by kernel_rfl
theorem k98:tkOf E 98 = some (.struct [(0,85),(6,85),(12,2)]):=by kernel_rfl
theorem τ122:E.τ 122 = some ⟨.struct [(0,43),(3,43)],6,48,[.int .i64 0,.int .i64 0,.int .i64 0,.int .i64 0,.int .i64 0,.int .i64 0]⟩:=by kernel_rfl
theorem k122:tkOf E 122 = some (.struct [(0,43),(3,43)]):=by kernel_rfl
theorem τ124:E.τ 124 = some ⟨.struct [(0,2),(1,2),(2,2)],3,24,[.int .i64 0,.int .i64 0,.int .i64 0]⟩:=by kernel_rfl
theorem k124:tkOf E 124 = some (.struct [(0,2),(1,2),(2,2)]):=by kernel_rfl
theorem k181:tkOf E 181 = some (.slice 4):=by kernel_rfl
theorem k191:tkOf E 191 = some (.slice 82):=by kernel_rfl
theorem k228:tkOf E 228 = some (.int .u64):=by kernel_rfl
theorem k234:tkOf E 234 = some (.slice 3):=by kernel_rfl
theorem k242:tkOf E 242 = some (.slice 80):=by kernel_rfl
theorem k249:tkOf E 249 = some (.map 2 27):=by kernel_rfl
theorem k251:tkOf E 251 = some (.slice 29):=by kernel_rfl
theorem k255:tkOf E 255 = some (.arr 8 85):=by kernel_rfl
theorem k279:tkOf E 279 = some (.slice 75):=by kernel_rfl
theorem e48:cmpB E.P 48 = true:=by kernel_rfl
theorem g48:cmpTop E.P 48 = true:=by kernel_rfl
theorem e85:cmpB E.P 85 = true:=by kernel_rfl
theorem g85:cmpTop E.P 85 = true:=by kernel_rfl
attribute [simp] τ2 k2 τ3 k3 τ4 k4 τ22 k22 τ23 k23 τ25 k25 k27 τ29 k29 τ30 k30 τ32 k32 τ43 k43 τ45 k45 τ48 k48 τ50 k50 τ75 k75 τ77 k77 τ80 k80 τ82 k82 τ85 k85 τ87 k87 k95 τ98 k98 τ122 k122 τ124 k124 k181 k191 k228 k234 k242 k249 k251 k255 k279
attribute [simp] e48 g48 e85 g85
end Go.Vai
