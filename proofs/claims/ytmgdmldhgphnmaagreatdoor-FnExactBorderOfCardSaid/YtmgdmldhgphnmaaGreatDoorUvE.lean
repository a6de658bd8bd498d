/- Texts of this claim: ZvE. -/
import Derived.Test.YtmgdmldhgphnmaaGreatDoorUv17
import Derived.Test.YtmgdmldhgphnmaaGreatDoorProg
set_option linter.unusedVariables false
namespace Go.Vai
def tys:List (Nat × TyI):=[
 (0,⟨.other,1,0,[]⟩),
 (1,⟨.other,1,8,[.raw .nilFunc]⟩),
 (2,⟨.int .i64,1,8,[.int .i64 0]⟩),
 (3,⟨.int .i64,1,8,[.int .i64 0]⟩),
 (4,⟨.bool,1,1,[.bool false]⟩),
 (5,⟨.int .u8,1,1,[.int .u8 0]⟩),
 (6,⟨.int .u8,1,1,[.int .u8 0]⟩),
 (7,⟨.struct [(0,2),(1,3),(2,4),(3,6)],4,24,[.int .i64 0,.int .i64 0,.bool false,.int .u8 0]⟩),
 (8,⟨.struct [(0,2),(1,3),(2,4),(3,6)],4,24,[.int .i64 0,.int .i64 0,.bool false,.int .u8 0]⟩),
 (9,⟨.string,1,16,[.str ⟨#[]⟩]⟩),
 (10,⟨.string,1,16,[.str ⟨#[]⟩]⟩),
 (11,⟨.string,1,16,[.str ⟨#[]⟩]⟩),
 (12,⟨.int .u64,1,8,[.int .u64 0]⟩),
 (13,⟨.struct [(0,9),(1,12)],2,24,[.str ⟨#[]⟩,.int .u64 0]⟩),
 (14,⟨.struct [(0,9),(1,12)],2,24,[.str ⟨#[]⟩,.int .u64 0]⟩),
 (15,⟨.ptr 392,1,8,[.raw (.pointer none)]⟩),
 (16,⟨.ptr 395,1,8,[.raw (.pointer none)]⟩),
 (17,⟨.ptr 403,1,8,[.raw (.pointer none)]⟩),
 (18,⟨.struct [(0,17)],1,8,[.raw (.pointer none)]⟩),
 (19,⟨.struct [(0,17)],1,8,[.raw (.pointer none)]⟩),
 (20,⟨.other,1,16,[.raw .nilIface]⟩),
 (21,⟨.int .i32,1,4,[.int .i32 0]⟩),
 (22,⟨.slice 61,1,24,[.sl []]⟩),
 (23,⟨.slice 156,1,24,[.sl []]⟩),
 (24,⟨.struct [(0,22),(1,23)],2,48,[.sl [],.sl []]⟩),
 (25,⟨.struct [(0,22),(1,23)],2,48,[.sl [],.sl []]⟩),
 (26,⟨.other,1,8,[.raw .nilFunc]⟩),
 (27,⟨.slice 2,1,24,[.sl []]⟩),
 (28,⟨.other,1,8,[.raw .nilFunc]⟩),
 (29,⟨.slice 65,1,24,[.sl []]⟩),
 (30,⟨.slice 100,1,24,[.sl []]⟩),
 (31,⟨.struct [(0,29),(1,30)],2,48,[.sl [],.sl []]⟩),
 (32,⟨.struct [(0,29),(1,30)],2,48,[.sl [],.sl []]⟩),
 (33,⟨.other,1,8,[.raw .nilFunc]⟩),
 (34,⟨.other,1,8,[.raw .nilFunc]⟩),
 (35,⟨.other,1,8,[.raw .nilFunc]⟩),
 (36,⟨.other,1,8,[.raw .nilFunc]⟩),
 (37,⟨.other,1,8,[.raw .nilFunc]⟩),
 (38,⟨.other,1,8,[.raw .nilFunc]⟩),
 (39,⟨.other,1,8,[.raw .nilFunc]⟩),
 (40,⟨.other,1,8,[.raw .nilFunc]⟩),
 (41,⟨.other,1,8,[.raw .nilFunc]⟩),
 (42,⟨.other,1,8,[.raw .nilFunc]⟩),
 (43,⟨.other,1,0,[]⟩),
 (44,⟨.other,1,8,[.raw .nilFunc]⟩),
 (45,⟨.struct [(0,2),(1,2),(2,2)],3,24,[.int .i64 0,.int .i64 0,.int .i64 0]⟩),
 (46,⟨.struct [(0,2),(1,2),(2,2)],3,24,[.int .i64 0,.int .i64 0,.int .i64 0]⟩),
 (47,⟨.struct [(0,2),(1,46)],4,32,[.int .i64 0,.int .i64 0,.int .i64 0,.int .i64 0]⟩),
 (48,⟨.struct [(0,2),(1,46)],4,32,[.int .i64 0,.int .i64 0,.int .i64 0,.int .i64 0]⟩),
 (49,⟨.other,1,0,[]⟩),
 (50,⟨.other,1,8,[.raw .nilFunc]⟩),
 (51,⟨.struct [(0,2),(1,2),(2,2)],3,24,[.int .i64 0,.int .i64 0,.int .i64 0]⟩),
 (52,⟨.struct [(0,2),(1,51)],4,32,[.int .i64 0,.int .i64 0,.int .i64 0,.int .i64 0]⟩),
 (53,⟨.struct [(0,2),(1,51)],4,32,[.int .i64 0,.int .i64 0,.int .i64 0,.int .i64 0]⟩),
 (54,⟨.other,1,8,[.raw .nilFunc]⟩),
 (55,⟨.other,1,8,[.raw .nilFunc]⟩),
 (56,⟨.other,1,8,[.raw .nilFunc]⟩),
 (57,⟨.other,1,8,[.raw .nilFunc]⟩),
 (58,⟨.other,1,0,[]⟩),
 (59,⟨.other,1,8,[.raw .nilFunc]⟩),
 (60,⟨.struct [(0,46),(3,46)],6,48,[.int .i64 0,.int .i64 0,.int .i64 0,.int .i64 0,.int .i64 0,.int .i64 0]⟩),
 (61,⟨.struct [(0,46),(3,46)],6,48,[.int .i64 0,.int .i64 0,.int .i64 0,.int .i64 0,.int .i64 0,.int .i64 0]⟩),
 (62,⟨.other,1,0,[]⟩),
 (63,⟨.other,1,8,[.raw .nilFunc]⟩),
 (64,⟨.struct [(0,51),(3,51)],6,48,[.int .i64 0,.int .i64 0,.int .i64 0,.int .i64 0,.int .i64 0,.int .i64 0]⟩),
 (65,⟨.struct [(0,51),(3,51)],6,48,[.int .i64 0,.int .i64 0,.int .i64 0,.int .i64 0,.int .i64 0,.int .i64 0]⟩),
 (66,⟨.other,1,8,[.raw .nilFunc]⟩),
 (67,⟨.other,1,8,[.raw .nilFunc]⟩),
 (68,⟨.other,1,8,[.raw .nilFunc]⟩),
 (69,⟨.other,1,8,[.raw .nilFunc]⟩),
 (70,⟨.other,1,0,[]⟩),
 (71,⟨.other,1,8,[.raw .nilFunc]⟩),
 (72,⟨.ptr 32,1,8,[.raw (.pointer none)]⟩),
 (73,⟨.other,1,8,[.raw .nilFunc]⟩),
 (74,⟨.other,1,8,[.raw .nilFunc]⟩),
 (75,⟨.other,1,8,[.raw .nilFunc]⟩),
 (76,⟨.other,1,8,[.raw .nilFunc]⟩),
 (77,⟨.other,1,8,[.raw .nilFunc]⟩),
 (78,⟨.other,1,8,[.raw .nilFunc]⟩),
 (79,⟨.other,1,8,[.raw .nilFunc]⟩),
 (80,⟨.other,1,8,[.raw .nilFunc]⟩),
 (81,⟨.other,1,8,[.raw .nilFunc]⟩),
 (82,⟨.other,1,8,[.raw .nilFunc]⟩),
 (83,⟨.other,1,8,[.raw .nilFunc]⟩),
 (84,⟨.other,1,8,[.raw .nilFunc]⟩),
 (85,⟨.other,1,8,[.raw .nilFunc]⟩),
 (86,⟨.other,1,8,[.raw .nilFunc]⟩),
 (87,⟨.other,1,8,[.raw .nilFunc]⟩),
 (88,⟨.other,1,8,[.raw .nilFunc]⟩),
 (89,⟨.struct [(0,2),(1,2),(2,2)],3,24,[.int .i64 0,.int .i64 0,.int .i64 0]⟩),
 (90,⟨.struct [(0,2),(1,2),(2,2)],3,24,[.int .i64 0,.int .i64 0,.int .i64 0]⟩),
 (91,⟨.struct [(0,2),(1,90)],4,32,[.int .i64 0,.int .i64 0,.int .i64 0,.int .i64 0]⟩),
 (92,⟨.struct [(0,2),(1,90)],4,32,[.int .i64 0,.int .i64 0,.int .i64 0,.int .i64 0]⟩),
 (93,⟨.other,1,8,[.raw .nilFunc]⟩),
 (94,⟨.struct [(0,90),(3,90)],6,48,[.int .i64 0,.int .i64 0,.int .i64 0,.int .i64 0,.int .i64 0,.int .i64 0]⟩),
 (95,⟨.struct [(0,90),(3,90)],6,48,[.int .i64 0,.int .i64 0,.int .i64 0,.int .i64 0,.int .i64 0,.int .i64 0]⟩),
 (96,⟨.struct [(0,95),(6,95),(12,2)],13,104,[.int .i64 0,.int .i64 0,.int .i64 0,.int .i64 0,.int .i64 0,.int .i64 0,.int .i64 0,.int .i64 0,.int .i64 0,.int .i64 0,.int .i64 0,.int .i64 0,.int .i64 0]⟩),
 (97,⟨.struct [(0,95),(6,95),(12,2)],13,104,[.int .i64 0,.int .i64 0,.int .i64 0,.int .i64 0,.int .i64 0,.int .i64 0,.int .i64 0,.int .i64 0,.int .i64 0,.int .i64 0,.int .i64 0,.int .i64 0,.int .i64 0]⟩),
 (98,⟨.other,1,8,[.raw .nilFunc]⟩),
 (99,⟨.struct [(0,2),(1,2),(2,2)],3,24,[.int .i64 0,.int .i64 0,.int .i64 0]⟩),
 (100,⟨.struct [(0,2),(1,2),(2,2)],3,24,[.int .i64 0,.int .i64 0,.int .i64 0]⟩),
 (101,⟨.other,1,8,[.raw .nilFunc]⟩),
 (102,⟨.other,1,8,[.raw .nilFunc]⟩),
 (103,⟨.other,1,0,[]⟩),
 (104,⟨.other,1,8,[.raw .nilFunc]⟩),
 (105,⟨.other,1,8,[.raw .nilFunc]⟩),
 (106,⟨.other,1,8,[.raw .nilFunc]⟩),
 (107,⟨.other,1,8,[.raw .nilFunc]⟩),
 (108,⟨.slice 111,1,24,[.sl []]⟩),
 (109,⟨.other,1,8,[.raw .nilFunc]⟩),
 (110,⟨.struct [(0,65),(6,65),(12,2)],13,104,[.int .i64 0,.int .i64 0,.int .i64 0,.int .i64 0,.int .i64 0,.int .i64 0,.int .i64 0,.int .i64 0,.int .i64 0,.int .i64 0,.int .i64 0,.int .i64 0,.int .i64 0]⟩),
 (111,⟨.struct [(0,65),(6,65),(12,2)],13,104,[.int .i64 0,.int .i64 0,.int .i64 0,.int .i64 0,.int .i64 0,.int .i64 0,.int .i64 0,.int .i64 0,.int .i64 0,.int .i64 0,.int .i64 0,.int .i64 0,.int .i64 0]⟩),
 (112,⟨.other,1,8,[.raw .nilFunc]⟩),
 (113,⟨.other,1,0,[]⟩),
 (114,⟨.other,1,8,[.raw .nilFunc]⟩),
 (115,⟨.other,1,8,[.raw .nilFunc]⟩),
 (116,⟨.other,1,8,[.raw .nilFunc]⟩),
 (117,⟨.other,1,8,[.raw .nilFunc]⟩),
 (118,⟨.other,1,8,[.raw .nilFunc]⟩),
 (119,⟨.other,1,8,[.raw .nilFunc]⟩),
 (120,⟨.other,1,8,[.raw .nilFunc]⟩),
 (121,⟨.other,1,8,[.raw .nilFunc]⟩),
 (122,⟨.slice 211,1,24,[.sl []]⟩),
 (123,⟨.other,1,8,[.raw .nilFunc]⟩),
 (124,⟨.other,1,8,[.raw .nilFunc]⟩),
 (125,⟨.other,1,8,[.raw .nilFunc]⟩),
 (126,⟨.other,1,8,[.raw .nilFunc]⟩),
 (127,⟨.other,1,8,[.raw .nilFunc]⟩),
 (128,⟨.other,1,8,[.raw .nilFunc]⟩),
 (129,⟨.other,1,8,[.raw .nilFunc]⟩),
 (130,⟨.slice 136,1,24,[.sl []]⟩),
 (131,⟨.other,1,0,[]⟩),
 (132,⟨.other,1,8,[.raw .nilFunc]⟩),
 (133,⟨.other,1,8,[.raw .nilFunc]⟩),
 (134,⟨.slice 221,1,24,[.sl []]⟩),
 (135,⟨.struct [(0,134),(1,29)],2,48,[.sl [],.sl []]⟩),
 (136,⟨.struct [(0,134),(1,29)],2,48,[.sl [],.sl []]⟩),
 (137,⟨.ptr 145,1,8,[.raw (.pointer none)]⟩),
 (138,⟨.other,1,0,[]⟩),
 (139,⟨.other,1,8,[.raw .nilFunc]⟩),
 (140,⟨.other,1,8,[.raw .nilFunc]⟩),
 (141,⟨.slice 29,1,24,[.sl []]⟩),
 (142,⟨.map 236 2,1,8,[.raw (.map none)]⟩),
 (143,⟨.slice 238,1,24,[.sl []]⟩),
 (144,⟨.struct [(0,32),(2,141),(3,142),(4,143)],5,104,[.sl [],.sl [],.sl [],.raw (.map none),.sl []]⟩),
 (145,⟨.struct [(0,32),(2,141),(3,142),(4,143)],5,104,[.sl [],.sl [],.sl [],.raw (.map none),.sl []]⟩),
 (146,⟨.slice 97,1,24,[.sl []]⟩),
 (147,⟨.other,1,0,[]⟩),
 (148,⟨.other,1,8,[.raw .nilFunc]⟩),
 (149,⟨.other,1,0,[]⟩),
 (150,⟨.other,1,8,[.raw .nilFunc]⟩),
 (151,⟨.other,1,8,[.raw .nilFunc]⟩),
 (152,⟨.other,1,8,[.raw .nilFunc]⟩),
 (153,⟨.other,1,8,[.raw .nilFunc]⟩),
 (154,⟨.other,1,8,[.raw .nilFunc]⟩),
 (155,⟨.other,1,8,[.raw .nilFunc]⟩),
 (156,⟨.struct [(0,2),(1,2),(2,2)],3,24,[.int .i64 0,.int .i64 0,.int .i64 0]⟩),
 (157,⟨.other,1,0,[]⟩),
 (158,⟨.other,1,8,[.raw .nilFunc]⟩),
 (159,⟨.other,1,8,[.raw .nilFunc]⟩),
 (160,⟨.other,1,8,[.raw .nilFunc]⟩),
 (161,⟨.other,1,8,[.raw .nilFunc]⟩),
 (162,⟨.other,1,8,[.raw .nilFunc]⟩),
 (163,⟨.other,1,8,[.raw .nilFunc]⟩),
 (164,⟨.other,1,8,[.raw .nilFunc]⟩),
 (165,⟨.other,1,8,[.raw .nilFunc]⟩),
 (166,⟨.other,1,8,[.raw .nilFunc]⟩),
 (167,⟨.slice 9,1,24,[.sl []]⟩),
 (168,⟨.other,1,8,[.raw .nilFunc]⟩),
 (169,⟨.other,1,8,[.raw .nilFunc]⟩),
 (170,⟨.other,1,8,[.raw .nilFunc]⟩),
 (171,⟨.other,1,8,[.raw .nilFunc]⟩),
 (172,⟨.other,1,8,[.raw .nilFunc]⟩),
 (173,⟨.other,1,8,[.raw .nilFunc]⟩),
 (174,⟨.other,1,8,[.raw .nilFunc]⟩),
 (175,⟨.other,1,8,[.raw .nilFunc]⟩),
 (176,⟨.other,1,8,[.raw .nilFunc]⟩),
 (177,⟨.other,1,8,[.raw .nilFunc]⟩),
 (178,⟨.other,1,8,[.raw .nilFunc]⟩),
 (179,⟨.other,1,8,[.raw .nilFunc]⟩),
 (180,⟨.other,1,8,[.raw .nilFunc]⟩),
 (181,⟨.other,1,8,[.raw .nilFunc]⟩),
 (182,⟨.other,1,8,[.raw .nilFunc]⟩),
 (183,⟨.other,1,8,[.raw .nilFunc]⟩),
 (184,⟨.other,1,8,[.raw .nilFunc]⟩),
 (185,⟨.other,1,8,[.raw .nilFunc]⟩),
 (186,⟨.other,1,8,[.raw .nilFunc]⟩),
 (187,⟨.other,1,0,[]⟩),
 (188,⟨.other,1,8,[.raw .nilFunc]⟩),
 (189,⟨.other,1,8,[.raw .nilFunc]⟩),
 (190,⟨.other,1,0,[]⟩),
 (191,⟨.other,1,8,[.raw .nilFunc]⟩),
 (192,⟨.ptr 97,1,8,[.raw (.pointer none)]⟩),
 (193,⟨.other,1,8,[.raw .nilFunc]⟩),
 (194,⟨.other,1,8,[.raw .nilFunc]⟩),
 (195,⟨.other,1,8,[.raw .nilFunc]⟩),
 (196,⟨.other,1,8,[.raw .nilFunc]⟩),
 (197,⟨.other,1,8,[.raw .nilFunc]⟩),
 (198,⟨.other,1,8,[.raw .nilFunc]⟩),
 (199,⟨.other,1,8,[.raw .nilFunc]⟩),
 (200,⟨.other,1,8,[.raw .nilFunc]⟩),
 (201,⟨.other,1,8,[.raw .nilFunc]⟩),
 (202,⟨.other,1,8,[.raw .nilFunc]⟩),
 (203,⟨.int .u64,1,8,[.int .u64 0]⟩),
 (204,⟨.other,1,8,[.raw .nilFunc]⟩),
 (205,⟨.other,1,8,[.raw .nilFunc]⟩),
 (206,⟨.other,1,8,[.raw .nilFunc]⟩),
 (207,⟨.other,1,8,[.raw .nilFunc]⟩),
 (208,⟨.other,1,8,[.raw .nilFunc]⟩),
 (209,⟨.other,1,8,[.raw .nilFunc]⟩),
 (210,⟨.struct [(0,65),(6,65),(12,2)],13,104,[.int .i64 0,.int .i64 0,.int .i64 0,.int .i64 0,.int .i64 0,.int .i64 0,.int .i64 0,.int .i64 0,.int .i64 0,.int .i64 0,.int .i64 0,.int .i64 0,.int .i64 0]⟩),
 (211,⟨.struct [(0,65),(6,65),(12,2)],13,104,[.int .i64 0,.int .i64 0,.int .i64 0,.int .i64 0,.int .i64 0,.int .i64 0,.int .i64 0,.int .i64 0,.int .i64 0,.int .i64 0,.int .i64 0,.int .i64 0,.int .i64 0]⟩),
 (212,⟨.other,1,8,[.raw .nilFunc]⟩),
 (213,⟨.other,1,8,[.raw .nilFunc]⟩),
 (214,⟨.other,1,8,[.raw .nilFunc]⟩),
 (215,⟨.other,1,8,[.raw .nilFunc]⟩),
 (216,⟨.other,1,8,[.raw .nilFunc]⟩),
 (217,⟨.slice 4,1,24,[.sl []]⟩),
 (218,⟨.other,1,8,[.raw .nilFunc]⟩),
 (219,⟨.other,1,8,[.raw .nilFunc]⟩),
 (220,⟨.struct [(0,2),(1,2)],2,16,[.int .i64 0,.int .i64 0]⟩),
 (221,⟨.struct [(0,2),(1,2)],2,16,[.int .i64 0,.int .i64 0]⟩),
 (222,⟨.other,1,8,[.raw .nilFunc]⟩),
 (223,⟨.other,1,8,[.raw .nilFunc]⟩),
 (224,⟨.other,1,8,[.raw .nilFunc]⟩),
 (225,⟨.slice 95,1,24,[.sl []]⟩),
 (226,⟨.other,1,8,[.raw .nilFunc]⟩),
 (227,⟨.other,1,8,[.raw .nilFunc]⟩),
 (228,⟨.other,1,8,[.raw .nilFunc]⟩),
 (229,⟨.slice 234,1,24,[.sl []]⟩),
 (230,⟨.other,1,0,[]⟩),
 (231,⟨.other,1,8,[.raw .nilFunc]⟩),
 (232,⟨.slice 236,1,24,[.sl []]⟩),
 (233,⟨.struct [(0,232),(1,29)],2,48,[.sl [],.sl []]⟩),
 (234,⟨.struct [(0,232),(1,29)],2,48,[.sl [],.sl []]⟩),
 (235,⟨.struct [(0,2),(1,2)],2,16,[.int .i64 0,.int .i64 0]⟩),
 (236,⟨.struct [(0,2),(1,2)],2,16,[.int .i64 0,.int .i64 0]⟩),
 (237,⟨.struct [(0,2),(1,2),(2,65),(8,65),(14,2)],15,120,[.int .i64 0,.int .i64 0,.int .i64 0,.int .i64 0,.int .i64 0,.int .i64 0,.int .i64 0,.int .i64 0,.int .i64 0,.int .i64 0,.int .i64 0,.int .i64 0,.int .i64 0,.int .i64 0,.int .i64 0]⟩),
 (238,⟨.struct [(0,2),(1,2),(2,65),(8,65),(14,2)],15,120,[.int .i64 0,.int .i64 0,.int .i64 0,.int .i64 0,.int .i64 0,.int .i64 0,.int .i64 0,.int .i64 0,.int .i64 0,.int .i64 0,.int .i64 0,.int .i64 0,.int .i64 0,.int .i64 0,.int .i64 0]⟩),
 (239,⟨.other,1,8,[.raw .nilFunc]⟩),
 (240,⟨.other,1,8,[.raw .nilFunc]⟩),
 (241,⟨.other,1,8,[.raw .nilFunc]⟩),
 (242,⟨.slice 246,1,24,[.sl []]⟩),
 (243,⟨.other,1,8,[.raw .nilFunc]⟩),
 (244,⟨.other,1,8,[.raw .nilFunc]⟩),
 (245,⟨.struct [(0,2),(1,2),(2,2)],3,24,[.int .i64 0,.int .i64 0,.int .i64 0]⟩),
 (246,⟨.struct [(0,2),(1,2),(2,2)],3,24,[.int .i64 0,.int .i64 0,.int .i64 0]⟩),
 (247,⟨.other,1,8,[.raw .nilFunc]⟩),
 (248,⟨.other,1,8,[.raw .nilFunc]⟩),
 (249,⟨.other,1,8,[.raw .nilFunc]⟩),
 (250,⟨.other,1,8,[.raw .nilFunc]⟩),
 (251,⟨.other,1,8,[.raw .nilFunc]⟩),
 (252,⟨.other,1,8,[.raw .nilFunc]⟩),
 (253,⟨.other,1,8,[.raw .nilFunc]⟩),
 (254,⟨.other,1,8,[.raw .nilFunc]⟩),
 (255,⟨.other,1,8,[.raw .nilFunc]⟩),
 (256,⟨.other,1,0,[]⟩),
 (257,⟨.other,1,8,[.raw .nilFunc]⟩),
 (258,⟨.other,1,0,[]⟩),
 (259,⟨.other,1,8,[.raw .nilFunc]⟩),
 (260,⟨.map 2 27,1,8,[.raw (.map none)]⟩),
 (261,⟨.other,1,8,[.raw .nilFunc]⟩),
 (262,⟨.other,1,8,[.raw .nilFunc]⟩),
 (263,⟨.other,1,8,[.raw .nilFunc]⟩),
 (264,⟨.slice 5,1,24,[.sl []]⟩),
 (265,⟨.other,1,8,[.raw .nilFunc]⟩),
 (266,⟨.ptr 268,1,8,[.raw (.pointer none)]⟩),
 (267,⟨.struct [(0,266),(1,264)],2,32,[.raw (.pointer none),.sl []]⟩),
 (268,⟨.struct [(0,266),(1,264)],2,32,[.raw (.pointer none),.sl []]⟩),
 (269,⟨.other,1,8,[.raw .nilFunc]⟩),
 (270,⟨.other,1,16,[.raw .nilIface]⟩),
 (271,⟨.other,1,16,[.raw .nilIface]⟩),
 (272,⟨.other,1,0,[]⟩),
 (273,⟨.other,1,8,[.raw .nilFunc]⟩),
 (274,⟨.other,1,8,[.raw .nilFunc]⟩),
 (275,⟨.other,1,8,[.raw .nilFunc]⟩),
 (276,⟨.other,1,8,[.raw .nilFunc]⟩),
 (277,⟨.other,1,8,[.raw .nilFunc]⟩),
 (278,⟨.other,1,8,[.raw .nilFunc]⟩),
 (279,⟨.other,1,8,[.raw .nilFunc]⟩),
 (280,⟨.other,1,8,[.raw .nilFunc]⟩),
 (281,⟨.other,1,8,[.raw .nilFunc]⟩),
 (282,⟨.other,1,8,[.raw .nilFunc]⟩),
 (283,⟨.other,1,8,[.raw .nilFunc]⟩),
 (284,⟨.other,1,8,[.raw .nilFunc]⟩),
 (285,⟨.int .i64,1,8,[.int .i64 0]⟩),
 (286,⟨.other,1,0,[]⟩),
 (287,⟨.other,1,8,[.raw .nilFunc]⟩),
 (288,⟨.other,1,8,[.raw .nilFunc]⟩),
 (289,⟨.other,1,8,[.raw .nilFunc]⟩),
 (290,⟨.other,1,0,[]⟩),
 (291,⟨.other,1,8,[.raw .nilFunc]⟩),
 (292,⟨.other,1,8,[.raw .nilFunc]⟩),
 (293,⟨.int .u32,1,4,[.int .u32 0]⟩),
 (294,⟨.other,1,8,[.raw .nilFunc]⟩),
 (295,⟨.int .u64,1,8,[.int .u64 0]⟩),
 (296,⟨.other,1,0,[]⟩),
 (297,⟨.other,1,8,[.raw .nilFunc]⟩),
 (298,⟨.other,1,8,[.raw .nilFunc]⟩),
 (299,⟨.other,1,8,[.raw .nilFunc]⟩),
 (300,⟨.slice 3,1,24,[.sl []]⟩),
 (301,⟨.other,1,8,[.raw .nilFunc]⟩),
 (302,⟨.other,1,8,[.raw .nilFunc]⟩),
 (303,⟨.other,1,8,[.raw .nilFunc]⟩),
 (304,⟨.map 236 4,1,8,[.raw (.map none)]⟩),
 (305,⟨.other,1,8,[.raw .nilFunc]⟩),
 (306,⟨.other,1,8,[.raw .nilFunc]⟩),
 (307,⟨.other,1,8,[.raw .nilFunc]⟩),
 (308,⟨.other,1,8,[.raw .nilFunc]⟩),
 (309,⟨.other,1,8,[.raw .nilFunc]⟩),
 (310,⟨.other,1,8,[.raw .nilFunc]⟩),
 (311,⟨.other,1,8,[.raw .nilFunc]⟩),
 (312,⟨.other,1,8,[.raw .nilFunc]⟩),
 (313,⟨.other,1,8,[.raw .nilFunc]⟩),
 (314,⟨.other,1,8,[.raw .nilFunc]⟩),
 (315,⟨.slice 90,1,24,[.sl []]⟩),
 (316,⟨.other,1,8,[.raw .nilFunc]⟩),
 (317,⟨.other,1,8,[.raw .nilFunc]⟩),
 (318,⟨.other,1,8,[.raw .nilFunc]⟩),
 (319,⟨.other,1,8,[.raw .nilFunc]⟩),
 (320,⟨.other,1,8,[.raw .nilFunc]⟩),
 (321,⟨.other,1,0,[]⟩),
 (322,⟨.other,1,8,[.raw .nilFunc]⟩),
 (323,⟨.arr 8 65,48,384,[.int .i64 0,.int .i64 0,.int .i64 0,.int .i64 0,.int .i64 0,.int .i64 0,.int .i64 0,.int .i64 0,.int .i64 0,.int .i64 0,.int .i64 0,.int .i64 0,.int .i64 0,.int .i64 0,.int .i64 0,.int .i64 0,.int .i64 0,.int .i64 0,.int .i64 0,.int .i64 0,.int .i64 0,.int .i64 0,.int .i64 0,.int .i64 0,.int .i64 0,.int .i64 0,.int .i64 0,.int .i64 0,.int .i64 0,.int .i64 0,.int .i64 0,.int .i64 0,.int .i64 0,.int .i64 0,.int .i64 0,.int .i64 0,.int .i64 0,.int .i64 0,.int .i64 0,.int .i64 0,.int .i64 0,.int .i64 0,.int .i64 0,.int .i64 0,.int .i64 0,.int .i64 0,.int .i64 0,.int .i64 0]⟩),
 (324,⟨.other,1,8,[.raw .nilFunc]⟩),
 (325,⟨.other,1,8,[.raw .nilFunc]⟩),
 (326,⟨.ptr 5,1,8,[.raw (.pointer none)]⟩),
 (327,⟨.other,1,8,[.raw .nilFunc]⟩),
 (328,⟨.other,1,8,[.raw .nilFunc]⟩),
 (329,⟨.other,1,8,[.raw .nilFunc]⟩),
 (330,⟨.other,1,8,[.raw .nilFunc]⟩),
 (331,⟨.other,1,8,[.raw .nilFunc]⟩),
 (332,⟨.other,1,0,[]⟩),
 (333,⟨.other,1,8,[.raw .nilFunc]⟩),
 (334,⟨.other,1,8,[.raw .nilFunc]⟩),
 (335,⟨.int .u64,1,8,[.int .u64 0]⟩),
 (336,⟨.other,1,8,[.raw .nilFunc]⟩),
 (337,⟨.other,1,8,[.raw .nilFunc]⟩),
 (338,⟨.other,1,8,[.raw .nilFunc]⟩),
 (339,⟨.ptr 3,1,8,[.raw (.pointer none)]⟩),
 (340,⟨.other,1,8,[.raw .nilFunc]⟩),
 (341,⟨.slice 27,1,24,[.sl []]⟩),
 (342,⟨.other,1,8,[.raw .nilFunc]⟩),
 (343,⟨.other,1,8,[.raw .nilFunc]⟩),
 (344,⟨.other,1,8,[.raw .nilFunc]⟩),
 (345,⟨.other,1,8,[.raw .nilFunc]⟩),
 (346,⟨.other,1,8,[.raw .nilFunc]⟩),
 (347,⟨.other,1,8,[.raw .nilFunc]⟩),
 (348,⟨.other,1,8,[.raw .nilFunc]⟩),
 (349,⟨.other,1,8,[.raw .nilFunc]⟩),
 (350,⟨.other,1,8,[.raw .nilFunc]⟩),
 (351,⟨.other,1,8,[.raw .nilFunc]⟩),
 (352,⟨.other,1,8,[.raw .nilFunc]⟩),
 (353,⟨.other,1,8,[.raw .nilFunc]⟩),
 (354,⟨.other,1,8,[.raw .nilFunc]⟩),
 (355,⟨.arr 24 5,24,24,[.int .u8 0,.int .u8 0,.int .u8 0,.int .u8 0,.int .u8 0,.int .u8 0,.int .u8 0,.int .u8 0,.int .u8 0,.int .u8 0,.int .u8 0,.int .u8 0,.int .u8 0,.int .u8 0,.int .u8 0,.int .u8 0,.int .u8 0,.int .u8 0,.int .u8 0,.int .u8 0,.int .u8 0,.int .u8 0,.int .u8 0,.int .u8 0]⟩),
 (356,⟨.other,1,8,[.raw .nilFunc]⟩),
 (357,⟨.other,1,0,[]⟩),
 (358,⟨.other,1,8,[.raw .nilFunc]⟩),
 (359,⟨.other,1,8,[.raw (.pointer none)]⟩),
 (360,⟨.other,1,8,[.raw .nilFunc]⟩),
 (361,⟨.other,1,8,[.raw .nilFunc]⟩),
 (362,⟨.other,1,8,[.raw .nilFunc]⟩),
 (363,⟨.other,1,8,[.raw .nilFunc]⟩),
 (364,⟨.ptr 335,1,8,[.raw (.pointer none)]⟩),
 (365,⟨.other,1,0,[]⟩),
 (366,⟨.other,1,8,[.raw .nilFunc]⟩),
 (367,⟨.other,1,8,[.raw .nilFunc]⟩),
 (368,⟨.other,1,8,[.raw .nilFunc]⟩),
 (369,⟨.other,1,8,[.raw .nilFunc]⟩),
 (370,⟨.other,1,8,[.raw .nilFunc]⟩),
 (371,⟨.other,1,8,[.raw .nilFunc]⟩),
 (372,⟨.other,1,8,[.raw .nilFunc]⟩),
 (373,⟨.other,1,8,[.raw .nilFunc]⟩),
 (374,⟨.other,1,8,[.raw .nilFunc]⟩),
 (375,⟨.other,1,8,[.raw .nilFunc]⟩),
 (376,⟨.other,1,8,[.raw .nilFunc]⟩),
 (377,⟨.other,1,8,[.raw .nilFunc]⟩),
 (378,⟨.other,1,8,[.raw .nilFunc]⟩),
 (379,⟨.arr 20 295,20,160,[.int .u64 0,.int .u64 0,.int .u64 0,.int .u64 0,.int .u64 0,.int .u64 0,.int .u64 0,.int .u64 0,.int .u64 0,.int .u64 0,.int .u64 0,.int .u64 0,.int .u64 0,.int .u64 0,.int .u64 0,.int .u64 0,.int .u64 0,.int .u64 0,.int .u64 0,.int .u64 0]⟩),
 (380,⟨.arr 65 5,65,65,[]⟩),
 (381,⟨.other,1,8,[.raw .nilFunc]⟩),
 (382,⟨.other,1,8,[.raw .nilFunc]⟩),
 (383,⟨.other,1,8,[.raw .nilFunc]⟩),
 (384,⟨.other,1,8,[.raw .nilFunc]⟩),
 (385,⟨.other,1,8,[.raw .nilFunc]⟩),
 (386,⟨.other,1,8,[.raw .nilFunc]⟩),
 (387,⟨.other,1,8,[.raw .nilFunc]⟩),
 (388,⟨.other,1,8,[.raw .nilFunc]⟩),
 (389,⟨.arr 32 5,32,32,[.int .u8 0,.int .u8 0,.int .u8 0,.int .u8 0,.int .u8 0,.int .u8 0,.int .u8 0,.int .u8 0,.int .u8 0,.int .u8 0,.int .u8 0,.int .u8 0,.int .u8 0,.int .u8 0,.int .u8 0,.int .u8 0,.int .u8 0,.int .u8 0,.int .u8 0,.int .u8 0,.int .u8 0,.int .u8 0,.int .u8 0,.int .u8 0,.int .u8 0,.int .u8 0,.int .u8 0,.int .u8 0,.int .u8 0,.int .u8 0,.int .u8 0,.int .u8 0]⟩),
 (390,⟨.arr 64 5,64,64,[.int .u8 0,.int .u8 0,.int .u8 0,.int .u8 0,.int .u8 0,.int .u8 0,.int .u8 0,.int .u8 0,.int .u8 0,.int .u8 0,.int .u8 0,.int .u8 0,.int .u8 0,.int .u8 0,.int .u8 0,.int .u8 0,.int .u8 0,.int .u8 0,.int .u8 0,.int .u8 0,.int .u8 0,.int .u8 0,.int .u8 0,.int .u8 0,.int .u8 0,.int .u8 0,.int .u8 0,.int .u8 0,.int .u8 0,.int .u8 0,.int .u8 0,.int .u8 0,.int .u8 0,.int .u8 0,.int .u8 0,.int .u8 0,.int .u8 0,.int .u8 0,.int .u8 0,.int .u8 0,.int .u8 0,.int .u8 0,.int .u8 0,.int .u8 0,.int .u8 0,.int .u8 0,.int .u8 0,.int .u8 0,.int .u8 0,.int .u8 0,.int .u8 0,.int .u8 0,.int .u8 0,.int .u8 0,.int .u8 0,.int .u8 0,.int .u8 0,.int .u8 0,.int .u8 0,.int .u8 0,.int .u8 0,.int .u8 0,.int .u8 0,.int .u8 0]⟩),
 (391,⟨.struct [(0,17),(1,17),(2,17),(3,9)],4,40,[.raw (.pointer none),.raw (.pointer none),.raw (.pointer none),.str ⟨#[]⟩]⟩),
 (392,⟨.struct [(0,17),(1,17),(2,17),(3,9)],4,40,[.raw (.pointer none),.raw (.pointer none),.raw (.pointer none),.str ⟨#[]⟩]⟩),
 (393,⟨.arr 0 16,0,0,[]⟩),
 (394,⟨.struct [(0,393)],0,0,[]⟩),
 (395,⟨.struct [(0,393)],0,0,[]⟩),
 (396,⟨.other,1,8,[.raw .nilFunc]⟩),
 (397,⟨.int .u8,1,1,[.int .u8 0]⟩),
 (398,⟨.int .u8,1,1,[.int .u8 0]⟩),
 (399,⟨.other,1,8,[.raw .nilFunc]⟩),
 (400,⟨.int .i32,1,4,[.int .i32 0]⟩),
 (401,⟨.int .i32,1,4,[.int .i32 0]⟩),
 (402,⟨.struct [(0,12),(1,12),(2,293),(3,397),(4,5),(5,5),(6,398),(7,399),(8,326),(9,400),(10,401)],11,48,[.int .u64 0,.int .u64 0,.int .u32 0,.int .u8 0,.int .u8 0,.int .u8 0,.int .u8 0,.raw .nilFunc,.raw (.pointer none),.int .i32 0,.int .i32 0]⟩),
 (403,⟨.struct [(0,12),(1,12),(2,293),(3,397),(4,5),(5,5),(6,398),(7,399),(8,326),(9,400),(10,401)],11,48,[.int .u64 0,.int .u64 0,.int .u32 0,.int .u8 0,.int .u8 0,.int .u8 0,.int .u8 0,.raw .nilFunc,.raw (.pointer none),.int .i32 0,.int .i32 0]⟩),
 (404,⟨.other,1,8,[.raw .nilFunc]⟩),
 (405,⟨.other,1,8,[.raw .nilFunc]⟩)]
def gv0:List IV:=[.int .i64 1,.int .i64 0,.int .i64 0,.int .i64 0,.int .i64 0,.int .i64 0,.int .i64 1,.int .i64 0,.int .i64 0,.int .i64 (-1),.int .i64 1,.int .i64 0,.int .i64 1,.int .i64 0,.int .i64 0,.int .i64 1,.int .i64 0,.int .i64 0,.int .i64 (-1),.int .i64 1,.int .i64 0,.int .i64 1,.int .i64 0,.int .i64 0,.int .i64 0,.int .i64 0,.int .i64 0,.int .i64 1,.int .i64 0,.int .i64 0,.int .i64 1,.int .i64 (-1),.int .i64 0,.int .i64 1,.int .i64 0,.int .i64 0,.int .i64 (-1),.int .i64 0,.int .i64 0,.int .i64 1,.int .i64 0,.int .i64 0,.int .i64 (-1),.int .i64 0,.int .i64 0,.int .i64 (-1),.int .i64 1,.int .i64 0]
def muts:List Nat:=[21,22,38,60,140,300]
noncomputable def E:Env:=⟨Proofs.Tryz.prog,look tys,[(0,gv0)],muts,[304,327]⟩
theorem EM:E.M = [21,22,38,60,140,300]:=rfl
theorem EN:E.N = [304,327]:=rfl
attribute [simp] EM EN
theorem EG:E.G = [(0,gv0)]:=rfl
attribute [simp] EG
theorem tys_ok:tysOk Proofs.Tryz.prog tys = true:=by kernel_rfl
theorem hE:E.Ok:=⟨fun t i h=>tysOk_spec tys_ok t i h,by kernel_rfl⟩
theorem τ0:E.τ 0 = some ⟨.other,1,0,[]⟩:=by kernel_rfl
theorem k0:tkOf E 0 = some (.other):=by kernel_rfl
theorem τ1:E.τ 1 = some ⟨.other,1,8,[.raw .nilFunc]⟩:=by kernel_rfl
theorem k1:tkOf E 1 = some (.other):=by kernel_rfl
theorem τ2:E.τ 2 = some ⟨.int .i64,1,8,[.int .i64 0]⟩:=by kernel_rfl
theorem k2:tkOf E 2 = some (.int .i64):=by kernel_rfl
theorem τ3:E.τ 3 = some ⟨.int .i64,1,8,[.int .i64 0]⟩:=by kernel_rfl
theorem k3:tkOf E 3 = some (.int .i64):=by kernel_rfl
theorem τ4:E.τ 4 = some ⟨.bool,1,1,[.bool false]⟩:=by kernel_rfl
theorem k4:tkOf E 4 = some (.bool):=by kernel_rfl
theorem τ5:E.τ 5 = some ⟨.int .u8,1,1,[.int .u8 0]⟩:=by kernel_rfl
theorem k5:tkOf E 5 = some (.int .u8):=by kernel_rfl
theorem τ6:E.τ 6 = some ⟨.int .u8,1,1,[.int .u8 0]⟩:=by kernel_rfl
theorem k6:tkOf E 6 = some (.int .u8):=by kernel_rfl
theorem τ7:E.τ 7 = some ⟨.struct [(0,2),(1,3),(2,4),(3,6)],4,24,[.int .i64 0,.int .i64 0,.bool false,.int .u8 0]⟩:=by kernel_rfl
theorem k7:tkOf E 7 = some (.struct [(0,2),(1,3),(2,4),(3,6)]):=by kernel_rfl
theorem τ8:E.τ 8 = some ⟨.struct [(0,2),(1,3),(2,4),(3,6)],4,24,[.int .i64 0,.int .i64 0,.bool false,.int .u8 0]⟩:=by kernel_rfl
theorem k8:tkOf E 8 = some (.struct [(0,2),(1,3),(2,4),(3,6)]):=by kernel_rfl
theorem τ9:E.τ 9 = some ⟨.string,1,16,[.str ⟨#[]⟩]⟩:=by kernel_rfl
theorem k9:tkOf E 9 = some (.string):=by kernel_rfl
theorem τ10:E.τ 10 = some ⟨.string,1,16,[.str ⟨#[]⟩]⟩:=by kernel_rfl
theorem k10:tkOf E 10 = some (.string):=by kernel_rfl
theorem τ11:E.τ 11 = some ⟨.string,1,16,[.str ⟨#[]⟩]⟩:=by kernel_rfl
theorem k11:tkOf E 11 = some (.string):=by kernel_rfl
theorem τ12:E.τ 12 = some ⟨.int .u64,1,8,[.int .u64 0]⟩:=by kernel_rfl
theorem k12:tkOf E 12 = some (.int .u64):=by kernel_rfl
theorem τ13:E.τ 13 = some ⟨.struct [(0,9),(1,12)],2,24,[.str ⟨#[]⟩,.int .u64 0]⟩:=by kernel_rfl
theorem k13:tkOf E 13 = some (.struct [(0,9),(1,12)]):=by kernel_rfl
theorem τ14:E.τ 14 = some ⟨.struct [(0,9),(1,12)],2,24,[.str ⟨#[]⟩,.int .u64 0]⟩:=by kernel_rfl
theorem k14:tkOf E 14 = some (.struct [(0,9),(1,12)]):=by kernel_rfl
theorem τ15:E.τ 15 = some ⟨.ptr 392,1,8,[.raw (.pointer none)]⟩:=by kernel_rfl
theorem k15:tkOf E 15 = some (.ptr 392):=by kernel_rfl
theorem τ16:E.τ 16 = some ⟨.ptr 395,1,8,[.raw (.pointer none)]⟩:=by kernel_rfl
theorem k16:tkOf E 16 = some (.ptr 395):=by kernel_rfl
theorem τ17:E.τ 17 = some ⟨.ptr 403,1,8,[.raw (.pointer none)]⟩:=by kernel_rfl
theorem k17:tkOf E 17 = some (.ptr 403):=by kernel_rfl
theorem τ18:E.τ 18 = some ⟨.struct [(0,17)],1,8,[.raw (.pointer none)]⟩:=by kernel_rfl
theorem k18:tkOf E 18 = some (.struct [(0,17)]):=by kernel_rfl
theorem τ19:E.τ 19 = some ⟨.struct [(0,17)],1,8,[.raw (.pointer none)]⟩:=by kernel_rfl
theorem k19:tkOf E 19 = some (.struct [(0,17)]):=by kernel_rfl
theorem τ20:E.τ 20 = some ⟨.other,1,16,[.raw .nilIface]⟩:=by kernel_rfl
theorem k20:tkOf E 20 = some (.other):=by kernel_rfl
theorem τ21:E.τ 21 = some ⟨.int .i32,1,4,[.int .i32 0]⟩:=by kernel_rfl
theorem k21:tkOf E 21 = some (.int .i32):=by kernel_rfl
theorem τ22:E.τ 22 = some ⟨.slice 61,1,24,[.sl []]⟩:=by kernel_rfl
theorem k22:tkOf E 22 = some (.slice 61):=by kernel_rfl
theorem τ23:E.τ 23 = some ⟨.slice 156,1,24,[.sl []]⟩:=by kernel_rfl
theorem k23:tkOf E 23 = some (.slice 156):=by kernel_rfl
theorem τ24:E.τ 24 = some ⟨.struct [(0,22),(1,23)],2,48,[.sl [],.sl []]⟩:=by kernel_rfl
theorem k24:tkOf E 24 = some (.struct [(0,22),(1,23)]):=by kernel_rfl
theorem τ25:E.τ 25 = some ⟨.struct [(0,22),(1,23)],2,48,[.sl [],.sl []]⟩:=by kernel_rfl
theorem k25:tkOf E 25 = some (.struct [(0,22),(1,23)]):=by kernel_rfl
theorem τ26:E.τ 26 = some ⟨.other,1,8,[.raw .nilFunc]⟩:=by kernel_rfl
theorem k26:tkOf E 26 = some (.other):=by kernel_rfl
theorem τ27:E.τ 27 = some ⟨.slice 2,1,24,[.sl []]⟩:=by kernel_rfl
theorem k27:tkOf E 27 = some (.slice 2):=by kernel_rfl
theorem τ28:E.τ 28 = some ⟨.other,1,8,[.raw .nilFunc]⟩:=by kernel_rfl
theorem k28:tkOf E 28 = some (.other):=by kernel_rfl
theorem τ29:E.τ 29 = some ⟨.slice 65,1,24,[.sl []]⟩:=by kernel_rfl
theorem k29:tkOf E 29 = some (.slice 65):=by kernel_rfl
theorem τ30:E.τ 30 = some ⟨.slice 100,1,24,[.sl []]⟩:=by kernel_rfl
theorem k30:tkOf E 30 = some (.slice 100):=by kernel_rfl
theorem τ31:E.τ 31 = some ⟨.struct [(0,29),(1,30)],2,48,[.sl [],.sl []]⟩:=by kernel_rfl
theorem k31:tkOf E 31 = some (.struct [(0,29),(1,30)]):=by kernel_rfl
theorem τ32:E.τ 32 = some ⟨.struct [(0,29),(1,30)],2,48,[.sl [],.sl []]⟩:=by kernel_rfl
theorem k32:tkOf E 32 = some (.struct [(0,29),(1,30)]):=by kernel_rfl
theorem τ33:E.τ 33 = some ⟨.other,1,8,[.raw .nilFunc]⟩:=by kernel_rfl
theorem k33:tkOf E 33 = some (.other):=by kernel_rfl
theorem τ34:E.τ 34 = some ⟨.other,1,8,[.raw .nilFunc]⟩:=by kernel_rfl
theorem k34:tkOf E 34 = some (.other):=by kernel_rfl
theorem τ35:E.τ 35 = some ⟨.other,1,8,[.raw .nilFunc]⟩:=by kernel_rfl
theorem k35:tkOf E 35 = some (.other):=by kernel_rfl
theorem τ36:E.τ 36 = some ⟨.other,1,8,[.raw .nilFunc]⟩:=by kernel_rfl
theorem k36:tkOf E 36 = some (.other):=by kernel_rfl
theorem τ37:E.τ 37 = some ⟨.other,1,8,[.raw .nilFunc]⟩:=by kernel_rfl
theorem k37:tkOf E 37 = some (.other):=by kernel_rfl
theorem τ38:E.τ 38 = some ⟨.other,1,8,[.raw .nilFunc]⟩:=by kernel_rfl
theorem k38:tkOf E 38 = some (.other):=by kernel_rfl
theorem τ39:E.τ 39 = some ⟨.other,1,8,[.raw .nilFunc]⟩:=by kernel_rfl
theorem k39:tkOf E 39 = some (.other):=by kernel_rfl
theorem τ40:E.τ 40 = some ⟨.other,1,8,[.raw .nilFunc]⟩:=by kernel_rfl
theorem k40:tkOf E 40 = some (.other):=by kernel_rfl
theorem τ41:E.τ 41 = some ⟨.other,1,8,[.raw .nilFunc]⟩:=by kernel_rfl
theorem k41:tkOf E 41 = some (.other):=by kernel_rfl
theorem τ42:E.τ 42 = some ⟨.other,1,8,[.raw .nilFunc]⟩:=by kernel_rfl
theorem k42:tkOf E 42 = some (.other):=by kernel_rfl
theorem τ43:E.τ 43 = some ⟨.other,1,0,[]⟩:=by kernel_rfl
theorem k43:tkOf E 43 = some (.other):=by kernel_rfl
theorem τ44:E.τ 44 = some ⟨.other,1,8,[.raw .nilFunc]⟩:=by kernel_rfl
theorem k44:tkOf E 44 = some (.other):=by kernel_rfl
theorem τ45:E.τ 45 = some ⟨.struct [(0,2),(1,2),(2,2)],3,24,[.int .i64 0,.int .i64 0,.int .i64 0]⟩:=by kernel_rfl
theorem k45:tkOf E 45 = some (.struct [(0,2),(1,2),(2,2)]):=by kernel_rfl
theorem τ46:E.τ 46 = some ⟨.struct [(0,2),(1,2),(2,2)],3,24,[.int .i64 0,.int .i64 0,.int .i64 0]⟩:=by kernel_rfl
theorem k46:tkOf E 46 = some (.struct [(0,2),(1,2),(2,2)]):=by kernel_rfl
theorem τ47:E.τ 47 = some ⟨.struct [(0,2),(1,46)],4,32,[.int .i64 0,.int .i64 0,.int .i64 0,.int .i64 0]⟩:=by kernel_rfl
theorem k47:tkOf E 47 = some (.struct [(0,2),(1,46)]):=by kernel_rfl
theorem τ48:E.τ 48 = some ⟨.struct [(0,2),(1,46)],4,32,[.int .i64 0,.int .i64 0,.int .i64 0,.int .i64 0]⟩:=by kernel_rfl
theorem k48:tkOf E 48 = some (.struct [(0,2),(1,46)]):=by kernel_rfl
theorem τ49:E.τ 49 = some ⟨.other,1,0,[]⟩:=by kernel_rfl
theorem k49:tkOf E 49 = some (.other):=by kernel_rfl
theorem τ50:E.τ 50 = some ⟨.other,1,8,[.raw .nilFunc]⟩:=by kernel_rfl
theorem k50:tkOf E 50 = some (.other):=by kernel_rfl
theorem τ51:E.τ 51 = some ⟨.struct [(0,2),(1,2),(2,2)],3,24,[.int .i64 0,.int .i64 0,.int .i64 0]⟩:=by kernel_rfl
theorem k51:tkOf E 51 = some (.struct [(0,2),(1,2),(2,2)]):=by kernel_rfl
theorem τ52:E.τ 52 = some ⟨.struct [(0,2),(1,51)],4,32,[.int .i64 0,.int .i64 0,.int .i64 0,.int .i64 0]⟩:=by kernel_rfl
theorem k52:tkOf E 52 = some (.struct [(0,2),(1,51)]):=by kernel_rfl
theorem τ53:E.τ 53 = some ⟨.struct [(0,2),(1,51)],4,32,[.int .i64 0,.int .i64 0,.int .i64 0,.int .i64 0]⟩:=by kernel_rfl
theorem k53:tkOf E 53 = some (.struct [(0,2),(1,51)]):=by kernel_rfl
theorem τ54:E.τ 54 = some ⟨.other,1,8,[.raw .nilFunc]⟩:=by kernel_rfl
theorem k54:tkOf E 54 = some (.other):=by kernel_rfl
theorem τ55:E.τ 55 = some ⟨.other,1,8,[.raw .nilFunc]⟩:=by kernel_rfl
theorem k55:tkOf E 55 = some (.other):=by kernel_rfl
theorem τ56:E.τ 56 = some ⟨.other,1,8,[.raw .nilFunc]⟩:=by kernel_rfl
theorem k56:tkOf E 56 = some (.other):=by kernel_rfl
theorem τ57:E.τ 57 = some ⟨.other,1,8,[.raw .nilFunc]⟩:=by kernel_rfl
theorem k57:tkOf E 57 = some (.other):=by kernel_rfl
theorem τ58:E.τ 58 = some ⟨.other,1,0,[]⟩:=by kernel_rfl
theorem k58:tkOf E 58 = some (.other):=by kernel_rfl
theorem τ59:E.τ 59 = some ⟨.other,1,8,[.raw .nilFunc]⟩:=by kernel_rfl
theorem k59:tkOf E 59 = some (.other):=by kernel_rfl
theorem τ60:E.τ 60 = some ⟨.struct [(0,46),(3,46)],6,48,[.int .i64 0,.int .i64 0,.int .i64 0,.int .i64 0,.int .i64 0,.int .i64 0]⟩:=by kernel_rfl
theorem k60:tkOf E 60 = some (.struct [(0,46),(3,46)]):=by kernel_rfl
theorem τ61:E.τ 61 = some ⟨.struct [(0,46),(3,46)],6,48,[.int .i64 0,.int .i64 0,.int .i64 0,.int .i64 0,.int .i64 0,.int .i64 0]⟩:=by kernel_rfl
theorem k61:tkOf E 61 = some (.struct [(0,46),(3,46)]):=by kernel_rfl
theorem τ62:E.τ 62 = some ⟨.other,1,0,[]⟩:=by kernel_rfl
theorem k62:tkOf E 62 = some (.other):=by kernel_rfl
theorem τ63:E.τ 63 = some ⟨.other,1,8,[.raw .nilFunc]⟩:=by kernel_rfl
theorem k63:tkOf E 63 = some (.other):=by kernel_rfl
theorem τ64:E.τ 64 = some ⟨.struct [(0,51),(3,51)],6,48,[.int .i64 0,.int .i64 0,.int .i64 0,.int .i64 0,.int .i64 0,.int .i64 0]⟩:=by kernel_rfl
theorem k64:tkOf E 64 = some (.struct [(0,51),(3,51)]):=by kernel_rfl
theorem τ65:E.τ 65 = some ⟨.struct [(0,51),(3,51)],6,48,[.int .i64 0,.int .i64 0,.int .i64 0,.int .i64 0,.int .i64 0,.int .i64 0]⟩:=by kernel_rfl
theorem k65:tkOf E 65 = some (.struct [(0,51),(3,51)]):=by kernel_rfl
theorem τ66:E.τ 66 = some ⟨.other,1,8,[.raw .nilFunc]⟩:=by kernel_rfl
theorem k66:tkOf E 66 = some (.other):=by kernel_rfl
theorem τ67:E.τ 67 = some ⟨.other,1,8,[.raw .nilFunc]⟩:=by kernel_rfl
theorem k67:tkOf E 67 = some (.other):=by kernel_rfl
theorem τ68:E.τ 68 = some ⟨.other,1,8,[.raw .nilFunc]⟩:=by kernel_rfl
theorem k68:tkOf E 68 = some (.other):=by kernel_rfl
theorem τ69:E.τ 69 = some ⟨.other,1,8,[.raw .nilFunc]⟩:=by kernel_rfl
theorem k69:tkOf E 69 = some (.other):=by kernel_rfl
theorem τ70:E.τ 70 = some ⟨.other,1,0,[]⟩:=by kernel_rfl
theorem k70:tkOf E 70 = some (.other):=by kernel_rfl
theorem τ71:E.τ 71 = some ⟨.other,1,8,[.raw .nilFunc]⟩:=by kernel_rfl
theorem k71:tkOf E 71 = some (.other):=by kernel_rfl
theorem τ72:E.τ 72 = some ⟨.ptr 32,1,8,[.raw (.pointer none)]⟩:=by kernel_rfl
theorem k72:tkOf E 72 = some (.ptr 32):=by kernel_rfl
theorem τ73:E.τ 73 = some ⟨.other,1,8,[.raw .nilFunc]⟩:=by kernel_rfl
theorem k73:tkOf E 73 = some (.other):=by kernel_rfl
theorem τ74:E.τ 74 = some ⟨.other,1,8,[.raw .nilFunc]⟩:=by kernel_rfl
theorem k74:tkOf E 74 = some (.other):=by kernel_rfl
theorem τ75:E.τ 75 = some ⟨.other,1,8,[.raw .nilFunc]⟩:=by kernel_rfl
theorem k75:tkOf E 75 = some (.other):=by kernel_rfl
theorem τ76:E.τ 76 = some ⟨.other,1,8,[.raw .nilFunc]⟩:=by kernel_rfl
theorem k76:tkOf E 76 = some (.other):=by kernel_rfl
theorem τ77:E.τ 77 = some ⟨.other,1,8,[.raw .nilFunc]⟩:=by kernel_rfl
theorem k77:tkOf E 77 = some (.other):=by kernel_rfl
theorem τ78:E.τ 78 = some ⟨.other,1,8,[.raw .nilFunc]⟩:=by kernel_rfl
theorem k78:tkOf E 78 = some (.other):=by kernel_rfl
theorem τ79:E.τ 79 = some ⟨.other,1,8,[.raw .nilFunc]⟩:=by kernel_rfl
theorem k79:tkOf E 79 = some (.other):=by kernel_rfl
theorem τ80:E.τ 80 = some ⟨.other,1,8,[.raw .nilFunc]⟩:=by kernel_rfl
theorem k80:tkOf E 80 = some (.other):=by kernel_rfl
theorem τ81:E.τ 81 = some ⟨.other,1,8,[.raw .nilFunc]⟩:=by kernel_rfl
theorem k81:tkOf E 81 = some (.other):=by kernel_rfl
theorem τ82:E.τ 82 = some ⟨.other,1,8,[.raw .nilFunc]⟩:=by kernel_rfl
theorem k82:tkOf E 82 = some (.other):=by kernel_rfl
theorem τ83:E.τ 83 = some ⟨.other,1,8,[.raw .nilFunc]⟩:=by kernel_rfl
theorem k83:tkOf E 83 = some (.other):=by kernel_rfl
theorem τ84:E.τ 84 = some ⟨.other,1,8,[.raw .nilFunc]⟩:=by kernel_rfl
theorem k84:tkOf E 84 = some (.other):=by kernel_rfl
theorem τ85:E.τ 85 = some ⟨.other,1,8,[.raw .nilFunc]⟩:=by kernel_rfl
theorem k85:tkOf E 85 = some (.other):=by kernel_rfl
theorem τ86:E.τ 86 = some ⟨.other,1,8,[.raw .nilFunc]⟩:=by kernel_rfl
theorem k86:tkOf E 86 = some (.other):=by kernel_rfl
theorem τ87:E.τ 87 = some ⟨.other,1,8,[.raw .nilFunc]⟩:=by kernel_rfl
theorem k87:tkOf E 87 = some (.other):=by kernel_rfl
theorem τ88:E.τ 88 = some ⟨.other,1,8,[.raw .nilFunc]⟩:=by kernel_rfl
theorem k88:tkOf E 88 = some (.other):=by kernel_rfl
theorem τ89:E.τ 89 = some ⟨.struct [(0,2),(1,2),(2,2)],3,24,[.int .i64 0,.int .i64 0,.int .i64 0]⟩:=by kernel_rfl
theorem k89:tkOf E 89 = some (.struct [(0,2),(1,2),(2,2)]):=by kernel_rfl
theorem τ90:E.τ 90 = some ⟨.struct [(0,2),(1,2),(2,2)],3,24,[.int .i64 0,.int .i64 0,.int .i64 0]⟩:=by kernel_rfl
theorem k90:tkOf E 90 = some (.struct [(0,2),(1,2),(2,2)]):=by kernel_rfl
theorem τ91:E.τ 91 = some ⟨.struct [(0,2),(1,90)],4,32,[.int .i64 0,.int .i64 0,.int .i64 0,.int .i64 0]⟩:=by kernel_rfl
theorem k91:tkOf E 91 = some (.struct [(0,2),(1,90)]):=by kernel_rfl
theorem τ92:E.τ 92 = some ⟨.struct [(0,2),(1,90)],4,32,[.int .i64 0,.int .i64 0,.int .i64 0,.int .i64 0]⟩:=by kernel_rfl
theorem k92:tkOf E 92 = some (.struct [(0,2),(1,90)]):=by kernel_rfl
theorem τ93:E.τ 93 = some ⟨.other,1,8,[.raw .nilFunc]⟩:=by kernel_rfl
theorem k93:tkOf E 93 = some (.other):=by kernel_rfl
theorem τ94:E.τ 94 = some ⟨.struct [(0,90),(3,90)],6,48,[.int .i64 0,.int .i64 0,.int .i64 0,.int .i64 0,.int .i64 0,.int .i64 0]⟩:=by kernel_rfl
theorem k94:tkOf E 94 = some (.struct [(0,90),(3,90)]):=by kernel_rfl
theorem τ95:E.τ 95 = some ⟨.struct [(0,90),(3,90)],6,48,[.int .i64 0,.int .i64 0,.int .i64 0,.int .i64 0,.int .i64 0,.int .i64 0]⟩:=by kernel_rfl
theorem k95:tkOf E 95 = some (.struct [(0,90),(3,90)]):=by kernel_rfl
theorem τ96:E.τ 96 = some ⟨.struct [(0,95),(6,95),(12,2)],13,104,[.int .i64 0,.int .i64 0,.int .i64 0,.int .i64 0,.int .i64 0,.int .i64 0,.int .i64 0,.int .i64 0,.int .i64 0,.int .i64 0,.int .i64 0,.int .i64 0,.int .i64 0]⟩:=by kernel_rfl
theorem k96:tkOf E 96 = some (.struct [(0,95),(6,95),(12,2)]):=by kernel_rfl
theorem τ97:E.τ 97 = some ⟨.struct [(0,95),(6,95),(12,2)],13,104,[.int .i64 0,.int .i64 0,.int .i64 0,.int .i64 0,.int .i64 0,.int .i64 0,.int .i64 0,.int .i64 0,.int .i64 0,.int .i64 0,.int .i64 0,.int .i64 0,.int .i64 0]⟩:=by kernel_rfl
theorem k97:tkOf E 97 = some (.struct [(0,95),(6,95),(12,2)]):=by kernel_rfl
theorem τ98:E.τ 98 = some ⟨.other,1,8,[.raw .nilFunc]⟩:=by kernel_rfl
theorem k98:tkOf E 98 = some (.other):=by kernel_rfl
theorem τ99:E.τ 99 = some ⟨.struct [(0,2),(1,2),(2,2)],3,24,[.int .i64 0,.int .i64 0,.int .i64 0]⟩:=by kernel_rfl
theorem k99:tkOf E 99 = some (.struct [(0,2),(1,2),(2,2)]):=by kernel_rfl
theorem τ100:E.τ 100 = some ⟨.struct [(0,2),(1,2),(2,2)],3,24,[.int .i64 0,.int .i64 0,.int .i64 0]⟩:=by kernel_rfl
theorem k100:tkOf E 100 = some (.struct [(0,2),(1,2),(2,2)]):=by kernel_rfl
theorem τ101:E.τ 101 = some ⟨.other,1,8,[.raw .nilFunc]⟩:=by kernel_rfl
theorem k101:tkOf E 101 = some (.other):=by kernel_rfl
theorem τ102:E.τ 102 = some ⟨.other,1,8,[.raw .nilFunc]⟩:=by kernel_rfl
theorem k102:tkOf E 102 = some (.other):=by kernel_rfl
theorem τ103:E.τ 103 = some ⟨.other,1,0,[]⟩:=by kernel_rfl
theorem k103:tkOf E 103 = some (.other):=by kernel_rfl
theorem τ104:E.τ 104 = some ⟨.other,1,8,[.raw .nilFunc]⟩:=by kernel_rfl
theorem k104:tkOf E 104 = some (.other):=by kernel_rfl
theorem τ105:E.τ 105 = some ⟨.other,1,8,[.raw .nilFunc]⟩:=by kernel_rfl
theorem k105:tkOf E 105 = some (.other):=by kernel_rfl
theorem τ106:E.τ 106 = some ⟨.other,1,8,[.raw .nilFunc]⟩:=by kernel_rfl
theorem k106:tkOf E 106 = some (.other):=by kernel_rfl
theorem τ107:E.τ 107 = some ⟨.other,1,8,[.raw .nilFunc]⟩:=by kernel_rfl
theorem k107:tkOf E 107 = some (.other):=by kernel_rfl
theorem τ108:E.τ 108 = some ⟨.slice 111,1,24,[.sl []]⟩:=by kernel_rfl
theorem k108:tkOf E 108 = some (.slice 111):=by kernel_rfl
theorem τ109:E.τ 109 = some ⟨.other,1,8,[.raw .nilFunc]⟩:=by kernel_rfl
theorem k109:tkOf E 109 = some (.other):=by kernel_rfl
theorem τ110:E.τ 110 = some ⟨.struct [(0,65),(6,65),(12,2)],13,104,[.int .i64 0,.int .i64 0,.int .i64 0,.int .i64 0,.int .i64 0,.int .i64 0,.int .i64 0,.int .i64 0,.int .i64 0,.int .i64 0,.int .i64 0,.int .i64 0,.int .i64 0]⟩:=by kernel_rfl
theorem k110:tkOf E 110 = some (.struct [(0,65),(6,65),(12,2)]):=by kernel_rfl
theorem τ111:E.τ 111 = some ⟨.struct [(0,65),(6,65),(12,2)],13,104,[.int .i64 0,.int .i64 0,.int .i64 0,.int .i64 0,.int .i64 0,.int .i64 0,.int .i64 0,.int .i64 0,.int .i64 0,.int .i64 0,.int .i64 0,.int .i64 0,.int .i64 0]⟩:=by kernel_rfl
theorem k111:tkOf E 111 = some (.struct [(0,65),(6,65),(12,2)]):=by kernel_rfl
theorem τ112:E.τ 112 = some ⟨.other,1,8,[.raw .nilFunc]⟩:=by kernel_rfl
theorem k112:tkOf E 112 = some (.other):=by kernel_rfl
theorem τ113:E.τ 113 = some ⟨.other,1,0,[]⟩:=by kernel_rfl
theorem k113:tkOf E 113 = some (.other):=by kernel_rfl
theorem τ114:E.τ 114 = some ⟨.other,1,8,[.raw .nilFunc]⟩:=by kernel_rfl
theorem k114:tkOf E 114 = some (.other):=by kernel_rfl
theorem τ115:E.τ 115 = some ⟨.other,1,8,[.raw .nilFunc]⟩:=by kernel_rfl
theorem k115:tkOf E 115 = some (.other):=by kernel_rfl
theorem τ116:E.τ 116 = some ⟨.other,1,8,[.raw .nilFunc]⟩:=by kernel_rfl
theorem k116:tkOf E 116 = some (.other):=by kernel_rfl
theorem τ117:E.τ 117 = some ⟨.other,1,8,[.raw .nilFunc]⟩:=by kernel_rfl
theorem k117:tkOf E 117 = some (.other):=by kernel_rfl
theorem τ118:E.τ 118 = some ⟨.other,1,8,[.raw .nilFunc]⟩:=by kernel_rfl
theorem k118:tkOf E 118 = some (.other):=by kernel_rfl
theorem τ119:E.τ 119 = some ⟨.other,1,8,[.raw .nilFunc]⟩:=by kernel_rfl
theorem k119:tkOf E 119 = some (.other):=by kernel_rfl
theorem τ120:E.τ 120 = some ⟨.other,1,8,[.raw .nilFunc]⟩:=by kernel_rfl
theorem k120:tkOf E 120 = some (.other):=by kernel_rfl
theorem τ121:E.τ 121 = some ⟨.other,1,8,[.raw .nilFunc]⟩:=by kernel_rfl
theorem k121:tkOf E 121 = some (.other):=by kernel_rfl
theorem τ122:E.τ 122 = some ⟨.slice 211,1,24,[.sl []]⟩:=by kernel_rfl
theorem k122:tkOf E 122 = some (.slice 211):=by kernel_rfl
theorem τ123:E.τ 123 = some ⟨.other,1,8,[.raw .nilFunc]⟩:=by kernel_rfl
theorem k123:tkOf E 123 = some (.other):=by kernel_rfl
theorem τ124:E.τ 124 = some ⟨.other,1,8,[.raw .nilFunc]⟩:=by kernel_rfl
theorem k124:tkOf E 124 = some (.other):=by kernel_rfl
theorem τ125:E.τ 125 = some ⟨.other,1,8,[.raw .nilFunc]⟩:=by kernel_rfl
theorem k125:tkOf E 125 = some (.other):=by kernel_rfl
theorem τ126:E.τ 126 = some ⟨.other,1,8,[.raw .nilFunc]⟩:=by kernel_rfl
theorem k126:tkOf E 126 = some (.other):=by kernel_rfl
theorem τ127:E.τ 127 = some ⟨.other,1,8,[.raw .nilFunc]⟩:=by kernel_rfl
theorem k127:tkOf E 127 = some (.other):=by kernel_rfl
theorem τ128:E.τ 128 = some ⟨.other,1,8,[.raw .nilFunc]⟩:=by kernel_rfl
theorem k128:tkOf E 128 = some (.other):=by kernel_rfl
theorem τ129:E.τ 129 = some ⟨.other,1,8,[.raw .nilFunc]⟩:=by kernel_rfl
theorem k129:tkOf E 129 = some (.other):=by kernel_rfl
theorem τ130:E.τ 130 = some ⟨.slice 136,1,24,[.sl []]⟩:=by kernel_rfl
theorem k130:tkOf E 130 = some (.slice 136):=by kernel_rfl
theorem τ131:E.τ 131 = some ⟨.other,1,0,[]⟩:=by kernel_rfl
theorem k131:tkOf E 131 = some (.other):=by kernel_rfl
theorem τ132:E.τ 132 = some ⟨.other,1,8,[.raw .nilFunc]⟩:=by kernel_rfl
theorem k132:tkOf E 132 = some (.other):=by kernel_rfl
theorem τ133:E.τ 133 = some ⟨.other,1,8,[.raw .nilFunc]⟩:=by kernel_rfl
theorem k133:tkOf E 133 = some (.other):=by kernel_rfl
theorem τ134:E.τ 134 = some ⟨.slice 221,1,24,[.sl []]⟩:=by kernel_rfl
theorem k134:tkOf E 134 = some (.slice 221):=by kernel_rfl
theorem τ135:E.τ 135 = some ⟨.struct [(0,134),(1,29)],2,48,[.sl [],.sl []]⟩:=by kernel_rfl
theorem k135:tkOf E 135 = some (.struct [(0,134),(1,29)]):=by kernel_rfl
theorem τ136:E.τ 136 = some ⟨.struct [(0,134),(1,29)],2,48,[.sl [],.sl []]⟩:=by kernel_rfl
theorem k136:tkOf E 136 = some (.struct [(0,134),(1,29)]):=by kernel_rfl
theorem τ137:E.τ 137 = some ⟨.ptr 145,1,8,[.raw (.pointer none)]⟩:=by kernel_rfl
theorem k137:tkOf E 137 = some (.ptr 145):=by kernel_rfl
theorem τ138:E.τ 138 = some ⟨.other,1,0,[]⟩:=by kernel_rfl
theorem k138:tkOf E 138 = some (.other):=by kernel_rfl
theorem τ139:E.τ 139 = some ⟨.other,1,8,[.raw .nilFunc]⟩:=by kernel_rfl
theorem k139:tkOf E 139 = some (.other):=by kernel_rfl
theorem τ140:E.τ 140 = some ⟨.other,1,8,[.raw .nilFunc]⟩:=by kernel_rfl
theorem k140:tkOf E 140 = some (.other):=by kernel_rfl
theorem τ141:E.τ 141 = some ⟨.slice 29,1,24,[.sl []]⟩:=by kernel_rfl
theorem k141:tkOf E 141 = some (.slice 29):=by kernel_rfl
theorem τ142:E.τ 142 = some ⟨.map 236 2,1,8,[.raw (.map none)]⟩:=by kernel_rfl
theorem k142:tkOf E 142 = some (.map 236 2):=by kernel_rfl
theorem τ143:E.τ 143 = some ⟨.slice 238,1,24,[.sl []]⟩:=by kernel_rfl
theorem k143:tkOf E 143 = some (.slice 238):=by kernel_rfl
theorem τ144:E.τ 144 = some ⟨.struct [(0,32),(2,141),(3,142),(4,143)],5,104,[.sl [],.sl [],.sl [],.raw (.map none),.sl []]⟩:=by kernel_rfl
theorem k144:tkOf E 144 = some (.struct [(0,32),(2,141),(3,142),(4,143)]):=by kernel_rfl
theorem τ145:E.τ 145 = some ⟨.struct [(0,32),(2,141),(3,142),(4,143)],5,104,[.sl [],.sl [],.sl [],.raw (.map none),.sl []]⟩:=by kernel_rfl
theorem k145:tkOf E 145 = some (.struct [(0,32),(2,141),(3,142),(4,143)]):=by kernel_rfl
theorem τ146:E.τ 146 = some ⟨.slice 97,1,24,[.sl []]⟩:=by kernel_rfl
theorem k146:tkOf E 146 = some (.slice 97):=by kernel_rfl
theorem τ147:E.τ 147 = some ⟨.other,1,0,[]⟩:=by kernel_rfl
theorem k147:tkOf E 147 = some (.other):=by kernel_rfl
theorem τ148:E.τ 148 = some ⟨.other,1,8,[.raw .nilFunc]⟩:=by kernel_rfl
theorem k148:tkOf E 148 = some (.other):=by kernel_rfl
theorem τ149:E.τ 149 = some ⟨.other,1,0,[]⟩:=by kernel_rfl
theorem k149:tkOf E 149 = some (.other):=by kernel_rfl
theorem τ150:E.τ 150 = some ⟨.other,1,8,[.raw .nilFunc]⟩:=by kernel_rfl
theorem k150:tkOf E 150 = some (.other):=by kernel_rfl
theorem τ151:E.τ 151 = some ⟨.other,1,8,[.raw .nilFunc]⟩:=by kernel_rfl
theorem k151:tkOf E 151 = some (.other):=by kernel_rfl
theorem τ152:E.τ 152 = some ⟨.other,1,8,[.raw .nilFunc]⟩:=by kernel_rfl
theorem k152:tkOf E 152 = some (.other):=by kernel_rfl
theorem τ153:E.τ 153 = some ⟨.other,1,8,[.raw .nilFunc]⟩:=by kernel_rfl
theorem k153:tkOf E 153 = some (.other):=by kernel_rfl
theorem τ154:E.τ 154 = some ⟨.other,1,8,[.raw .nilFunc]⟩:=by kernel_rfl
theorem k154:tkOf E 154 = some (.other):=by kernel_rfl
theorem τ155:E.τ 155 = some ⟨.other,1,8,[.raw .nilFunc]⟩:=by kernel_rfl
theorem k155:tkOf E 155 = some (.other):=by kernel_rfl
theorem τ156:E.τ 156 = some ⟨.struct [(0,2),(1,2),(2,2)],3,24,[.int .i64 0,.int .i64 0,.int .i64 0]⟩:=by kernel_rfl
theorem k156:tkOf E 156 = some (.struct [(0,2),(1,2),(2,2)]):=by kernel_rfl
theorem τ157:E.τ 157 = some ⟨.other,1,0,[]⟩:=by kernel_rfl
theorem k157:tkOf E 157 = some (.other):=by kernel_rfl
theorem τ158:E.τ 158 = some ⟨.other,1,8,[.raw .nilFunc]⟩:=by kernel_rfl
theorem k158:tkOf E 158 = some (.other):=by kernel_rfl
theorem τ159:E.τ 159 = some ⟨.other,1,8,[.raw .nilFunc]⟩:=by kernel_rfl
theorem k159:tkOf E 159 = some (.other):=by kernel_rfl
theorem τ160:E.τ 160 = some ⟨.other,1,8,[.raw .nilFunc]⟩:=by kernel_rfl
theorem k160:tkOf E 160 = some (.other):=by kernel_rfl
theorem τ161:E.τ 161 = some ⟨.other,1,8,[.raw .nilFunc]⟩:=by kernel_rfl
theorem k161:tkOf E 161 = some (.other):=by kernel_rfl
theorem τ162:E.τ 162 = some ⟨.other,1,8,[.raw .nilFunc]⟩:=by kernel_rfl
theorem k162:tkOf E 162 = some (.other):=by kernel_rfl
theorem τ163:E.τ 163 = some ⟨.other,1,8,[.raw .nilFunc]⟩:=by kernel_rfl
theorem k163:tkOf E 163 = some (.other):=by kernel_rfl
theorem τ164:E.τ 164 = some ⟨.other,1,8,[.raw .nilFunc]⟩:=by kernel_rfl
theorem k164:tkOf E 164 = some (.other):=by kernel_rfl
theorem τ165:E.τ 165 = some ⟨.other,1,8,[.raw .nilFunc]⟩:=by kernel_rfl
theorem k165:tkOf E 165 = some (.other):=by kernel_rfl
theorem τ166:E.τ 166 = some ⟨.other,1,8,[.raw .nilFunc]⟩:=by kernel_rfl
theorem k166:tkOf E 166 = some (.other):=by kernel_rfl
theorem τ167:E.τ 167 = some ⟨.slice 9,1,24,[.sl []]⟩:=by kernel_rfl
theorem k167:tkOf E 167 = some (.slice 9):=by kernel_rfl
theorem τ168:E.τ 168 = some ⟨.other,1,8,[.raw .nilFunc]⟩:=by kernel_rfl
theorem k168:tkOf E 168 = some (.other):=by kernel_rfl
theorem τ169:E.τ 169 = some ⟨.other,1,8,[.raw .nilFunc]⟩:=by kernel_rfl
theorem k169:tkOf E 169 = some (.other):=by kernel_rfl
theorem τ170:E.τ 170 = some ⟨.other,1,8,[.raw .nilFunc]⟩:=by kernel_rfl
theorem k170:tkOf E 170 = some (.other):=by kernel_rfl
theorem τ171:E.τ 171 = some ⟨.other,1,8,[.raw .nilFunc]⟩:=by kernel_rfl
theorem k171:tkOf E 171 = some (.other):=by kernel_rfl
theorem τ172:E.τ 172 = some ⟨.other,1,8,[.raw .nilFunc]⟩:=by kernel_rfl
theorem k172:tkOf E 172 = some (.other):=by kernel_rfl
theorem τ173:E.τ 173 = some ⟨.other,1,8,[.raw .nilFunc]⟩:=by kernel_rfl
theorem k173:tkOf E 173 = some (.other):=by kernel_rfl
theorem τ174:E.τ 174 = some ⟨.other,1,8,[.raw .nilFunc]⟩:=by kernel_rfl
theorem k174:tkOf E 174 = some (.other):=by kernel_rfl
theorem τ175:E.τ 175 = some ⟨.other,1,8,[.raw .nilFunc]⟩:=by kernel_rfl
theorem k175:tkOf E 175 = some (.other):=by kernel_rfl
theorem τ176:E.τ 176 = some ⟨.other,1,8,[.raw .nilFunc]⟩:=by kernel_rfl
theorem k176:tkOf E 176 = some (.other):=by kernel_rfl
theorem τ177:E.τ 177 = some ⟨.other,1,8,[.raw .nilFunc]⟩:=by kernel_rfl
theorem k177:tkOf E 177 = some (.other):=by kernel_rfl
theorem τ178:E.τ 178 = some ⟨.other,1,8,[.raw .nilFunc]⟩:=by kernel_rfl
theorem k178:tkOf E 178 = some (.other):=by kernel_rfl
theorem τ179:E.τ 179 = some ⟨.other,1,8,[.raw .nilFunc]⟩:=by kernel_rfl
theorem k179:tkOf E 179 = some (.other):=by kernel_rfl
theorem τ180:E.τ 180 = some ⟨.other,1,8,[.raw .nilFunc]⟩:=by kernel_rfl
theorem k180:tkOf E 180 = some (.other):=by kernel_rfl
theorem τ181:E.τ 181 = some ⟨.other,1,8,[.raw .nilFunc]⟩:=by kernel_rfl
theorem k181:tkOf E 181 = some (.other):=by kernel_rfl
theorem τ182:E.τ 182 = some ⟨.other,1,8,[.raw .nilFunc]⟩:=by kernel_rfl
theorem k182:tkOf E 182 = some (.other):=by kernel_rfl
theorem τ183:E.τ 183 = some ⟨.other,1,8,[.raw .nilFunc]⟩:=by kernel_rfl
theorem k183:tkOf E 183 = some (.other):=by kernel_rfl
theorem τ184:E.τ 184 = some ⟨.other,1,8,[.raw .nilFunc]⟩:=by kernel_rfl
theorem k184:tkOf E 184 = some (.other):=by kernel_rfl
theorem τ185:E.τ 185 = some ⟨.other,1,8,[.raw .nilFunc]⟩:=by kernel_rfl
theorem k185:tkOf E 185 = some (.other):=by kernel_rfl
theorem τ186:E.τ 186 = some ⟨.other,1,8,[.raw .nilFunc]⟩:=by kernel_rfl
theorem k186:tkOf E 186 = some (.other):=by kernel_rfl
theorem τ187:E.τ 187 = some ⟨.other,1,0,[]⟩:=by kernel_rfl
theorem k187:tkOf E 187 = some (.other):=by kernel_rfl
theorem τ188:E.τ 188 = some ⟨.other,1,8,[.raw .nilFunc]⟩:=by kernel_rfl
theorem k188:tkOf E 188 = some (.other):=by kernel_rfl
theorem τ189:E.τ 189 = some ⟨.other,1,8,[.raw .nilFunc]⟩:=by kernel_rfl
theorem k189:tkOf E 189 = some (.other):=by kernel_rfl
theorem τ190:E.τ 190 = some ⟨.other,1,0,[]⟩:=by kernel_rfl
theorem k190:tkOf E 190 = some (.other):=by kernel_rfl
theorem τ191:E.τ 191 = some ⟨.other,1,8,[.raw .nilFunc]⟩:=by kernel_rfl
theorem k191:tkOf E 191 = some (.other):=by kernel_rfl
theorem τ192:E.τ 192 = some ⟨.ptr 97,1,8,[.raw (.pointer none)]⟩:=by kernel_rfl
theorem k192:tkOf E 192 = some (.ptr 97):=by kernel_rfl
theorem τ193:E.τ 193 = some ⟨.other,1,8,[.raw .nilFunc]⟩:=by kernel_rfl
theorem k193:tkOf E 193 = some (.other):=by kernel_rfl
theorem τ194:E.τ 194 = some ⟨.other,1,8,[.raw .nilFunc]⟩:=by kernel_rfl
theorem k194:tkOf E 194 = some (.other):=by kernel_rfl
theorem τ195:E.τ 195 = some ⟨.other,1,8,[.raw .nilFunc]⟩:=by kernel_rfl
theorem k195:tkOf E 195 = some (.other):=by kernel_rfl
theorem τ196:E.τ 196 = some ⟨.other,1,8,[.raw .nilFunc]⟩:=by kernel_rfl
theorem k196:tkOf E 196 = some (.other):=by kernel_rfl
theorem τ197:E.τ 197 = some ⟨.other,1,8,[.raw .nilFunc]⟩:=by kernel_rfl
theorem k197:tkOf E 197 = some (.other):=by kernel_rfl
theorem τ198:E.τ 198 = some ⟨.other,1,8,[.raw .nilFunc]⟩:=by kernel_rfl
theorem k198:tkOf E 198 = some (.other):=by kernel_rfl
theorem τ199:E.τ 199 = some ⟨.other,1,8,[.raw .nilFunc]⟩:=by kernel_rfl
theorem k199:tkOf E 199 = some (.other):=by kernel_rfl
theorem τ200:E.τ 200 = some ⟨.other,1,8,[.raw .nilFunc]⟩:=by kernel_rfl
theorem k200:tkOf E 200 = some (.other):=by kernel_rfl
theorem τ201:E.τ 201 = some ⟨.other,1,8,[.raw .nilFunc]⟩:=by kernel_rfl
theorem k201:tkOf E 201 = some (.other):=by kernel_rfl
theorem τ202:E.τ 202 = some ⟨.other,1,8,[.raw .nilFunc]⟩:=by kernel_rfl
theorem k202:tkOf E 202 = some (.other):=by kernel_rfl
theorem τ203:E.τ 203 = some ⟨.int .u64,1,8,[.int .u64 0]⟩:=by kernel_rfl
theorem k203:tkOf E 203 = some (.int .u64):=by kernel_rfl
theorem τ204:E.τ 204 = some ⟨.other,1,8,[.raw .nilFunc]⟩:=by kernel_rfl
theorem k204:tkOf E 204 = some (.other):=by kernel_rfl
theorem τ205:E.τ 205 = some ⟨.other,1,8,[.raw .nilFunc]⟩:=by kernel_rfl
theorem k205:tkOf E 205 = some (.other):=by kernel_rfl
theorem τ206:E.τ 206 = some ⟨.other,1,8,[.raw .nilFunc]⟩:=by kernel_rfl
theorem k206:tkOf E 206 = some (.other):=by kernel_rfl
theorem τ207:E.τ 207 = some ⟨.other,1,8,[.raw .nilFunc]⟩:=by kernel_rfl
theorem k207:tkOf E 207 = some (.other):=by kernel_rfl
theorem τ208:E.τ 208 = some ⟨.other,1,8,[.raw .nilFunc]⟩:=by kernel_rfl
theorem k208:tkOf E 208 = some (.other):=by kernel_rfl
theorem τ209:E.τ 209 = some ⟨.other,1,8,[.raw .nilFunc]⟩:=by kernel_rfl
theorem k209:tkOf E 209 = some (.other):=by kernel_rfl
theorem τ210:E.τ 210 = some ⟨.struct [(0,65),(6,65),(12,2)],13,104,[.int .i64 0,.int .i64 0,.int .i64 0,.int .i64 0,.int .i64 0,.int .i64 0,.int .i64 0,.int .i64 0,.int .i64 0,.int .i64 0,.int .i64 0,.int .i64 0,.int .i64 0]⟩:=by kernel_rfl
theorem k210:tkOf E 210 = some (.struct [(0,65),(6,65),(12,2)]):=by kernel_rfl
theorem τ211:E.τ 211 = some ⟨.struct [(0,65),(6,65),(12,2)],13,104,[.int .i64 0,.int .i64 0,.int .i64 0,.int .i64 0,.int .i64 0,.int .i64 0,.int .i64 0,.int .i64 0,.int .i64 0,.int .i64 0,.int .i64 0,.int .i64 0,.int .i64 0]⟩:=by kernel_rfl
theorem k211:tkOf E 211 = some (.struct [(0,65),(6,65),(12,2)]):=by kernel_rfl
theorem τ212:E.τ 212 = some ⟨.other,1,8,[.raw .nilFunc]⟩:=by kernel_rfl
theorem k212:tkOf E 212 = some (.other):=by kernel_rfl
theorem τ213:E.τ 213 = some ⟨.other,1,8,[.raw .nilFunc]⟩:=by kernel_rfl
theorem k213:tkOf E 213 = some (.other):=by kernel_rfl
theorem τ214:E.τ 214 = some ⟨.other,1,8,[.raw .nilFunc]⟩:=by kernel_rfl
theorem k214:tkOf E 214 = some (.other):=by kernel_rfl
theorem τ215:E.τ 215 = some ⟨.other,1,8,[.raw .nilFunc]⟩:=by kernel_rfl
theorem k215:tkOf E 215 = some (.other):=by kernel_rfl
theorem τ216:E.τ 216 = some ⟨.other,1,8,[.raw .nilFunc]⟩:=by kernel_rfl
theorem k216:tkOf E 216 = some (.other):=by kernel_rfl
theorem τ217:E.τ 217 = some ⟨.slice 4,1,24,[.sl []]⟩:=by kernel_rfl
theorem k217:tkOf E 217 = some (.slice 4):=by kernel_rfl
theorem τ218:E.τ 218 = some ⟨.other,1,8,[.raw .nilFunc]⟩:=by kernel_rfl
theorem k218:tkOf E 218 = some (.other):=by kernel_rfl
theorem τ219:E.τ 219 = some ⟨.other,1,8,[.raw .nilFunc]⟩:=by kernel_rfl
theorem k219:tkOf E 219 = some (.other):=by kernel_rfl
theorem τ220:E.τ 220 = some ⟨.struct [(0,2),(1,2)],2,16,[.int .i64 0,.int .i64 0]⟩:=by kernel_rfl
theorem k220:tkOf E 220 = some (.struct [(0,2),(1,2)]):=by kernel_rfl
theorem τ221:E.τ 221 = some ⟨.struct [(0,2),(1,2)],2,16,[.int .i64 0,.int .i64 0]⟩:=by kernel_rfl
theorem k221:tkOf E 221 = some (.struct [(0,2),(1,2)]):=by kernel_rfl
theorem τ222:E.τ 222 = some ⟨.other,1,8,[.raw .nilFunc]⟩:=by kernel_rfl
theorem k222:tkOf E 222 = some (.other):=by kernel_rfl
theorem τ223:E.τ 223 = some ⟨.other,1,8,[.raw .nilFunc]⟩:=by kernel_rfl
theorem k223:tkOf E 223 = some (.other):=by kernel_rfl
theorem τ224:E.τ 224 = some ⟨.other,1,8,[.raw .nilFunc]⟩:=by kernel_rfl
theorem k224:tkOf E 224 = some (.other):=by kernel_rfl
theorem τ225:E.τ 225 = some ⟨.slice 95,1,24,[.sl []]⟩:=by kernel_rfl
theorem k225:tkOf E 225 = some (.slice 95):=by kernel_rfl
theorem τ226:E.τ 226 = some ⟨.other,1,8,[.raw .nilFunc]⟩:=by kernel_rfl
theorem k226:tkOf E 226 = some (.other):=by kernel_rfl
theorem τ227:E.τ 227 = some ⟨.other,1,8,[.raw .nilFunc]⟩:=by kernel_rfl
theorem k227:tkOf E 227 = some (.other):=by kernel_rfl
theorem τ228:E.τ 228 = some ⟨.other,1,8,[.raw .nilFunc]⟩:=by kernel_rfl
theorem k228:tkOf E 228 = some (.other):=by kernel_rfl
theorem τ229:E.τ 229 = some ⟨.slice 234,1,24,[.sl []]⟩:=by kernel_rfl
theorem k229:tkOf E 229 = some (.slice 234):=by kernel_rfl
theorem τ230:E.τ 230 = some ⟨.other,1,0,[]⟩:=by kernel_rfl
theorem k230:tkOf E 230 = some (.other):=by kernel_rfl
theorem τ231:E.τ 231 = some ⟨.other,1,8,[.raw .nilFunc]⟩:=by kernel_rfl
theorem k231:tkOf E 231 = some (.other):=by kernel_rfl
theorem τ232:E.τ 232 = some ⟨.slice 236,1,24,[.sl []]⟩:=by kernel_rfl
theorem k232:tkOf E 232 = some (.slice 236):=by kernel_rfl
theorem τ233:E.τ 233 = some ⟨.struct [(0,232),(1,29)],2,48,[.sl [],.sl []]⟩:=by kernel_rfl
theorem k233:tkOf E 233 = some (.struct [(0,232),(1,29)]):=by kernel_rfl
theorem τ234:E.τ 234 = some ⟨.struct [(0,232),(1,29)],2,48,[.sl [],.sl []]⟩:=by kernel_rfl
theorem k234:tkOf E 234 = some (.struct [(0,232),(1,29)]):=by kernel_rfl
theorem τ235:E.τ 235 = some ⟨.struct [(0,2),(1,2)],2,16,[.int .i64 0,.int .i64 0]⟩:=by kernel_rfl
theorem k235:tkOf E 235 = some (.struct [(0,2),(1,2)]):=by kernel_rfl
theorem τ236:E.τ 236 = some ⟨.struct [(0,2),(1,2)],2,16,[.int .i64 0,.int .i64 0]⟩:=by kernel_rfl
theorem k236:tkOf E 236 = some (.struct [(0,2),(1,2)]):=by kernel_rfl
theorem τ237:E.τ 237 = some ⟨.struct [(0,2),(1,2),(2,65),(8,65),(14,2)],15,120,[.int .i64 0,.int .i64 0,.int .i64 0,.int .i64 0,.int .i64 0,.int .i64 0,.int .i64 0,.int .i64 0,.int .i64 0,.int .i64 0,.int .i64 0,.int .i64 0,.int .i64 0,.int .i64 0,.int .i64 0]⟩:=by kernel_rfl
theorem k237:tkOf E 237 = some (.struct [(0,2),(1,2),(2,65),(8,65),(14,2)]):=by kernel_rfl
theorem τ238:E.τ 238 = some ⟨.struct [(0,2),(1,2),(2,65),(8,65),(14,2)],15,120,[.int .i64 0,.int .i64 0,.int .i64 0,.int .i64 0,.int .i64 0,.int .i64 0,.int .i64 0,.int .i64 0,.int .i64 0,.int .i64 0,.int .i64 0,.int .i64 0,.int .i64 0,.int .i64 0,.int .i64 0]⟩:=by kernel_rfl
theorem k238:tkOf E 238 = some (.struct [(0,2),(1,2),(2,65),(8,65),(14,2)]):=by kernel_rfl
theorem τ239:E.τ 239 = some ⟨.other,1,8,[.raw .nilFunc]⟩:=by kernel_rfl
theorem k239:tkOf E 239 = some (.other):=by kernel_rfl
theorem τ240:E.τ 240 = some ⟨.other,1,8,[.raw .nilFunc]⟩:=by kernel_rfl
theorem k240:tkOf E 240 = some (.other):=by kernel_rfl
theorem τ241:E.τ 241 = some ⟨.other,1,8,[.raw .nilFunc]⟩:=by kernel_rfl
theorem k241:tkOf E 241 = some (.other):=by kernel_rfl
theorem τ242:E.τ 242 = some ⟨.slice 246,1,24,[.sl []]⟩:=by kernel_rfl
theorem k242:tkOf E 242 = some (.slice 246):=by kernel_rfl
theorem τ243:E.τ 243 = some ⟨.other,1,8,[.raw .nilFunc]⟩:=by kernel_rfl
theorem k243:tkOf E 243 = some (.other):=by kernel_rfl
theorem τ244:E.τ 244 = some ⟨.other,1,8,[.raw .nilFunc]⟩:=by kernel_rfl
theorem k244:tkOf E 244 = some (.other):=by kernel_rfl
theorem τ245:E.τ 245 = some ⟨.struct [(0,2),(1,2),(2,2)],3,24,[.int .i64 0,.int .i64 0,.int .i64 0]⟩:=by kernel_rfl
theorem k245:tkOf E 245 = some (.struct [(0,2),(1,2),(2,2)]):=by kernel_rfl
theorem τ246:E.τ 246 = some ⟨.struct [(0,2),(1,2),(2,2)],3,24,[.int .i64 0,.int .i64 0,.int .i64 0]⟩:=by kernel_rfl
theorem k246:tkOf E 246 = some (.struct [(0,2),(1,2),(2,2)]):=by kernel_rfl
theorem τ247:E.τ 247 = some ⟨.other,1,8,[.raw .nilFunc]⟩:=by kernel_rfl
theorem k247:tkOf E 247 = some (.other):=by kernel_rfl
theorem τ248:E.τ 248 = some ⟨.other,1,8,[.raw .nilFunc]⟩:=by kernel_rfl
theorem k248:tkOf E 248 = some (.other):=by kernel_rfl
theorem τ249:E.τ 249 = some ⟨.other,1,8,[.raw .nilFunc]⟩:=by kernel_rfl
theorem k249:tkOf E 249 = some (.other):=by kernel_rfl
theorem τ250:E.τ 250 = some ⟨.other,1,8,[.raw .nilFunc]⟩:=by kernel_rfl
theorem k250:tkOf E 250 = some (.other):=by kernel_rfl
theorem τ251:E.τ 251 = some ⟨.other,1,8,[.raw .nilFunc]⟩:=by kernel_rfl
theorem k251:tkOf E 251 = some (.other):=by kernel_rfl
theorem τ252:E.τ 252 = some ⟨.other,1,8,[.raw .nilFunc]⟩:=by kernel_rfl
theorem k252:tkOf E 252 = some (.other):=by kernel_rfl
theorem τ253:E.τ 253 = some ⟨.other,1,8,[.raw .nilFunc]⟩:=by kernel_rfl
theorem k253:tkOf E 253 = some (.other):=by kernel_rfl
theorem τ254:E.τ 254 = some ⟨.other,1,8,[.raw .nilFunc]⟩:=by kernel_rfl
theorem k254:tkOf E 254 = some (.other):=by kernel_rfl
theorem τ255:E.τ 255 = some ⟨.other,1,8,[.raw .nilFunc]⟩:=by kernel_rfl
theorem k255:tkOf E 255 = some (.other):=by kernel_rfl
theorem τ256:E.τ 256 = some ⟨.other,1,0,[]⟩:=by kernel_rfl
theorem k256:tkOf E 256 = some (.other):=by kernel_rfl
theorem τ257:E.τ 257 = some ⟨.other,1,8,[.raw .nilFunc]⟩:=by kernel_rfl
theorem k257:tkOf E 257 = some (.other):=by kernel_rfl
theorem τ258:E.τ 258 = some ⟨.other,1,0,[]⟩:=by kernel_rfl
theorem k258:tkOf E 258 = some (.other):=by kernel_rfl
theorem τ259:E.τ 259 = some ⟨.other,1,8,[.raw .nilFunc]⟩:=by kernel_rfl
theorem k259:tkOf E 259 = some (.other):=by kernel_rfl
theorem τ260:E.τ 260 = some ⟨.map 2 27,1,8,[.raw (.map none)]⟩:=by kernel_rfl
theorem k260:tkOf E 260 = some (.map 2 27):=by kernel_rfl
theorem τ261:E.τ 261 = some ⟨.other,1,8,[.raw .nilFunc]⟩:=by kernel_rfl
theorem k261:tkOf E 261 = some (.other):=by kernel_rfl
theorem τ262:E.τ 262 = some ⟨.other,1,8,[.raw .nilFunc]⟩:=by kernel_rfl
theorem k262:tkOf E 262 = some (.other):=by kernel_rfl
theorem τ263:E.τ 263 = some ⟨.other,1,8,[.raw .nilFunc]⟩:=by kernel_rfl
theorem k263:tkOf E 263 = some (.other):=by kernel_rfl
theorem τ264:E.τ 264 = some ⟨.slice 5,1,24,[.sl []]⟩:=by kernel_rfl
theorem k264:tkOf E 264 = some (.slice 5):=by kernel_rfl
theorem τ265:E.τ 265 = some ⟨.other,1,8,[.raw .nilFunc]⟩:=by kernel_rfl
theorem k265:tkOf E 265 = some (.other):=by kernel_rfl
theorem τ266:E.τ 266 = some ⟨.ptr 268,1,8,[.raw (.pointer none)]⟩:=by kernel_rfl
theorem k266:tkOf E 266 = some (.ptr 268):=by kernel_rfl
theorem τ267:E.τ 267 = some ⟨.struct [(0,266),(1,264)],2,32,[.raw (.pointer none),.sl []]⟩:=by kernel_rfl
theorem k267:tkOf E 267 = some (.struct [(0,266),(1,264)]):=by kernel_rfl
theorem τ268:E.τ 268 = some ⟨.struct [(0,266),(1,264)],2,32,[.raw (.pointer none),.sl []]⟩:=by kernel_rfl
theorem k268:tkOf E 268 = some (.struct [(0,266),(1,264)]):=by kernel_rfl
theorem τ269:E.τ 269 = some ⟨.other,1,8,[.raw .nilFunc]⟩:=by kernel_rfl
theorem k269:tkOf E 269 = some (.other):=by kernel_rfl
theorem τ270:E.τ 270 = some ⟨.other,1,16,[.raw .nilIface]⟩:=by kernel_rfl
theorem k270:tkOf E 270 = some (.other):=by kernel_rfl
theorem τ271:E.τ 271 = some ⟨.other,1,16,[.raw .nilIface]⟩:=by kernel_rfl
theorem k271:tkOf E 271 = some (.other):=by kernel_rfl
theorem τ272:E.τ 272 = some ⟨.other,1,0,[]⟩:=by kernel_rfl
theorem k272:tkOf E 272 = some (.other):=by kernel_rfl
theorem τ273:E.τ 273 = some ⟨.other,1,8,[.raw .nilFunc]⟩:=by kernel_rfl
theorem k273:tkOf E 273 = some (.other):=by kernel_rfl
theorem τ274:E.τ 274 = some ⟨.other,1,8,[.raw .nilFunc]⟩:=by kernel_rfl
theorem k274:tkOf E 274 = some (.other):=by kernel_rfl
theorem τ275:E.τ 275 = some ⟨.other,1,8,[.raw .nilFunc]⟩:=by kernel_rfl
theorem k275:tkOf E 275 = some (.other):=by kernel_rfl
theorem τ276:E.τ 276 = some ⟨.other,1,8,[.raw .nilFunc]⟩:=by kernel_rfl
theorem k276:tkOf E 276 = some (.other):=by kernel_rfl
theorem τ277:E.τ 277 = some ⟨.other,1,8,[.raw .nilFunc]⟩:=by kernel_rfl
theorem k277:tkOf E 277 = some (.other):=by kernel_rfl
theorem τ278:E.τ 278 = some ⟨.other,1,8,[.raw .nilFunc]⟩:=by kernel_rfl
theorem k278:tkOf E 278 = some (.other):=by kernel_rfl
theorem τ279:E.τ 279 = some ⟨.other,1,8,[.raw .nilFunc]⟩:=by kernel_rfl
theorem k279:tkOf E 279 = some (.other):=by kernel_rfl
theorem τ280:E.τ 280 = some ⟨.other,1,8,[.raw .nilFunc]⟩:=by kernel_rfl
theorem k280:tkOf E 280 = some (.other):=by kernel_rfl
theorem τ281:E.τ 281 = some ⟨.other,1,8,[.raw .nilFunc]⟩:=by kernel_rfl
theorem k281:tkOf E 281 = some (.other):=by kernel_rfl
theorem τ282:E.τ 282 = some ⟨.other,1,8,[.raw .nilFunc]⟩:=by kernel_rfl
theorem k282:tkOf E 282 = some (.other):=by kernel_rfl
theorem τ283:E.τ 283 = some ⟨.other,1,8,[.raw .nilFunc]⟩:=by kernel_rfl
theorem k283:tkOf E 283 = some (.other):=by kernel_rfl
theorem τ284:E.τ 284 = some ⟨.other,1,8,[.raw .nilFunc]⟩:=by kernel_rfl
theorem k284:tkOf E 284 = some (.other):=by kernel_rfl
theorem τ285:E.τ 285 = some ⟨.int .i64,1,8,[.int .i64 0]⟩:=by kernel_rfl
theorem k285:tkOf E 285 = some (.int .i64):=by kernel_rfl
theorem τ286:E.τ 286 = some ⟨.other,1,0,[]⟩:=by kernel_rfl
theorem k286:tkOf E 286 = some (.other):=by kernel_rfl
theorem τ287:E.τ 287 = some ⟨.other,1,8,[.raw .nilFunc]⟩:=by kernel_rfl
theorem k287:tkOf E 287 = some (.other):=by kernel_rfl
theorem τ288:E.τ 288 = some ⟨.other,1,8,[.raw .nilFunc]⟩:=by kernel_rfl
theorem k288:tkOf E 288 = some (.other):=by kernel_rfl
theorem τ289:E.τ 289 = some ⟨.other,1,8,[.raw .nilFunc]⟩:=by kernel_rfl
theorem k289:tkOf E 289 = some (.other):=by kernel_rfl
theorem τ290:E.τ 290 = some ⟨.other,1,0,[]⟩:=by kernel_rfl
theorem k290:tkOf E 290 = some (.other):=by kernel_rfl
theorem τ291:E.τ 291 = some ⟨.other,1,8,[.raw .nilFunc]⟩:=by kernel_rfl
theorem k291:tkOf E 291 = some (.other):=by kernel_rfl
theorem τ292:E.τ 292 = some ⟨.other,1,8,[.raw .nilFunc]⟩:=by kernel_rfl
theorem k292:tkOf E 292 = some (.other):=by kernel_rfl
theorem τ293:E.τ 293 = some ⟨.int .u32,1,4,[.int .u32 0]⟩:=by kernel_rfl
theorem k293:tkOf E 293 = some (.int .u32):=by kernel_rfl
theorem τ294:E.τ 294 = some ⟨.other,1,8,[.raw .nilFunc]⟩:=by kernel_rfl
theorem k294:tkOf E 294 = some (.other):=by kernel_rfl
theorem τ295:E.τ 295 = some ⟨.int .u64,1,8,[.int .u64 0]⟩:=by kernel_rfl
theorem k295:tkOf E 295 = some (.int .u64):=by kernel_rfl
theorem τ296:E.τ 296 = some ⟨.other,1,0,[]⟩:=by kernel_rfl
theorem k296:tkOf E 296 = some (.other):=by kernel_rfl
theorem τ297:E.τ 297 = some ⟨.other,1,8,[.raw .nilFunc]⟩:=by kernel_rfl
theorem k297:tkOf E 297 = some (.other):=by kernel_rfl
theorem τ298:E.τ 298 = some ⟨.other,1,8,[.raw .nilFunc]⟩:=by kernel_rfl
theorem k298:tkOf E 298 = some (.other):=by kernel_rfl
theorem τ299:E.τ 299 = some ⟨.other,1,8,[.raw .nilFunc]⟩:=by kernel_rfl
theorem k299:tkOf E 299 = some (.other):=by kernel_rfl
theorem τ300:E.τ 300 = some ⟨.slice 3,1,24,[.sl []]⟩:=by kernel_rfl
theorem k300:tkOf E 300 = some (.slice 3):=by kernel_rfl
theorem τ301:E.τ 301 = some ⟨.other,1,8,[.raw .nilFunc]⟩:=by kernel_rfl
theorem k301:tkOf E 301 = some (.other):=by kernel_rfl
theorem τ302:E.τ 302 = some ⟨.other,1,8,[.raw .nilFunc]⟩:=by kernel_rfl
theorem k302:tkOf E 302 = some (.other):=by kernel_rfl
theorem τ303:E.τ 303 = some ⟨.other,1,8,[.raw .nilFunc]⟩:=by kernel_rfl
theorem k303:tkOf E 303 = some (.other):=by kernel_rfl
theorem τ304:E.τ 304 = some ⟨.map 236 4,1,8,[.raw (.map none)]⟩:=by kernel_rfl
theorem k304:tkOf E 304 = some (.map 236 4):=by kernel_rfl
theorem τ305:E.τ 305 = some ⟨.other,1,8,[.raw .nilFunc]⟩:=by kernel_rfl
theorem k305:tkOf E 305 = some (.other):=by kernel_rfl
theorem τ306:E.τ 306 = some ⟨.other,1,8,[.raw .nilFunc]⟩:=by kernel_rfl
theorem k306:tkOf E 306 = some (.other):=by kernel_rfl
theorem τ307:E.τ 307 = some ⟨.other,1,8,[.raw .nilFunc]⟩:=by kernel_rfl
theorem k307:tkOf E 307 = some (.other):=by kernel_rfl
theorem τ308:E.τ 308 = some ⟨.other,1,8,[.raw .nilFunc]⟩:=by kernel_rfl
theorem k308:tkOf E 308 = some (.other):=by kernel_rfl
theorem τ309:E.τ 309 = some ⟨.other,1,8,[.raw .nilFunc]⟩:=by kernel_rfl
theorem k309:tkOf E 309 = some (.other):=by kernel_rfl
theorem τ310:E.τ 310 = some ⟨.other,1,8,[.raw .nilFunc]⟩:=by kernel_rfl
theorem k310:tkOf E 310 = some (.other):=by kernel_rfl
theorem τ311:E.τ 311 = some ⟨.other,1,8,[.raw .nilFunc]⟩:=by kernel_rfl
theorem k311:tkOf E 311 = some (.other):=by kernel_rfl
theorem τ312:E.τ 312 = some ⟨.other,1,8,[.raw .nilFunc]⟩:=by kernel_rfl
theorem k312:tkOf E 312 = some (.other):=by kernel_rfl
theorem τ313:E.τ 313 = some ⟨.other,1,8,[.raw .nilFunc]⟩:=by kernel_rfl
theorem k313:tkOf E 313 = some (.other):=by kernel_rfl
theorem τ314:E.τ 314 = some ⟨.other,1,8,[.raw .nilFunc]⟩:=by kernel_rfl
theorem k314:tkOf E 314 = some (.other):=by kernel_rfl
theorem τ315:E.τ 315 = some ⟨.slice 90,1,24,[.sl []]⟩:=by kernel_rfl
theorem k315:tkOf E 315 = some (.slice 90):=by kernel_rfl
theorem τ316:E.τ 316 = some ⟨.other,1,8,[.raw .nilFunc]⟩:=by kernel_rfl
theorem k316:tkOf E 316 = some (.other):=by kernel_rfl
theorem τ317:E.τ 317 = some ⟨.other,1,8,[.raw .nilFunc]⟩:=by kernel_rfl
theorem k317:tkOf E 317 = some (.other):=by kernel_rfl
theorem τ318:E.τ 318 = some ⟨.other,1,8,[.raw .nilFunc]⟩:=by kernel_rfl
theorem k318:tkOf E 318 = some (.other):=by kernel_rfl
theorem τ319:E.τ 319 = some ⟨.other,1,8,[.raw .nilFunc]⟩:=by kernel_rfl
theorem k319:tkOf E 319 = some (.other):=by kernel_rfl
theorem τ320:E.τ 320 = some ⟨.other,1,8,[.raw .nilFunc]⟩:=by kernel_rfl
theorem k320:tkOf E 320 = some (.other):=by kernel_rfl
theorem τ321:E.τ 321 = some ⟨.other,1,0,[]⟩:=by kernel_rfl
theorem k321:tkOf E 321 = some (.other):=by kernel_rfl
theorem τ322:E.τ 322 = some ⟨.other,1,8,[.raw .nilFunc]⟩:=by kernel_rfl
theorem k322:tkOf E 322 = some (.other):=by kernel_rfl
theorem τ323:E.τ 323 = some ⟨.arr 8 65,48,384,[.int .i64 0,.int .i64 0,.int .i64 0,.int .i64 0,.int .i64 0,.int .i64 0,.int .i64 0,.int .i64 0,.int .i64 0,.int .i64 0,.int .i64 0,.int .i64 0,.int .i64 0,.int .i64 0,.int .i64 0,.int .i64 0,.int .i64 0,.int .i64 0,.int .i64 0,.int .i64 0,.int .i64 0,.int .i64 0,.int .i64 0,.int .i64 0,.int .i64 0,.int .i64 0,.int .i64 0,.int .i64 0,.int .i64 0,.int .i64 0,.int .i64 0,.int .i64 0,.int .i64 0,.int .i64 0,.int .i64 0,.int .i64 0,.int .i64 0,.int .i64 0,.int .i64 0,.int .i64 0,.int .i64 0,.int .i64 0,.int .i64 0,.int .i64 0,.int .i64 0,.int .i64 0,.int .i64 0,.int .i64 0]⟩:=by kernel_rfl
theorem k323:tkOf E 323 = some (.arr 8 65):=by kernel_rfl
theorem τ324:E.τ 324 = some ⟨.other,1,8,[.raw .nilFunc]⟩:=by kernel_rfl
theorem k324:tkOf E 324 = some (.other):=by kernel_rfl
theorem τ325:E.τ 325 = some ⟨.other,1,8,[.raw .nilFunc]⟩:=by kernel_rfl
theorem k325:tkOf E 325 = some (.other):=by kernel_rfl
theorem τ326:E.τ 326 = some ⟨.ptr 5,1,8,[.raw (.pointer none)]⟩:=by kernel_rfl
theorem k326:tkOf E 326 = some (.ptr 5):=by kernel_rfl
theorem τ327:E.τ 327 = some ⟨.other,1,8,[.raw .nilFunc]⟩:=by kernel_rfl
theorem k327:tkOf E 327 = some (.other):=by kernel_rfl
theorem τ328:E.τ 328 = some ⟨.other,1,8,[.raw .nilFunc]⟩:=by kernel_rfl
theorem k328:tkOf E 328 = some (.other):=by kernel_rfl
theorem τ329:E.τ 329 = some ⟨.other,1,8,[.raw .nilFunc]⟩:=by kernel_rfl
theorem k329:tkOf E 329 = some (.other):=by kernel_rfl
theorem τ330:E.τ 330 = some ⟨.other,1,8,[.raw .nilFunc]⟩:=by kernel_rfl
theorem k330:tkOf E 330 = some (.other):=by kernel_rfl
theorem τ331:E.τ 331 = some ⟨.other,1,8,[.raw .nilFunc]⟩:=by kernel_rfl
theorem k331:tkOf E 331 = some (.other):=by kernel_rfl
theorem τ332:E.τ 332 = some ⟨.other,1,0,[]⟩:=by kernel_rfl
theorem k332:tkOf E 332 = some (.other):=by kernel_rfl
theorem τ333:E.τ 333 = some ⟨.other,1,8,[.raw .nilFunc]⟩:=by kernel_rfl
theorem k333:tkOf E 333 = some (.other):=by kernel_rfl
theorem τ334:E.τ 334 = some ⟨.other,1,8,[.raw .nilFunc]⟩:=by kernel_rfl
theorem k334:tkOf E 334 = some (.other):=by kernel_rfl
theorem τ335:E.τ 335 = some ⟨.int .u64,1,8,[.int .u64 0]⟩:=by kernel_rfl
theorem k335:tkOf E 335 = some (.int .u64):=by kernel_rfl
theorem τ336:E.τ 336 = some ⟨.other,1,8,[.raw .nilFunc]⟩:=by kernel_rfl
theorem k336:tkOf E 336 = some (.other):=by kernel_rfl
theorem τ337:E.τ 337 = some ⟨.other,1,8,[.raw .nilFunc]⟩:=by kernel_rfl
theorem k337:tkOf E 337 = some (.other):=by kernel_rfl
theorem τ338:E.τ 338 = some ⟨.other,1,8,[.raw .nilFunc]⟩:=by kernel_rfl
theorem k338:tkOf E 338 = some (.other):=by kernel_rfl
theorem τ339:E.τ 339 = some ⟨.ptr 3,1,8,[.raw (.pointer none)]⟩:=by kernel_rfl
theorem k339:tkOf E 339 = some (.ptr 3):=by kernel_rfl
theorem τ340:E.τ 340 = some ⟨.other,1,8,[.raw .nilFunc]⟩:=by kernel_rfl
theorem k340:tkOf E 340 = some (.other):=by kernel_rfl
theorem τ341:E.τ 341 = some ⟨.slice 27,1,24,[.sl []]⟩:=by kernel_rfl
theorem k341:tkOf E 341 = some (.slice 27):=by kernel_rfl
theorem τ342:E.τ 342 = some ⟨.other,1,8,[.raw .nilFunc]⟩:=by kernel_rfl
theorem k342:tkOf E 342 = some (.other):=by kernel_rfl
theorem τ343:E.τ 343 = some ⟨.other,1,8,[.raw .nilFunc]⟩:=by kernel_rfl
theorem k343:tkOf E 343 = some (.other):=by kernel_rfl
theorem τ344:E.τ 344 = some ⟨.other,1,8,[.raw .nilFunc]⟩:=by kernel_rfl
theorem k344:tkOf E 344 = some (.other):=by kernel_rfl
theorem τ345:E.τ 345 = some ⟨.other,1,8,[.raw .nilFunc]⟩:=by kernel_rfl
theorem k345:tkOf E 345 = some (.other):=by kernel_rfl
theorem τ346:E.τ 346 = some ⟨.other,1,8,[.raw .nilFunc]⟩:=by kernel_rfl
theorem k346:tkOf E 346 = some (.other):=by kernel_rfl
theorem τ347:E.τ 347 = some ⟨.other,1,8,[.raw .nilFunc]⟩:=by kernel_rfl
theorem k347:tkOf E 347 = some (.other):=by kernel_rfl
theorem τ348:E.τ 348 = some ⟨.other,1,8,[.raw .nilFunc]⟩:=by kernel_rfl
theorem k348:tkOf E 348 = some (.other):=by kernel_rfl
theorem τ349:E.τ 349 = some ⟨.other,1,8,[.raw .nilFunc]⟩:=by kernel_rfl
theorem k349:tkOf E 349 = some (.other):=by kernel_rfl
theorem τ350:E.τ 350 = some ⟨.other,1,8,[.raw .nilFunc]⟩:=by kernel_rfl
theorem k350:tkOf E 350 = some (.other):=by kernel_rfl
theorem τ351:E.τ 351 = some ⟨.other,1,8,[.raw .nilFunc]⟩:=by kernel_rfl
theorem k351:tkOf E 351 = some (.other):=by kernel_rfl
theorem τ352:E.τ 352 = some ⟨.other,1,8,[.raw .nilFunc]⟩:=by kernel_rfl
theorem k352:tkOf E 352 = some (.other):=by kernel_rfl
theorem τ353:E.τ 353 = some ⟨.other,1,8,[.raw .nilFunc]⟩:=by kernel_rfl
theorem k353:tkOf E 353 = some (.other):=by kernel_rfl
theorem τ354:E.τ 354 = some ⟨.other,1,8,[.raw .nilFunc]⟩:=by kernel_rfl
theorem k354:tkOf E 354 = some (.other):=by kernel_rfl
theorem τ355:E.τ 355 = some ⟨.arr 24 5,24,24,[.int .u8 0,.int .u8 0,.int .u8 0,.int .u8 0,.int .u8 0,.int .u8 0,.int .u8 0,.int .u8 0,.int .u8 0,.int .u8 0,.int .u8 0,.int .u8 0,.int .u8 0,.int .u8 0,.int .u8 0,.int .u8 0,.int .u8 0,.int .u8 0,.int .u8 0,.int .u8 0,.int .u8 0,.int .u8 0,.int .u8 0,.int .u8 0]⟩:=by kernel_rfl
theorem k355:tkOf E 355 = some (.arr 24 5):=by kernel_rfl
theorem τ356:E.τ 356 = some ⟨.other,1,8,[.raw .nilFunc]⟩:=by kernel_rfl
theorem k356:tkOf E 356 = some (.other):=by kernel_rfl
theorem τ357:E.τ 357 = some ⟨.other,1,0,[]⟩:=by kernel_rfl
theorem k357:tkOf E 357 = some (.other):=by kernel_rfl
theorem τ358:E.τ 358 = some ⟨.other,1,8,[.raw .nilFunc]⟩:=by kernel_rfl
theorem k358:tkOf E 358 = some (.other):=by kernel_rfl
theorem τ359:E.τ 359 = some ⟨.other,1,8,[.raw (.pointer none)]⟩:=by kernel_rfl
theorem k359:tkOf E 359 = some (.other):=by kernel_rfl
theorem τ360:E.τ 360 = some ⟨.other,1,8,[.raw .nilFunc]⟩:=by kernel_rfl
theorem k360:tkOf E 360 = some (.other):=by kernel_rfl
theorem τ361:E.τ 361 = some ⟨.other,1,8,[.raw .nilFunc]⟩:=by kernel_rfl
theorem k361:tkOf E 361 = some (.other):=by kernel_rfl
theorem τ362:E.τ 362 = some ⟨.other,1,8,[.raw .nilFunc]⟩:=by kernel_rfl
theorem k362:tkOf E 362 = some (.other):=by kernel_rfl
theorem τ363:E.τ 363 = some ⟨.other,1,8,[.raw .nilFunc]⟩:=by kernel_rfl
theorem k363:tkOf E 363 = some (.other):=by kernel_rfl
theorem τ364:E.τ 364 = some ⟨.ptr 335,1,8,[.raw (.pointer none)]⟩:=by kernel_rfl
theorem k364:tkOf E 364 = some (.ptr 335):=by kernel_rfl
theorem τ365:E.τ 365 = some ⟨.other,1,0,[]⟩:=by kernel_rfl
theorem k365:tkOf E 365 = some (.other):=by kernel_rfl
theorem τ366:E.τ 366 = some ⟨.other,1,8,[.raw .nilFunc]⟩:=by kernel_rfl
theorem k366:tkOf E 366 = some (.other):=by kernel_rfl
theorem τ367:E.τ 367 = some ⟨.other,1,8,[.raw .nilFunc]⟩:=by kernel_rfl
theorem k367:tkOf E 367 = some (.other):=by kernel_rfl
theorem τ368:E.τ 368 = some ⟨.other,1,8,[.raw .nilFunc]⟩:=by kernel_rfl
theorem k368:tkOf E 368 = some (.other):=by kernel_rfl
theorem τ369:E.τ 369 = some ⟨.other,1,8,[.raw .nilFunc]⟩:=by kernel_rfl
theorem k369:tkOf E 369 = some (.other):=by kernel_rfl
theorem τ370:E.τ 370 = some ⟨.other,1,8,[.raw .nilFunc]⟩:=by kernel_rfl
theorem k370:tkOf E 370 = some (.other):=by kernel_rfl
theorem τ371:E.τ 371 = some ⟨.other,1,8,[.raw .nilFunc]⟩:=by kernel_rfl
theorem k371:tkOf E 371 = some (.other):=by kernel_rfl
theorem τ372:E.τ 372 = some ⟨.other,1,8,[.raw .nilFunc]⟩:=by kernel_rfl
theorem k372:tkOf E 372 = some (.other):=by kernel_rfl
theorem τ373:E.τ 373 = some ⟨.other,1,8,[.raw .nilFunc]⟩:=by kernel_rfl
theorem k373:tkOf E 373 = some (.other):=by kernel_rfl
theorem τ374:E.τ 374 = some ⟨.other,1,8,[.raw .nilFunc]⟩:=by kernel_rfl
theorem k374:tkOf E 374 = some (.other):=by kernel_rfl
theorem τ375:E.τ 375 = some ⟨.other,1,8,[.raw .nilFunc]⟩:=by kernel_rfl
theorem k375:tkOf E 375 = some (.other):=by kernel_rfl
theorem τ376:E.τ 376 = some ⟨.other,1,8,[.raw .nilFunc]⟩:=by kernel_rfl
theorem k376:tkOf E 376 = some (.other):=by kernel_rfl
theorem τ377:E.τ 377 = some ⟨.other,1,8,[.raw .nilFunc]⟩:=by kernel_rfl
theorem k377:tkOf E 377 = some (.other):=by kernel_rfl
theorem τ378:E.τ 378 = some ⟨.other,1,8,[.raw .nilFunc]⟩:=by kernel_rfl
theorem k378:tkOf E 378 = some (.other):=by kernel_rfl
theorem τ379:E.τ 379 = some ⟨.arr 20 295,20,160,[.int .u64 0,.int .u64 0,.int .u64 0,.int .u64 0,.int .u64 0,.int .u64 0,.int .u64 0,.int .u64 0,.int .u64 0,.int .u64 0,.int .u64 0,.int .u64 0,.int .u64 0,.int .u64 0,.int .u64 0,.int .u64 0,.int .u64 0,.int .u64 0,.int .u64 0,.int .u64 0]⟩:=by kernel_rfl
theorem k379:tkOf E 379 = some (.arr 20 295):=by kernel_rfl
theorem τ380:E.τ 380 = some ⟨.arr 65 5,65,65,[]⟩:=by kernel_rfl
theorem k380:tkOf E 380 = some (.arr 65 5):=by kernel_rfl
theorem τ381:E.τ 381 = some ⟨.other,1,8,[.raw .nilFunc]⟩:=by kernel_rfl
theorem k381:tkOf E 381 = some (.other):=by kernel_rfl
theorem τ382:E.τ 382 = some ⟨.other,1,8,[.raw .nilFunc]⟩:=by kernel_rfl
theorem k382:tkOf E 382 = some (.other):=by kernel_rfl
theorem τ383:E.τ 383 = some ⟨.other,1,8,[.raw .nilFunc]⟩:=by kernel_rfl
theorem k383:tkOf E 383 = some (.other):=by kernel_rfl
theorem τ384:E.τ 384 = some ⟨.other,1,8,[.raw .nilFunc]⟩:=by kernel_rfl
theorem k384:tkOf E 384 = some (.other):=by kernel_rfl
theorem τ385:E.τ 385 = some ⟨.other,1,8,[.raw .nilFunc]⟩:=by kernel_rfl
theorem k385:tkOf E 385 = some (.other):=by kernel_rfl
theorem τ386:E.τ 386 = some ⟨.other,1,8,[.raw .nilFunc]⟩:=by kernel_rfl
theorem k386:tkOf E 386 = some (.other):=by kernel_rfl
theorem τ387:E.τ 387 = some ⟨.other,1,8,[.raw .nilFunc]⟩:=by kernel_rfl
theorem k387:tkOf E 387 = some (.other):=by kernel_rfl
theorem τ388:E.τ 388 = some ⟨.other,1,8,[.raw .nilFunc]⟩:=by kernel_rfl
theorem k388:tkOf E 388 = some (.other):=by kernel_rfl
theorem τ389:E.τ 389 = some ⟨.arr 32 5,32,32,[.int .u8 0,.int .u8 0,.int .u8 0,.int .u8 0,.int .u8 0,.int .u8 0,.int .u8 0,.int .u8 0,.int .u8 0,.int .u8 0,.int .u8 0,.int .u8 0,.int .u8 0,.int .u8 0,.int .u8 0,.int .u8 0,.int .u8 0,.int .u8 0,.int .u8 0,.int .u8 0,.int .u8 0,.int .u8 0,.int .u8 0,.int .u8 0,.int .u8 0,.int .u8 0,.int .u8 0,.int .u8 0,.int .u8 0,.int .u8 0,.int .u8 0,.int .u8 0]⟩:=by kernel_rfl
theorem k389:tkOf E 389 = some (.arr 32 5):=by kernel_rfl
theorem τ390:E.τ 390 = some ⟨.arr 64 5,64,64,[.int .u8 0,.int .u8 0,.int .u8 0,.int .u8 0,.int .u8 0,.int .u8 0,.int .u8 0,.int .u8 0,.int .u8 0,.int .u8 0,.int .u8 0,.int .u8 0,.int .u8 0,.int .u8 0,.int .u8 0,.int .u8 0,.int .u8 0,.int .u8 0,.int .u8 0,.int .u8 0,.int .u8 0,.int .u8 0,.int .u8 0,.int .u8 0,.int .u8 0,.int .u8 0,.int .u8 0,.int .u8 0,.int .u8 0,.int .u8 0,.int .u8 0,.int .u8 0,.int .u8 0,.int .u8 0,.int .u8 0,.int .u8 0,.int .u8 0,.int .u8 0,.int .u8 0,.int .u8 0,.int .u8 0,.int .u8 0,.int .u8 0,.int .u8 0,.int .u8 0,.int .u8 0,.int .u8 0,.int .u8 0,.int .u8 0,.int .u8 0,.int .u8 0,.int .u8 0,.int .u8 0,.int .u8 0,.int .u8 0,.int .u8 0,.int .u8 0,.int .u8 0,.int .u8 0,.int .u8 0,.int .u8 0,.int .u8 0,.int .u8 0,.int .u8 0]⟩:=by kernel_rfl
theorem k390:tkOf E 390 = some (.arr 64 5):=by kernel_rfl
theorem τ391:E.τ 391 = some ⟨.struct [(0,17),(1,17),(2,17),(3,9)],4,40,[.raw (.pointer none),.raw (.pointer none),.raw (.pointer none),.str ⟨#[]⟩]⟩:=by kernel_rfl
theorem k391:tkOf E 391 = some (.struct [(0,17),(1,17),(2,17),(3,9)]):=by kernel_rfl
theorem τ392:E.τ 392 = some ⟨.struct [(0,17),(1,17),(2,17),(3,9)],4,40,[.raw (.pointer none),.raw (.pointer none),.raw (.pointer none),.str ⟨#[]⟩]⟩:=by kernel_rfl
theorem k392:tkOf E 392 = some (.struct [(0,17),(1,17),(2,17),(3,9)]):=by kernel_rfl
theorem τ393:E.τ 393 = some ⟨.arr 0 16,0,0,[]⟩:=by kernel_rfl
theorem k393:tkOf E 393 = some (.arr 0 16):=by kernel_rfl
theorem τ394:E.τ 394 = some ⟨.struct [(0,393)],0,0,[]⟩:=by kernel_rfl
theorem k394:tkOf E 394 = some (.struct [(0,393)]):=by kernel_rfl
theorem τ395:E.τ 395 = some ⟨.struct [(0,393)],0,0,[]⟩:=by kernel_rfl
theorem k395:tkOf E 395 = some (.struct [(0,393)]):=by kernel_rfl
theorem τ396:E.τ 396 = some ⟨.other,1,8,[.raw .nilFunc]⟩:=by kernel_rfl
theorem k396:tkOf E 396 = some (.other):=by kernel_rfl
theorem τ397:E.τ 397 = some ⟨.int .u8,1,1,[.int .u8 0]⟩:=by kernel_rfl
theorem k397:tkOf E 397 = some (.int .u8):=by kernel_rfl
theorem τ398:E.τ 398 = some ⟨.int .u8,1,1,[.int .u8 0]⟩:=by kernel_rfl
theorem k398:tkOf E 398 = some (.int .u8):=by kernel_rfl
theorem τ399:E.τ 399 = some ⟨.other,1,8,[.raw .nilFunc]⟩:=by kernel_rfl
theorem k399:tkOf E 399 = some (.other):=by kernel_rfl
theorem τ400:E.τ 400 = some ⟨.int .i32,1,4,[.int .i32 0]⟩:=by kernel_rfl
theorem k400:tkOf E 400 = some (.int .i32):=by kernel_rfl
theorem τ401:E.τ 401 = some ⟨.int .i32,1,4,[.int .i32 0]⟩:=by kernel_rfl
theorem k401:tkOf E 401 = some (.int .i32):=by kernel_rfl
theorem τ402:E.τ 402 = some ⟨.struct [(0,12),(1,12),(2,293),(3,397),(4,5),(5,5),(6,398),(7,399),(8,326),(9,400),(10,401)],11,48,[.int .u64 0,.int .u64 0,.int .u32 0,.int .u8 0,.int .u8 0,.int .u8 0,.int .u8 0,.raw .nilFunc,.raw (.pointer none),.int .i32 0,.int .i32 0]⟩:=by kernel_rfl
theorem k402:tkOf E 402 = some (.struct [(0,12),(1,12),(2,293),(3,397),(4,5),(5,5),(6,398),(7,399),(8,326),(9,400),(10,401)]):=by kernel_rfl
theorem τ403:E.τ 403 = some ⟨.struct [(0,12),(1,12),(2,293),(3,397),(4,5),(5,5),(6,398),(7,399),(8,326),(9,400),(10,401)],11,48,[.int .u64 0,.int .u64 0,.int .u32 0,.int .u8 0,.int .u8 0,.int .u8 0,.int .u8 0,.raw .nilFunc,.raw (.pointer none),.int .i32 0,.int .i32 0]⟩:=by kernel_rfl
theorem k403:tkOf E 403 = some (.struct [(0,12),(1,12),(2,293),(3,397),(4,5),(5,5),(6,398),(7,399),(8,326),(9,400),(10,401)]):=by kernel_rfl
theorem τ404:E.τ 404 = some ⟨.other,1,8,[.raw .nilFunc]⟩:=by kernel_rfl
theorem k404:tkOf E 404 = some (.other):=by kernel_rfl
theorem τ405:E.τ 405 = some ⟨.other,1,8,[.raw .nilFunc]⟩:=by kernel_rfl
theorem k405:tkOf E 405 = some (.other):=by kernel_rfl
theorem e46:cmpB E.P 46 = true:=by kernel_rfl
theorem g46:cmpTop E.P 46 = true:=by kernel_rfl
theorem e48:cmpB E.P 48 = true:=by kernel_rfl
theorem g48:cmpTop E.P 48 = true:=by kernel_rfl
theorem e51:cmpB E.P 51 = true:=by kernel_rfl
theorem g51:cmpTop E.P 51 = true:=by kernel_rfl
theorem e53:cmpB E.P 53 = true:=by kernel_rfl
theorem g53:cmpTop E.P 53 = true:=by kernel_rfl
theorem e61:cmpB E.P 61 = true:=by kernel_rfl
theorem g61:cmpTop E.P 61 = true:=by kernel_rfl
theorem e65:cmpB E.P 65 = true:=by kernel_rfl
theorem g65:cmpTop E.P 65 = true:=by kernel_rfl
theorem e90:cmpB E.P 90 = true:=by kernel_rfl
theorem g90:cmpTop E.P 90 = true:=by kernel_rfl
theorem e92:cmpB E.P 92 = true:=by kernel_rfl
theorem g92:cmpTop E.P 92 = true:=by kernel_rfl
theorem e95:cmpB E.P 95 = true:=by kernel_rfl
theorem g95:cmpTop E.P 95 = true:=by kernel_rfl
theorem e97:cmpB E.P 97 = true:=by kernel_rfl
theorem g97:cmpTop E.P 97 = true:=by kernel_rfl
theorem e100:cmpB E.P 100 = true:=by kernel_rfl
theorem g100:cmpTop E.P 100 = true:=by kernel_rfl
theorem e111:cmpB E.P 111 = true:=by kernel_rfl
theorem g111:cmpTop E.P 111 = true:=by kernel_rfl
theorem e156:cmpB E.P 156 = true:=by kernel_rfl
theorem g156:cmpTop E.P 156 = true:=by kernel_rfl
theorem e211:cmpB E.P 211 = true:=by kernel_rfl
theorem g211:cmpTop E.P 211 = true:=by kernel_rfl
theorem e221:cmpB E.P 221 = true:=by kernel_rfl
theorem g221:cmpTop E.P 221 = true:=by kernel_rfl
theorem e236:cmpB E.P 236 = true:=by kernel_rfl
theorem g236:cmpTop E.P 236 = true:=by kernel_rfl
theorem e238:cmpB E.P 238 = true:=by kernel_rfl
theorem g238:cmpTop E.P 238 = true:=by kernel_rfl
theorem e246:cmpB E.P 246 = true:=by kernel_rfl
theorem g246:cmpTop E.P 246 = true:=by kernel_rfl
attribute [simp] τ0 k0 τ1 k1 τ2 k2 τ3 k3 τ4 k4 τ5 k5 τ6 k6 τ7 k7 τ8 k8 τ9 k9 τ10 k10 τ11 k11 τ12 k12 τ13 k13 τ14 k14 τ15 k15 τ16 k16 τ17 k17 τ18 k18 τ19 k19 τ20 k20 τ21 k21 τ22 k22 τ23 k23 τ24 k24 τ25 k25 τ26 k26 τ27 k27 τ28 k28 τ29 k29 τ30 k30 τ31 k31 τ32 k32 τ33 k33 τ34 k34 τ35 k35 τ36 k36 τ37 k37 τ38 k38 τ39 k39 τ40 k40 τ41 k41 τ42 k42 τ43 k43 τ44 k44 τ45 k45 τ46 k46 τ47 k47 τ48 k48 τ49 k49 τ50 k50 τ51 k51 τ52 k52 τ53 k53 τ54 k54 τ55 k55 τ56 k56 τ57 k57 τ58 k58 τ59 k59 τ60 k60 τ61 k61 τ62 k62 τ63 k63 τ64 k64 τ65 k65 τ66 k66 τ67 k67 τ68 k68 τ69 k69 τ70 k70 τ71 k71 τ72 k72 τ73 k73 τ74 k74 τ75 k75 τ76 k76 τ77 k77 τ78 k78 τ79 k79 τ80 k80 τ81 k81 τ82 k82 τ83 k83 τ84 k84 τ85 k85 τ86 k86 τ87 k87 τ88 k88 τ89 k89 τ90 k90 τ91 k91 τ92 k92 τ93 k93 τ94 k94 τ95 k95 τ96 k96 τ97 k97 τ98 k98 τ99 k99 τ100 k100 τ101 k101 τ102 k102 τ103 k103 τ104 k104 τ105 k105 τ106 k106 τ107 k107 τ108 k108 τ109 k109 τ110 k110 τ111 k111 τ112 k112 τ113 k113 τ114 k114 τ115 k115 τ116 k116 τ117 k117 τ118 k118 τ119 k119 τ120 k120 τ121 k121 τ122 k122 τ123 k123 τ124 k124 τ125 k125 τ126 k126 τ127 k127 τ128 k128 τ129 k129 τ130 k130 τ131 k131 τ132 k132 τ133 k133 τ134 k134 τ135 k135 τ136 k136 τ137 k137 τ138 k138 τ139 k139 τ140 k140 τ141 k141 τ142 k142 τ143 k143 τ144 k144 τ145 k145 τ146 k146 τ147 k147 τ148 k148 τ149 k149 τ150 k150 τ151 k151 τ152 k152 τ153 k153 τ154 k154 τ155 k155 τ156 k156 τ157 k157 τ158 k158 τ159 k159 τ160 k160 τ161 k161 τ162 k162 τ163 k163 τ164 k164 τ165 k165 τ166 k166 τ167 k167 τ168 k168 τ169 k169 τ170 k170 τ171 k171 τ172 k172 τ173 k173 τ174 k174 τ175 k175 τ176 k176 τ177 k177 τ178 k178 τ179 k179 τ180 k180 τ181 k181 τ182 k182 τ183 k183 τ184 k184 τ185 k185 τ186 k186 τ187 k187 τ188 k188 τ189 k189 τ190 k190 τ191 k191 τ192 k192 τ193 k193 τ194 k194 τ195 k195 τ196 k196 τ197 k197 τ198 k198 τ199 k199 τ200 k200 τ201 k201 τ202 k202 τ203 k203 τ204 k204 τ205 k205 τ206 k206 τ207 k207 τ208 k208 τ209 k209 τ210 k210 τ211 k211 τ212 k212 τ213 k213 τ214 k214 τ215 k215 τ216 k216 τ217 k217 τ218 k218 τ219 k219 τ220 k220 τ221 k221 τ222 k222 τ223 k223 τ224 k224 τ225 k225 τ226 k226 τ227 k227 τ228 k228 τ229 k229 τ230 k230 τ231 k231 τ232 k232 τ233 k233 τ234 k234 τ235 k235 τ236 k236 τ237 k237 τ238 k238 τ239 k239 τ240 k240 τ241 k241 τ242 k242 τ243 k243 τ244 k244 τ245 k245 τ246 k246 τ247 k247 τ248 k248 τ249 k249 τ250 k250 τ251 k251 τ252 k252 τ253 k253 τ254 k254 τ255 k255 τ256 k256 τ257 k257 τ258 k258 τ259 k259 τ260 k260 τ261 k261 τ262 k262 τ263 k263 τ264 k264 τ265 k265 τ266 k266 τ267 k267 τ268 k268 τ269 k269 τ270 k270 τ271 k271 τ272 k272 τ273 k273 τ274 k274 τ275 k275 τ276 k276 τ277 k277 τ278 k278 τ279 k279 τ280 k280 τ281 k281 τ282 k282 τ283 k283 τ284 k284 τ285 k285 τ286 k286 τ287 k287 τ288 k288 τ289 k289 τ290 k290 τ291 k291 τ292 k292 τ293 k293 τ294 k294 τ295 k295 τ296 k296 τ297 k297 τ298 k298 τ299 k299 τ300 k300 τ301 k301 τ302 k302 τ303 k303 τ304 k304 τ305 k305 τ306 k306 τ307 k307 τ308 k308 τ309 k309 τ310 k310 τ311 k311 τ312 k312 τ313 k313 τ314 k314 τ315 k315 τ316 k316 τ317 k317 τ318 k318 τ319 k319 τ320 k320 τ321 k321 τ322 k322 τ323 k323 τ324 k324 τ325 k325 τ326 k326 τ327 k327 τ328 k328 τ329 k329 τ330 k330 τ331 k331 τ332 k332 τ333 k333 τ334 k334 τ335 k335 τ336 k336 τ337 k337 τ338 k338 τ339 k339 τ340 k340 τ341 k341 τ342 k342 τ343 k343 τ344 k344 τ345 k345 τ346 k346 τ347 k347 τ348 k348 τ349 k349 τ350 k350 τ351 k351 τ352 k352 τ353 k353 τ354 k354 τ355 k355 τ356 k356 τ357 k357 τ358 k358 τ359 k359 τ360 k360 τ361 k361 τ362 k362 τ363 k363 τ364 k364 τ365 k365 τ366 k366 τ367 k367 τ368 k368 τ369 k369 τ370 k370 τ371 k371 τ372 k372 τ373 k373 τ374 k374 τ375 k375 τ376 k376 τ377 k377 τ378 k378 τ379 k379 τ380 k380 τ381 k381 τ382 k382 τ383 k383 τ384 k384 τ385 k385 τ386 k386 τ387 k387 τ388 k388 τ389 k389 τ390 k390 τ391 k391 τ392 k392 τ393 k393 τ394 k394 τ395 k395 τ396 k396 τ397 k397 τ398 k398 τ399 k399 τ400 k400 τ401 k401 τ402 k402 τ403 k403 τ404 k404 τ405 k405
attribute [simp] e46 g46 e48 g48 e51 g51 e53 g53 e61 g61 e65 g65 e90 g90 e92 g92 e95 g95 e97 g97 e100 g100 e111 g111 e156 g156 e211 g211 e221 g221 e236 g236 e238 g238 e246 g246
end Go.Vai
