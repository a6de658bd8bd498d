/- Texts of this claim: ZvE. -/
import Derived.Test.YtcclapmdkobcgaaGreatDoorUv17
import Derived.Test.YtcclapmdkobcgaaGreatDoorProg
set_option linter.unusedVariables false
namespace Go.Vai
def tys:List (Nat × TyI):=[
 (0,⟨.other,1,0,[]⟩),
 (1,⟨.other,1,8,[.raw .nilFunc]⟩),
 (2,⟨.int .i64,1,8,[.int .i64 0]⟩),
 (3,⟨.int .i64,1,8,[.int .i64 0]⟩),
 (4,⟨.bool,1,1,[.bool false]⟩),
 (5,⟨.int .u8,1,1,[.int .u8 0]⟩),
 (6,⟨.int .u8,1,1,[.int .u8 0]⟩),
 (7,⟨.struct [(0,2),(1,3),(2,4),(3,6)],4,24,[.int .i64 0,.int .i64 0,.bool false,.int .u8 0]⟩),
 (8,⟨.struct [(0,2),(1,3),(2,4),(3,6)],4,24,[.int .i64 0,.int .i64 0,.bool false,.int .u8 0]⟩),
 (9,⟨.string,1,16,[.str ⟨#[]⟩]⟩),
 (10,⟨.string,1,16,[.str ⟨#[]⟩]⟩),
 (11,⟨.string,1,16,[.str ⟨#[]⟩]⟩),
 (12,⟨.int .u64,1,8,[.int .u64 0]⟩),
 (13,⟨.struct [(0,9),(1,12)],2,24,[.str ⟨#[]⟩,.int .u64 0]⟩),
 (14,⟨.struct [(0,9),(1,12)],2,24,[.str ⟨#[]⟩,.int .u64 0]⟩),
 (15,⟨.ptr 204,1,8,[.raw (.pointer none)]⟩),
 (16,⟨.ptr 207,1,8,[.raw (.pointer none)]⟩),
 (17,⟨.ptr 217,1,8,[.raw (.pointer none)]⟩),
 (18,⟨.struct [(0,17)],1,8,[.raw (.pointer none)]⟩),
 (19,⟨.struct [(0,17)],1,8,[.raw (.pointer none)]⟩),
 (20,⟨.other,1,16,[.raw .nilIface]⟩),
 (21,⟨.int .i32,1,4,[.int .i32 0]⟩),
 (22,⟨.slice 38,1,24,[.sl []]⟩),
 (23,⟨.slice 86,1,24,[.sl []]⟩),
 (24,⟨.struct [(0,22),(1,23)],2,48,[.sl [],.sl []]⟩),
 (25,⟨.struct [(0,22),(1,23)],2,48,[.sl [],.sl []]⟩),
 (26,⟨.other,1,8,[.raw .nilFunc]⟩),
 (27,⟨.other,1,8,[.raw .nilFunc]⟩),
 (28,⟨.slice 42,1,24,[.sl []]⟩),
 (29,⟨.slice 67,1,24,[.sl []]⟩),
 (30,⟨.struct [(0,28),(1,29)],2,48,[.sl [],.sl []]⟩),
 (31,⟨.struct [(0,28),(1,29)],2,48,[.sl [],.sl []]⟩),
 (32,⟨.other,1,8,[.raw .nilFunc]⟩),
 (33,⟨.other,1,8,[.raw .nilFunc]⟩),
 (34,⟨.other,1,8,[.raw .nilFunc]⟩),
 (35,⟨.struct [(0,2),(1,2),(2,2)],3,24,[.int .i64 0,.int .i64 0,.int .i64 0]⟩),
 (36,⟨.struct [(0,2),(1,2),(2,2)],3,24,[.int .i64 0,.int .i64 0,.int .i64 0]⟩),
 (37,⟨.struct [(0,36),(3,36)],6,48,[.int .i64 0,.int .i64 0,.int .i64 0,.int .i64 0,.int .i64 0,.int .i64 0]⟩),
 (38,⟨.struct [(0,36),(3,36)],6,48,[.int .i64 0,.int .i64 0,.int .i64 0,.int .i64 0,.int .i64 0,.int .i64 0]⟩),
 (39,⟨.other,1,8,[.raw .nilFunc]⟩),
 (40,⟨.struct [(0,2),(1,2),(2,2)],3,24,[.int .i64 0,.int .i64 0,.int .i64 0]⟩),
 (41,⟨.struct [(0,40),(3,40)],6,48,[.int .i64 0,.int .i64 0,.int .i64 0,.int .i64 0,.int .i64 0,.int .i64 0]⟩),
 (42,⟨.struct [(0,40),(3,40)],6,48,[.int .i64 0,.int .i64 0,.int .i64 0,.int .i64 0,.int .i64 0,.int .i64 0]⟩),
 (43,⟨.other,1,8,[.raw .nilFunc]⟩),
 (44,⟨.other,1,8,[.raw .nilFunc]⟩),
 (45,⟨.other,1,8,[.raw .nilFunc]⟩),
 (46,⟨.other,1,8,[.raw .nilFunc]⟩),
 (47,⟨.other,1,8,[.raw .nilFunc]⟩),
 (48,⟨.other,1,8,[.raw .nilFunc]⟩),
 (49,⟨.other,1,8,[.raw .nilFunc]⟩),
 (50,⟨.other,1,8,[.raw .nilFunc]⟩),
 (51,⟨.other,1,8,[.raw .nilFunc]⟩),
 (52,⟨.other,1,8,[.raw .nilFunc]⟩),
 (53,⟨.slice 2,1,24,[.sl []]⟩),
 (54,⟨.other,1,8,[.raw .nilFunc]⟩),
 (55,⟨.other,1,8,[.raw .nilFunc]⟩),
 (56,⟨.other,1,8,[.raw .nilFunc]⟩),
 (57,⟨.other,1,8,[.raw .nilFunc]⟩),
 (58,⟨.other,1,8,[.raw .nilFunc]⟩),
 (59,⟨.other,1,8,[.raw .nilFunc]⟩),
 (60,⟨.ptr 31,1,8,[.raw (.pointer none)]⟩),
 (61,⟨.other,1,8,[.raw .nilFunc]⟩),
 (62,⟨.other,1,8,[.raw .nilFunc]⟩),
 (63,⟨.other,1,8,[.raw .nilFunc]⟩),
 (64,⟨.other,1,0,[]⟩),
 (65,⟨.other,1,8,[.raw .nilFunc]⟩),
 (66,⟨.struct [(0,2),(1,2),(2,2)],3,24,[.int .i64 0,.int .i64 0,.int .i64 0]⟩),
 (67,⟨.struct [(0,2),(1,2),(2,2)],3,24,[.int .i64 0,.int .i64 0,.int .i64 0]⟩),
 (68,⟨.other,1,8,[.raw .nilFunc]⟩),
 (69,⟨.other,1,8,[.raw .nilFunc]⟩),
 (70,⟨.other,1,8,[.raw .nilFunc]⟩),
 (71,⟨.other,1,8,[.raw .nilFunc]⟩),
 (72,⟨.other,1,8,[.raw .nilFunc]⟩),
 (73,⟨.other,1,8,[.raw .nilFunc]⟩),
 (74,⟨.other,1,8,[.raw .nilFunc]⟩),
 (75,⟨.other,1,8,[.raw .nilFunc]⟩),
 (76,⟨.other,1,8,[.raw .nilFunc]⟩),
 (77,⟨.other,1,0,[]⟩),
 (78,⟨.other,1,8,[.raw .nilFunc]⟩),
 (79,⟨.other,1,8,[.raw .nilFunc]⟩),
 (80,⟨.other,1,8,[.raw .nilFunc]⟩),
 (81,⟨.other,1,8,[.raw .nilFunc]⟩),
 (82,⟨.other,1,8,[.raw .nilFunc]⟩),
 (83,⟨.other,1,8,[.raw .nilFunc]⟩),
 (84,⟨.other,1,8,[.raw .nilFunc]⟩),
 (85,⟨.other,1,8,[.raw .nilFunc]⟩),
 (86,⟨.struct [(0,2),(1,2),(2,2)],3,24,[.int .i64 0,.int .i64 0,.int .i64 0]⟩),
 (87,⟨.other,1,8,[.raw .nilFunc]⟩),
 (88,⟨.other,1,8,[.raw .nilFunc]⟩),
 (89,⟨.other,1,8,[.raw .nilFunc]⟩),
 (90,⟨.other,1,8,[.raw .nilFunc]⟩),
 (91,⟨.other,1,8,[.raw .nilFunc]⟩),
 (92,⟨.other,1,8,[.raw .nilFunc]⟩),
 (93,⟨.other,1,8,[.raw .nilFunc]⟩),
 (94,⟨.other,1,8,[.raw .nilFunc]⟩),
 (95,⟨.other,1,8,[.raw .nilFunc]⟩),
 (96,⟨.slice 4,1,24,[.sl []]⟩),
 (97,⟨.other,1,8,[.raw .nilFunc]⟩),
 (98,⟨.other,1,0,[]⟩),
 (99,⟨.other,1,8,[.raw .nilFunc]⟩),
 (100,⟨.other,1,8,[.raw .nilFunc]⟩),
 (101,⟨.other,1,8,[.raw .nilFunc]⟩),
 (102,⟨.other,1,8,[.raw .nilFunc]⟩),
 (103,⟨.other,1,8,[.raw .nilFunc]⟩),
 (104,⟨.other,1,0,[]⟩),
 (105,⟨.other,1,8,[.raw .nilFunc]⟩),
 (106,⟨.struct [(0,2),(1,40)],4,32,[.int .i64 0,.int .i64 0,.int .i64 0,.int .i64 0]⟩),
 (107,⟨.struct [(0,2),(1,40)],4,32,[.int .i64 0,.int .i64 0,.int .i64 0,.int .i64 0]⟩),
 (108,⟨.other,1,8,[.raw .nilFunc]⟩),
 (109,⟨.other,1,0,[]⟩),
 (110,⟨.other,1,8,[.raw .nilFunc]⟩),
 (111,⟨.other,1,8,[.raw .nilFunc]⟩),
 (112,⟨.other,1,8,[.raw .nilFunc]⟩),
 (113,⟨.other,1,8,[.raw .nilFunc]⟩),
 (114,⟨.other,1,8,[.raw .nilFunc]⟩),
 (115,⟨.other,1,8,[.raw .nilFunc]⟩),
 (116,⟨.slice 154,1,24,[.sl []]⟩),
 (117,⟨.other,1,0,[]⟩),
 (118,⟨.other,1,8,[.raw .nilFunc]⟩),
 (119,⟨.other,1,8,[.raw .nilFunc]⟩),
 (120,⟨.other,1,8,[.raw .nilFunc]⟩),
 (121,⟨.other,1,8,[.raw .nilFunc]⟩),
 (122,⟨.other,1,8,[.raw .nilFunc]⟩),
 (123,⟨.other,1,8,[.raw .nilFunc]⟩),
 (124,⟨.other,1,8,[.raw .nilFunc]⟩),
 (125,⟨.other,1,8,[.raw .nilFunc]⟩),
 (126,⟨.other,1,8,[.raw .nilFunc]⟩),
 (127,⟨.other,1,8,[.raw .nilFunc]⟩),
 (128,⟨.other,1,8,[.raw .nilFunc]⟩),
 (129,⟨.other,1,8,[.raw .nilFunc]⟩),
 (130,⟨.other,1,8,[.raw .nilFunc]⟩),
 (131,⟨.other,1,8,[.raw .nilFunc]⟩),
 (132,⟨.other,1,8,[.raw .nilFunc]⟩),
 (133,⟨.slice 3,1,24,[.sl []]⟩),
 (134,⟨.other,1,8,[.raw .nilFunc]⟩),
 (135,⟨.other,1,8,[.raw .nilFunc]⟩),
 (136,⟨.other,1,8,[.raw .nilFunc]⟩),
 (137,⟨.map 2 53,1,8,[.raw (.map none)]⟩),
 (138,⟨.other,1,8,[.raw .nilFunc]⟩),
 (139,⟨.slice 28,1,24,[.sl []]⟩),
 (140,⟨.other,1,8,[.raw .nilFunc]⟩),
 (141,⟨.other,1,8,[.raw .nilFunc]⟩),
 (142,⟨.other,1,0,[]⟩),
 (143,⟨.other,1,8,[.raw .nilFunc]⟩),
 (144,⟨.arr 8 42,48,384,[.int .i64 0,.int .i64 0,.int .i64 0,.int .i64 0,.int .i64 0,.int .i64 0,.int .i64 0,.int .i64 0,.int .i64 0,.int .i64 0,.int .i64 0,.int .i64 0,.int .i64 0,.int .i64 0,.int .i64 0,.int .i64 0,.int .i64 0,.int .i64 0,.int .i64 0,.int .i64 0,.int .i64 0,.int .i64 0,.int .i64 0,.int .i64 0,.int .i64 0,.int .i64 0,.int .i64 0,.int .i64 0,.int .i64 0,.int .i64 0,.int .i64 0,.int .i64 0,.int .i64 0,.int .i64 0,.int .i64 0,.int .i64 0,.int .i64 0,.int .i64 0,.int .i64 0,.int .i64 0,.int .i64 0,.int .i64 0,.int .i64 0,.int .i64 0,.int .i64 0,.int .i64 0,.int .i64 0,.int .i64 0]⟩),
 (145,⟨.other,1,8,[.raw .nilFunc]⟩),
 (146,⟨.other,1,8,[.raw .nilFunc]⟩),
 (147,⟨.other,1,8,[.raw .nilFunc]⟩),
 (148,⟨.other,1,8,[.raw .nilFunc]⟩),
 (149,⟨.struct [(0,2),(1,2),(2,2)],3,24,[.int .i64 0,.int .i64 0,.int .i64 0]⟩),
 (150,⟨.struct [(0,2),(1,2),(2,2)],3,24,[.int .i64 0,.int .i64 0,.int .i64 0]⟩),
 (151,⟨.struct [(0,150),(3,150)],6,48,[.int .i64 0,.int .i64 0,.int .i64 0,.int .i64 0,.int .i64 0,.int .i64 0]⟩),
 (152,⟨.struct [(0,150),(3,150)],6,48,[.int .i64 0,.int .i64 0,.int .i64 0,.int .i64 0,.int .i64 0,.int .i64 0]⟩),
 (153,⟨.struct [(0,152),(6,152),(12,2)],13,104,[.int .i64 0,.int .i64 0,.int .i64 0,.int .i64 0,.int .i64 0,.int .i64 0,.int .i64 0,.int .i64 0,.int .i64 0,.int .i64 0,.int .i64 0,.int .i64 0,.int .i64 0]⟩),
 (154,⟨.struct [(0,152),(6,152),(12,2)],13,104,[.int .i64 0,.int .i64 0,.int .i64 0,.int .i64 0,.int .i64 0,.int .i64 0,.int .i64 0,.int .i64 0,.int .i64 0,.int .i64 0,.int .i64 0,.int .i64 0,.int .i64 0]⟩),
 (155,⟨.other,1,8,[.raw .nilFunc]⟩),
 (156,⟨.other,1,8,[.raw .nilFunc]⟩),
 (157,⟨.other,1,8,[.raw .nilFunc]⟩),
 (158,⟨.ptr 154,1,8,[.raw (.pointer none)]⟩),
 (159,⟨.other,1,8,[.raw .nilFunc]⟩),
 (160,⟨.other,1,8,[.raw .nilFunc]⟩),
 (161,⟨.other,1,8,[.raw .nilFunc]⟩),
 (162,⟨.other,1,8,[.raw .nilFunc]⟩),
 (163,⟨.slice 152,1,24,[.sl []]⟩),
 (164,⟨.other,1,8,[.raw .nilFunc]⟩),
 (165,⟨.other,1,8,[.raw .nilFunc]⟩),
 (166,⟨.other,1,8,[.raw .nilFunc]⟩),
 (167,⟨.other,1,8,[.raw .nilFunc]⟩),
 (168,⟨.other,1,8,[.raw .nilFunc]⟩),
 (169,⟨.other,1,8,[.raw .nilFunc]⟩),
 (170,⟨.other,1,8,[.raw .nilFunc]⟩),
 (171,⟨.other,1,8,[.raw .nilFunc]⟩),
 (172,⟨.other,1,8,[.raw .nilFunc]⟩),
 (173,⟨.other,1,0,[]⟩),
 (174,⟨.other,1,8,[.raw .nilFunc]⟩),
 (175,⟨.other,1,0,[]⟩),
 (176,⟨.other,1,8,[.raw .nilFunc]⟩),
 (177,⟨.other,1,8,[.raw .nilFunc]⟩),
 (178,⟨.other,1,8,[.raw .nilFunc]⟩),
 (179,⟨.other,1,8,[.raw .nilFunc]⟩),
 (180,⟨.struct [(0,2),(1,150)],4,32,[.int .i64 0,.int .i64 0,.int .i64 0,.int .i64 0]⟩),
 (181,⟨.struct [(0,2),(1,150)],4,32,[.int .i64 0,.int .i64 0,.int .i64 0,.int .i64 0]⟩),
 (182,⟨.other,1,8,[.raw .nilFunc]⟩),
 (183,⟨.other,1,8,[.raw .nilFunc]⟩),
 (184,⟨.other,1,8,[.raw .nilFunc]⟩),
 (185,⟨.other,1,8,[.raw .nilFunc]⟩),
 (186,⟨.other,1,8,[.raw .nilFunc]⟩),
 (187,⟨.other,1,8,[.raw .nilFunc]⟩),
 (188,⟨.slice 150,1,24,[.sl []]⟩),
 (189,⟨.other,1,8,[.raw .nilFunc]⟩),
 (190,⟨.other,1,8,[.raw .nilFunc]⟩),
 (191,⟨.int .u64,1,8,[.int .u64 0]⟩),
 (192,⟨.other,1,0,[]⟩),
 (193,⟨.other,1,8,[.raw .nilFunc]⟩),
 (194,⟨.int .u64,1,8,[.int .u64 0]⟩),
 (195,⟨.other,1,8,[.raw .nilFunc]⟩),
 (196,⟨.other,1,0,[]⟩),
 (197,⟨.other,1,8,[.raw .nilFunc]⟩),
 (198,⟨.other,1,8,[.raw .nilFunc]⟩),
 (199,⟨.other,1,0,[]⟩),
 (200,⟨.other,1,8,[.raw .nilFunc]⟩),
 (201,⟨.other,1,8,[.raw .nilFunc]⟩),
 (202,⟨.other,1,8,[.raw .nilFunc]⟩),
 (203,⟨.struct [(0,17),(1,17),(2,17),(3,9)],4,40,[.raw (.pointer none),.raw (.pointer none),.raw (.pointer none),.str ⟨#[]⟩]⟩),
 (204,⟨.struct [(0,17),(1,17),(2,17),(3,9)],4,40,[.raw (.pointer none),.raw (.pointer none),.raw (.pointer none),.str ⟨#[]⟩]⟩),
 (205,⟨.arr 0 16,0,0,[]⟩),
 (206,⟨.struct [(0,205)],0,0,[]⟩),
 (207,⟨.struct [(0,205)],0,0,[]⟩),
 (208,⟨.other,1,8,[.raw .nilFunc]⟩),
 (209,⟨.int .u32,1,4,[.int .u32 0]⟩),
 (210,⟨.int .u8,1,1,[.int .u8 0]⟩),
 (211,⟨.int .u8,1,1,[.int .u8 0]⟩),
 (212,⟨.other,1,8,[.raw .nilFunc]⟩),
 (213,⟨.ptr 5,1,8,[.raw (.pointer none)]⟩),
 (214,⟨.int .i32,1,4,[.int .i32 0]⟩),
 (215,⟨.int .i32,1,4,[.int .i32 0]⟩),
 (216,⟨.struct [(0,12),(1,12),(2,209),(3,210),(4,5),(5,5),(6,211),(7,212),(8,213),(9,214),(10,215)],11,48,[.int .u64 0,.int .u64 0,.int .u32 0,.int .u8 0,.int .u8 0,.int .u8 0,.int .u8 0,.raw .nilFunc,.raw (.pointer none),.int .i32 0,.int .i32 0]⟩),
 (217,⟨.struct [(0,12),(1,12),(2,209),(3,210),(4,5),(5,5),(6,211),(7,212),(8,213),(9,214),(10,215)],11,48,[.int .u64 0,.int .u64 0,.int .u32 0,.int .u8 0,.int .u8 0,.int .u8 0,.int .u8 0,.raw .nilFunc,.raw (.pointer none),.int .i32 0,.int .i32 0]⟩),
 (218,⟨.other,1,8,[.raw .nilFunc]⟩),
 (219,⟨.other,1,8,[.raw (.pointer none)]⟩)]
def gv0:List IV:=[.int .i64 1,.int .i64 0,.int .i64 0,.int .i64 0,.int .i64 0,.int .i64 0,.int .i64 1,.int .i64 0,.int .i64 0,.int .i64 (-1),.int .i64 1,.int .i64 0,.int .i64 1,.int .i64 0,.int .i64 0,.int .i64 1,.int .i64 0,.int .i64 0,.int .i64 (-1),.int .i64 1,.int .i64 0,.int .i64 1,.int .i64 0,.int .i64 0,.int .i64 0,.int .i64 0,.int .i64 0,.int .i64 1,.int .i64 0,.int .i64 0,.int .i64 1,.int .i64 (-1),.int .i64 0,.int .i64 1,.int .i64 0,.int .i64 0,.int .i64 (-1),.int .i64 0,.int .i64 0,.int .i64 1,.int .i64 0,.int .i64 0,.int .i64 (-1),.int .i64 0,.int .i64 0,.int .i64 (-1),.int .i64 1,.int .i64 0]
def muts:List Nat:=[26,27,32,61,108,123]
noncomputable def E:Env:=⟨Proofs.Tryz.prog,look tys,[(0,gv0)],muts,[172]⟩
theorem EM:E.M = [26,27,32,61,108,123]:=rfl
theorem EN:E.N = [172]:=rfl
attribute [simp] EM EN
theorem EG:E.G = [(0,gv0)]:=rfl
attribute [simp] EG
theorem tys_ok:tysOk Proofs.Tryz.prog tys = true:=by kernel_rfl
theorem hE:E.Ok:=⟨fun t i h=>tysOk_spec tys_ok t i h,by kernel_rfl⟩
theorem τ0:E.τ 0 = some ⟨.other,1,0,[]⟩:=by kernel_rfl
theorem k0:tkOf E 0 = some (.other):=by kernel_rfl
theorem τ1:E.τ 1 = some ⟨.other,1,8,[.raw .nilFunc]⟩:=by kernel_rfl
theorem k1:tkOf E 1 = some (.other):=by kernel_rfl
theorem τ2:E.τ 2 = some ⟨.int .i64,1,8,[.int .i64 0]⟩:=by kernel_rfl
theorem k2:tkOf E 2 = some (.int .i64):=by kernel_rfl
theorem τ3:E.τ 3 = some ⟨.int .i64,1,8,[.int .i64 0]⟩:=by kernel_rfl
theorem k3:tkOf E 3 = some (.int .i64):=by kernel_rfl
theorem τ4:E.τ 4 = some ⟨.bool,1,1,[.bool false]⟩:=by kernel_rfl
theorem k4:tkOf E 4 = some (.bool):=by kernel_rfl
theorem τ5:E.τ 5 = some ⟨.int .u8,1,1,[.int .u8 0]⟩:=by kernel_rfl
theorem k5:tkOf E 5 = some (.int .u8):=by kernel_rfl
theorem τ6:E.τ 6 = some ⟨.int .u8,1,1,[.int .u8 0]⟩:=by kernel_rfl
theorem k6:tkOf E 6 = some (.int .u8):=by kernel_rfl
theorem τ7:E.τ 7 = some ⟨.struct [(0,2),(1,3),(2,4),(3,6)],4,24,[.int .i64 0,.int .i64 0,.bool false,.int .u8 0]⟩:=by kernel_rfl
theorem k7:tkOf E 7 = some (.struct [(0,2),(1,3),(2,4),(3,6)]):=by kernel_rfl
theorem τ8:E.τ 8 = some ⟨.struct [(0,2),(1,3),(2,4),(3,6)],4,24,[.int .i64 0,.int .i64 0,.bool false,.int .u8 0]⟩:=by kernel_rfl
theorem k8:tkOf E 8 = some (.struct [(0,2),(1,3),(2,4),(3,6)]):=by kernel_rfl
theorem τ9:E.τ 9 = some ⟨.string,1,16,[.str ⟨#[]⟩]⟩:=by kernel_rfl
theorem k9:tkOf E 9 = some (.string):=by kernel_rfl
theorem τ10:E.τ 10 = some ⟨.string,1,16,[.str ⟨#[]⟩]⟩:=by kernel_rfl
theorem k10:tkOf E 10 = some (.string):=by kernel_rfl
theorem τ11:E.τ 11 = some ⟨.string,1,16,[.str ⟨#[]⟩]⟩:=by kernel_rfl
theorem k11:tkOf E 11 = some (.string):=by kernel_rfl
theorem τ12:E.τ 12 = some ⟨.int .u64,1,8,[.int .u64 0]⟩:=by kernel_rfl
theorem k12:tkOf E 12 = some (.int .u64):=by kernel_rfl
theorem τ13:E.τ 13 = some ⟨.struct [(0,9),(1,12)],2,24,[.str ⟨#[]⟩,.int .u64 0]⟩:=by kernel_rfl
theorem k13:tkOf E 13 = some (.struct [(0,9),(1,12)]):=by kernel_rfl
theorem τ14:E.τ 14 = some ⟨.struct [(0,9),(1,12)],2,24,[.str ⟨#[]⟩,.int .u64 0]⟩:=by kernel_rfl
theorem k14:tkOf E 14 = some (.struct [(0,9),(1,12)]):=by kernel_rfl
theorem τ15:E.τ 15 = some ⟨.ptr 204,1,8,[.raw (.pointer none)]⟩:=by kernel_rfl
theorem k15:tkOf E 15 = some (.ptr 204):=by kernel_rfl
theorem τ16:E.τ 16 = some ⟨.ptr 207,1,8,[.raw (.pointer none)]⟩:=by kernel_rfl
theorem k16:tkOf E 16 = some (.ptr 207):=by kernel_rfl
theorem τ17:E.τ 17 = some ⟨.ptr 217,1,8,[.raw (.pointer none)]⟩:=by kernel_rfl
theorem k17:tkOf E 17 = some (.ptr 217):=by kernel_rfl
theorem τ18:E.τ 18 = some ⟨.struct [(0,17)],1,8,[.raw (.pointer none)]⟩:=by kernel_rfl
theorem k18:tkOf E 18 = some (.struct [(0,17)]):=by kernel_rfl
theorem τ19:E.τ 19 = some ⟨.struct [(0,17)],1,8,[.raw (.pointer none)]⟩:=by kernel_rfl
theorem k19:tkOf E 19 = some (.struct [(0,17)]):=by kernel_rfl
theorem τ20:E.τ 20 = some ⟨.other,1,16,[.raw .nilIface]⟩:=by kernel_rfl
theorem k20:tkOf E 20 = some (.other):=by kernel_rfl
theorem τ21:E.τ 21 = some ⟨.int .i32,1,4,[.int .i32 0]⟩:=by kernel_rfl
theorem k21:tkOf E 21 = some (.int .i32):=by kernel_rfl
theorem τ22:E.τ 22 = some ⟨.slice 38,1,24,[.sl []]⟩:=by kernel_rfl
theorem k22:tkOf E 22 = some (.slice 38):=by kernel_rfl
theorem τ23:E.τ 23 = some ⟨.slice 86,1,24,[.sl []]⟩:=by kernel_rfl
theorem k23:tkOf E 23 = some (.slice 86):=by kernel_rfl
theorem τ24:E.τ 24 = some ⟨.struct [(0,22),(1,23)],2,48,[.sl [],.sl []]⟩:=by kernel_rfl
theorem k24:tkOf E 24 = some (.struct [(0,22),(1,23)]):=by kernel_rfl
theorem τ25:E.τ 25 = some ⟨.struct [(0,22),(1,23)],2,48,[.sl [],.sl []]⟩:=by kernel_rfl
theorem k25:tkOf E 25 = some (.struct [(0,22),(1,23)]):=by kernel_rfl
theorem τ26:E.τ 26 = some ⟨.other,1,8,[.raw .nilFunc]⟩:=by kernel_rfl
theorem k26:tkOf E 26 = some (.other):=by kernel_rfl
theorem τ27:E.τ 27 = some ⟨.other,1,8,[.raw .nilFunc]⟩:=by kernel_rfl
theorem k27:tkOf E 27 = some (.other):=by kernel_rfl
theorem τ28:E.τ 28 = some ⟨.slice 42,1,24,[.sl []]⟩:=by kernel_rfl
theorem k28:tkOf E 28 = some (.slice 42):=by kernel_rfl
theorem τ29:E.τ 29 = some ⟨.slice 67,1,24,[.sl []]⟩:=by kernel_rfl
theorem k29:tkOf E 29 = some (.slice 67):=by kernel_rfl
theorem τ30:E.τ 30 = some ⟨.struct [(0,28),(1,29)],2,48,[.sl [],.sl []]⟩:=by kernel_rfl
theorem k30:tkOf E 30 = some (.struct [(0,28),(1,29)]):=by kernel_rfl
theorem τ31:E.τ 31 = some ⟨.struct [(0,28),(1,29)],2,48,[.sl [],.sl []]⟩:=by kernel_rfl
theorem k31:tkOf E 31 = some (.struct [(0,28),(1,29)]):=by kernel_rfl
theorem τ32:E.τ 32 = some ⟨.other,1,8,[.raw .nilFunc]⟩:=by kernel_rfl
theorem k32:tkOf E 32 = some (.other):=by kernel_rfl
theorem τ33:E.τ 33 = some ⟨.other,1,8,[.raw .nilFunc]⟩:=by kernel_rfl
theorem k33:tkOf E 33 = some (.other):=by kernel_rfl
theorem τ34:E.τ 34 = some ⟨.other,1,8,[.raw .nilFunc]⟩:=by kernel_rfl
theorem k34:tkOf E 34 = some (.other):=by kernel_rfl
theorem τ35:E.τ 35 = some ⟨.struct [(0,2),(1,2),(2,2)],3,24,[.int .i64 0,.int .i64 0,.int .i64 0]⟩:=by kernel_rfl
theorem k35:tkOf E 35 = some (.struct [(0,2),(1,2),(2,2)]):=by kernel_rfl
theorem τ36:E.τ 36 = some ⟨.struct [(0,2),(1,2),(2,2)],3,24,[.int .i64 0,.int .i64 0,.int .i64 0]⟩:=by kernel_rfl
theorem k36:tkOf E 36 = some (.struct [(0,2),(1,2),(2,2)]):=by kernel_rfl
theorem τ37:E.τ 37 = some ⟨.struct [(0,36),(3,36)],6,48,[.int .i64 0,.int .i64 0,.int .i64 0,.int .i64 0,.int .i64 0,.int .i64 0]⟩:=by kernel_rfl
theorem k37:tkOf E 37 = some (.struct [(0,36),(3,36)]):=by kernel_rfl
theorem τ38:E.τ 38 = some ⟨.struct [(0,36),(3,36)],6,48,[.int .i64 0,.int .i64 0,.int .i64 0,.int .i64 0,.int .i64 0,.int .i64 0]⟩:=by kernel_rfl
theorem k38:tkOf E 38 = some (.struct [(0,36),(3,36)]):=by kernel_rfl
theorem τ39:E.τ 39 = some ⟨.other,1,8,[.raw .nilFunc]⟩:=by kernel_rfl
theorem k39:tkOf E 39 = some (.other):=by kernel_rfl
theorem τ40:E.τ 40 = some ⟨.struct [(0,2),(1,2),(2,2)],3,24,[.int .i64 0,.int .i64 0,.int .i64 0]⟩:=by kernel_rfl
theorem k40:tkOf E 40 = some (.struct [(0,2),(1,2),(2,2)]):=by kernel_rfl
theorem τ41:E.τ 41 = some ⟨.struct [(0,40),(3,40)],6,48,[.int .i64 0,.int .i64 0,.int .i64 0,.int .i64 0,.int .i64 0,.int .i64 0]⟩:=by kernel_rfl
theorem k41:tkOf E 41 = some (.struct [(0,40),(3,40)]):=by kernel_rfl
theorem τ42:E.τ 42 = some ⟨.struct [(0,40),(3,40)],6,48,[.int .i64 0,.int .i64 0,.int .i64 0,.int .i64 0,.int .i64 0,.int .i64 0]⟩:=by kernel_rfl
theorem k42:tkOf E 42 = some (.struct [(0,40),(3,40)]):=by kernel_rfl
theorem τ43:E.τ 43 = some ⟨.other,1,8,[.raw .nilFunc]⟩:=by kernel_rfl
theorem k43:tkOf E 43 = some (.other):=by kernel_rfl
theorem τ44:E.τ 44 = some ⟨.other,1,8,[.raw .nilFunc]⟩:=by kernel_rfl
theorem k44:tkOf E 44 = some (.other):=by kernel_rfl
theorem τ45:E.τ 45 = some ⟨.other,1,8,[.raw .nilFunc]⟩:=by kernel_rfl
theorem k45:tkOf E 45 = some (.other):=by kernel_rfl
theorem τ46:E.τ 46 = some ⟨.other,1,8,[.raw .nilFunc]⟩:=by kernel_rfl
theorem k46:tkOf E 46 = some (.other):=by kernel_rfl
theorem τ47:E.τ 47 = some ⟨.other,1,8,[.raw .nilFunc]⟩:=by kernel_rfl
theorem k47:tkOf E 47 = some (.other):=by kernel_rfl
theorem τ48:E.τ 48 = some ⟨.other,1,8,[.raw .nilFunc]⟩:=by kernel_rfl
theorem k48:tkOf E 48 = some (.other):=by kernel_rfl
theorem τ49:E.τ 49 = some ⟨.other,1,8,[.raw .nilFunc]⟩:=by kernel_rfl
theorem k49:tkOf E 49 = some (.other):=by kernel_rfl
theorem τ50:E.τ 50 = some ⟨.other,1,8,[.raw .nilFunc]⟩:=by kernel_rfl
theorem k50:tkOf E 50 = some (.other):=by kernel_rfl
theorem τ51:E.τ 51 = some ⟨.other,1,8,[.raw .nilFunc]⟩:=by kernel_rfl
theorem k51:tkOf E 51 = some (.other):=by kernel_rfl
theorem τ52:E.τ 52 = some ⟨.other,1,8,[.raw .nilFunc]⟩:=by kernel_rfl
theorem k52:tkOf E 52 = some (.other):=by kernel_rfl
theorem τ53:E.τ 53 = some ⟨.slice 2,1,24,[.sl []]⟩:=by kernel_rfl
theorem k53:tkOf E 53 = some (.slice 2):=by kernel_rfl
theorem τ54:E.τ 54 = some ⟨.other,1,8,[.raw .nilFunc]⟩:=by kernel_rfl
theorem k54:tkOf E 54 = some (.other):=by kernel_rfl
theorem τ55:E.τ 55 = some ⟨.other,1,8,[.raw .nilFunc]⟩:=by kernel_rfl
theorem k55:tkOf E 55 = some (.other):=by kernel_rfl
theorem τ56:E.τ 56 = some ⟨.other,1,8,[.raw .nilFunc]⟩:=by kernel_rfl
theorem k56:tkOf E 56 = some (.other):=by kernel_rfl
theorem τ57:E.τ 57 = some ⟨.other,1,8,[.raw .nilFunc]⟩:=by kernel_rfl
theorem k57:tkOf E 57 = some (.other):=by kernel_rfl
theorem τ58:E.τ 58 = some ⟨.other,1,8,[.raw .nilFunc]⟩:=by kernel_rfl
theorem k58:tkOf E 58 = some (.other):=by kernel_rfl
theorem τ59:E.τ 59 = some ⟨.other,1,8,[.raw .nilFunc]⟩:=by kernel_rfl
theorem k59:tkOf E 59 = some (.other):=by kernel_rfl
theorem τ60:E.τ 60 = some ⟨.ptr 31,1,8,[.raw (.pointer none)]⟩:=by kernel_rfl
theorem k60:tkOf E 60 = some (.ptr 31):=by kernel_rfl
theorem τ61:E.τ 61 = some ⟨.other,1,8,[.raw .nilFunc]⟩:=by kernel_rfl
theorem k61:tkOf E 61 = some (.other):=by kernel_rfl
theorem τ62:E.τ 62 = some ⟨.other,1,8,[.raw .nilFunc]⟩:=by kernel_rfl
theorem k62:tkOf E 62 = some (.other):=by kernel_rfl
theorem τ63:E.τ 63 = some ⟨.other,1,8,[.raw .nilFunc]⟩:=by kernel_rfl
theorem k63:tkOf E 63 = some (.other):=by kernel_rfl
theorem τ64:E.τ 64 = some ⟨.other,1,0,[]⟩:=by kernel_rfl
theorem k64:tkOf E 64 = some (.other):=by kernel_rfl
theorem τ65:E.τ 65 = some ⟨.other,1,8,[.raw .nilFunc]⟩:=by kernel_rfl
theorem k65:tkOf E 65 = some (.other):=by kernel_rfl
theorem τ66:E.τ 66 = some ⟨.struct [(0,2),(1,2),(2,2)],3,24,[.int .i64 0,.int .i64 0,.int .i64 0]⟩:=by kernel_rfl
theorem k66:tkOf E 66 = some (.struct [(0,2),(1,2),(2,2)]):=by kernel_rfl
theorem τ67:E.τ 67 = some ⟨.struct [(0,2),(1,2),(2,2)],3,24,[.int .i64 0,.int .i64 0,.int .i64 0]⟩:=by kernel_rfl
theorem k67:tkOf E 67 = some (.struct [(0,2),(1,2),(2,2)]):=by kernel_rfl
theorem τ68:E.τ 68 = some ⟨.other,1,8,[.raw .nilFunc]⟩:=by kernel_rfl
theorem k68:tkOf E 68 = some (.other):=by kernel_rfl
theorem τ69:E.τ 69 = some ⟨.other,1,8,[.raw .nilFunc]⟩:=by kernel_rfl
theorem k69:tkOf E 69 = some (.other):=by kernel_rfl
theorem τ70:E.τ 70 = some ⟨.other,1,8,[.raw .nilFunc]⟩:=by kernel_rfl
theorem k70:tkOf E 70 = some (.other):=by kernel_rfl
theorem τ71:E.τ 71 = some ⟨.other,1,8,[.raw .nilFunc]⟩:=by kernel_rfl
theorem k71:tkOf E 71 = some (.other):=by kernel_rfl
theorem τ72:E.τ 72 = some ⟨.other,1,8,[.raw .nilFunc]⟩:=by kernel_rfl
theorem k72:tkOf E 72 = some (.other):=by kernel_rfl
theorem τ73:E.τ 73 = some ⟨.other,1,8,[.raw .nilFunc]⟩:=by kernel_rfl
theorem k73:tkOf E 73 = some (.other):=by kernel_rfl
theorem τ74:E.τ 74 = some ⟨.other,1,8,[.raw .nilFunc]⟩:=by kernel_rfl
theorem k74:tkOf E 74 = some (.other):=by kernel_rfl
theorem τ75:E.τ 75 = some ⟨.other,1,8,[.raw .nilFunc]⟩:=by kernel_rfl
theorem k75:tkOf E 75 = some (.other):=by kernel_rfl
theorem τ76:E.τ 76 = some ⟨.other,1,8,[.raw .nilFunc]⟩:=by kernel_rfl
theorem k76:tkOf E 76 = some (.other):=by kernel_rfl
theorem τ77:E.τ 77 = some ⟨.other,1,0,[]⟩:=by kernel_rfl
theorem k77:tkOf E 77 = some (.other):=by kernel_rfl
theorem τ78:E.τ 78 = some ⟨.other,1,8,[.raw .nilFunc]⟩:=by kernel_rfl
theorem k78:tkOf E 78 = some (.other):=by kernel_rfl
theorem τ79:E.τ 79 = some ⟨.other,1,8,[.raw .nilFunc]⟩:=by kernel_rfl
theorem k79:tkOf E 79 = some (.other):=by kernel_rfl
theorem τ80:E.τ 80 = some ⟨.other,1,8,[.raw .nilFunc]⟩:=by kernel_rfl
theorem k80:tkOf E 80 = some (.other):=by kernel_rfl
theorem τ81:E.τ 81 = some ⟨.other,1,8,[.raw .nilFunc]⟩:=by kernel_rfl
theorem k81:tkOf E 81 = some (.other):=by kernel_rfl
theorem τ82:E.τ 82 = some ⟨.other,1,8,[.raw .nilFunc]⟩:=by kernel_rfl
theorem k82:tkOf E 82 = some (.other):=by kernel_rfl
theorem τ83:E.τ 83 = some ⟨.other,1,8,[.raw .nilFunc]⟩:=by kernel_rfl
theorem k83:tkOf E 83 = some (.other):=by kernel_rfl
theorem τ84:E.τ 84 = some ⟨.other,1,8,[.raw .nilFunc]⟩:=by kernel_rfl
theorem k84:tkOf E 84 = some (.other):=by kernel_rfl
theorem τ85:E.τ 85 = some ⟨.other,1,8,[.raw .nilFunc]⟩:=by kernel_rfl
theorem k85:tkOf E 85 = some (.other):=by kernel_rfl
theorem τ86:E.τ 86 = some ⟨.struct [(0,2),(1,2),(2,2)],3,24,[.int .i64 0,.int .i64 0,.int .i64 0]⟩:=by kernel_rfl
theorem k86:tkOf E 86 = some (.struct [(0,2),(1,2),(2,2)]):=by kernel_rfl
theorem τ87:E.τ 87 = some ⟨.other,1,8,[.raw .nilFunc]⟩:=by kernel_rfl
theorem k87:tkOf E 87 = some (.other):=by kernel_rfl
theorem τ88:E.τ 88 = some ⟨.other,1,8,[.raw .nilFunc]⟩:=by kernel_rfl
theorem k88:tkOf E 88 = some (.other):=by kernel_rfl
theorem τ89:E.τ 89 = some ⟨.other,1,8,[.raw .nilFunc]⟩:=by kernel_rfl
theorem k89:tkOf E 89 = some (.other):=by kernel_rfl
theorem τ90:E.τ 90 = some ⟨.other,1,8,[.raw .nilFunc]⟩:=by kernel_rfl
theorem k90:tkOf E 90 = some (.other):=by kernel_rfl
theorem τ91:E.τ 91 = some ⟨.other,1,8,[.raw .nilFunc]⟩:=by kernel_rfl
theorem k91:tkOf E 91 = some (.other):=by kernel_rfl
theorem τ92:E.τ 92 = some ⟨.other,1,8,[.raw .nilFunc]⟩:=by kernel_rfl
theorem k92:tkOf E 92 = some (.other):=by kernel_rfl
theorem τ93:E.τ 93 = some ⟨.other,1,8,[.raw .nilFunc]⟩:=by kernel_rfl
theorem k93:tkOf E 93 = some (.other):=by kernel_rfl
theorem τ94:E.τ 94 = some ⟨.other,1,8,[.raw .nilFunc]⟩:=by kernel_rfl
theorem k94:tkOf E 94 = some (.other):=by kernel_rfl
theorem τ95:E.τ 95 = some ⟨.other,1,8,[.raw .nilFunc]⟩:=by kernel_rfl
theorem k95:tkOf E 95 = some (.other):=by kernel_rfl
theorem τ96:E.τ 96 = some ⟨.slice 4,1,24,[.sl []]⟩:=by kernel_rfl
theorem k96:tkOf E 96 = some (.slice 4):=by kernel_rfl
theorem τ97:E.τ 97 = some ⟨.other,1,8,[.raw .nilFunc]⟩:=by kernel_rfl
theorem k97:tkOf E 97 = some (.other):=by kernel_rfl
theorem τ98:E.τ 98 = some ⟨.other,1,0,[]⟩:=by kernel_rfl
theorem k98:tkOf E 98 = some (.other):=by kernel_rfl
theorem τ99:E.τ 99 = some ⟨.other,1,8,[.raw .nilFunc]⟩:=by kernel_rfl
theorem k99:tkOf E 99 = some (.other):=by kernel_rfl
theorem τ100:E.τ 100 = some ⟨.other,1,8,[.raw .nilFunc]⟩:=by kernel_rfl
theorem k100:tkOf E 100 = some (.other):=by kernel_rfl
theorem τ101:E.τ 101 = some ⟨.other,1,8,[.raw .nilFunc]⟩:=by kernel_rfl
theorem k101:tkOf E 101 = some (.other):=by kernel_rfl
theorem τ102:E.τ 102 = some ⟨.other,1,8,[.raw .nilFunc]⟩:=by kernel_rfl
theorem k102:tkOf E 102 = some (.other):=by kernel_rfl
theorem τ103:E.τ 103 = some ⟨.other,1,8,[.raw .nilFunc]⟩:=by kernel_rfl
theorem k103:tkOf E 103 = some (.other):=by kernel_rfl
theorem τ104:E.τ 104 = some ⟨.other,1,0,[]⟩:=by kernel_rfl
theorem k104:tkOf E 104 = some (.other):=by kernel_rfl
theorem τ105:E.τ 105 = some ⟨.other,1,8,[.raw .nilFunc]⟩:=by kernel_rfl
theorem k105:tkOf E 105 = some (.other):=by kernel_rfl
theorem τ106:E.τ 106 = some ⟨.struct [(0,2),(1,40)],4,32,[.int .i64 0,.int .i64 0,.int .i64 0,.int .i64 0]⟩:=by kernel_rfl
theorem k106:tkOf E 106 = some (.struct [(0,2),(1,40)]):=by kernel_rfl
theorem τ107:E.τ 107 = some ⟨.struct [(0,2),(1,40)],4,32,[.int .i64 0,.int .i64 0,.int .i64 0,.int .i64 0]⟩:=by kernel_rfl
theorem k107:tkOf E 107 = some (.struct [(0,2),(1,40)]):=by kernel_rfl
theorem τ108:E.τ 108 = some ⟨.other,1,8,[.raw .nilFunc]⟩:=by kernel_rfl
theorem k108:tkOf E 108 = some (.other):=by kernel_rfl
theorem τ109:E.τ 109 = some ⟨.other,1,0,[]⟩:=by kernel_rfl
theorem k109:tkOf E 109 = some (.other):=by kernel_rfl
theorem τ110:E.τ 110 = some ⟨.other,1,8,[.raw .nilFunc]⟩:=by kernel_rfl
theorem k110:tkOf E 110 = some (.other):=by kernel_rfl
theorem τ111:E.τ 111 = some ⟨.other,1,8,[.raw .nilFunc]⟩:=by kernel_rfl
theorem k111:tkOf E 111 = some (.other):=by kernel_rfl
theorem τ112:E.τ 112 = some ⟨.other,1,8,[.raw .nilFunc]⟩:=by kernel_rfl
theorem k112:tkOf E 112 = some (.other):=by kernel_rfl
theorem τ113:E.τ 113 = some ⟨.other,1,8,[.raw .nilFunc]⟩:=by kernel_rfl
theorem k113:tkOf E 113 = some (.other):=by kernel_rfl
theorem τ114:E.τ 114 = some ⟨.other,1,8,[.raw .nilFunc]⟩:=by kernel_rfl
theorem k114:tkOf E 114 = some (.other):=by kernel_rfl
theorem τ115:E.τ 115 = some ⟨.other,1,8,[.raw .nilFunc]⟩:=by kernel_rfl
theorem k115:tkOf E 115 = some (.other):=by kernel_rfl
theorem τ116:E.τ 116 = some ⟨.slice 154,1,24,[.sl []]⟩:=by kernel_rfl
theorem k116:tkOf E 116 = some (.slice 154):=by kernel_rfl
theorem τ117:E.τ 117 = some ⟨.other,1,0,[]⟩:=by kernel_rfl
theorem k117:tkOf E 117 = some (.other):=by kernel_rfl
theorem τ118:E.τ 118 = some ⟨.other,1,8,[.raw .nilFunc]⟩:=by kernel_rfl
theorem k118:tkOf E 118 = some (.other):=by kernel_rfl
theorem τ119:E.τ 119 = some ⟨.other,1,8,[.raw .nilFunc]⟩:=by kernel_rfl
theorem k119:tkOf E 119 = some (.other):=by kernel_rfl
theorem τ120:E.τ 120 = some ⟨.other,1,8,[.raw .nilFunc]⟩:=by kernel_rfl
theorem k120:tkOf E 120 = some (.other):=by kernel_rfl
theorem τ121:E.τ 121 = some ⟨.other,1,8,[.raw .nilFunc]⟩:=by kernel_rfl
theorem k121:tkOf E 121 = some (.other):=by kernel_rfl
theorem τ122:E.τ 122 = some ⟨.other,1,8,[.raw .nilFunc]⟩:=by kernel_rfl
theorem k122:tkOf E 122 = some (.other):=by kernel_rfl
theorem τ123:E.τ 123 = some ⟨.other,1,8,[.raw .nilFunc]⟩:=by kernel_rfl
theorem k123:tkOf E 123 = some (.other):=by kernel_rfl
theorem τ124:E.τ 124 = some ⟨.other,1,8,[.raw .nilFunc]⟩:=by kernel_rfl
theorem k124:tkOf E 124 = some (.other):=by kernel_rfl
theorem τ125:E.τ 125 = some ⟨.other,1,8,[.raw .nilFunc]⟩:=by kernel_rfl
theorem k125:tkOf E 125 = some (.other):=by kernel_rfl
theorem τ126:E.τ 126 = some ⟨.other,1,8,[.raw .nilFunc]⟩:=by kernel_rfl
theorem k126:tkOf E 126 = some (.other):=by kernel_rfl
theorem τ127:E.τ 127 = some ⟨.other,1,8,[.raw .nilFunc]⟩:=by kernel_rfl
theorem k127:tkOf E 127 = some (.other):=by kernel_rfl
theorem τ128:E.τ 128 = some ⟨.other,1,8,[.raw .nilFunc]⟩:=by kernel_rfl
theorem k128:tkOf E 128 = some (.other):=by kernel_rfl
theorem τ129:E.τ 129 = some ⟨.other,1,8,[.raw .nilFunc]⟩:=by kernel_rfl
theorem k129:tkOf E 129 = some (.other):=by kernel_rfl
theorem τ130:E.τ 130 = some ⟨.other,1,8,[.raw .nilFunc]⟩:=by kernel_rfl
theorem k130:tkOf E 130 = some (.other):=by kernel_rfl
theorem τ131:E.τ 131 = some ⟨.other,1,8,[.raw .nilFunc]⟩:=by kernel_rfl
theorem k131:tkOf E 131 = some (.other):=by kernel_rfl
theorem τ132:E.τ 132 = some ⟨.other,1,8,[.raw .nilFunc]⟩:=by kernel_rfl
theorem k132:tkOf E 132 = some (.other):=by kernel_rfl
theorem τ133:E.τ 133 = some ⟨.slice 3,1,24,[.sl []]⟩:=by kernel_rfl
theorem k133:tkOf E 133 = some (.slice 3):=by kernel_rfl
theorem τ134:E.τ 134 = some ⟨.other,1,8,[.raw .nilFunc]⟩:=by kernel_rfl
theorem k134:tkOf E 134 = some (.other):=by kernel_rfl
theorem τ135:E.τ 135 = some ⟨.other,1,8,[.raw .nilFunc]⟩:=by kernel_rfl
theorem k135:tkOf E 135 = some (.other):=by kernel_rfl
theorem τ136:E.τ 136 = some ⟨.other,1,8,[.raw .nilFunc]⟩:=by kernel_rfl
theorem k136:tkOf E 136 = some (.other):=by kernel_rfl
theorem τ137:E.τ 137 = some ⟨.map 2 53,1,8,[.raw (.map none)]⟩:=by kernel_rfl
theorem k137:tkOf E 137 = some (.map 2 53):=by kernel_rfl
theorem τ138:E.τ 138 = some ⟨.other,1,8,[.raw .nilFunc]⟩:=by kernel_rfl
theorem k138:tkOf E 138 = some (.other):=by kernel_rfl
theorem τ139:E.τ 139 = some ⟨.slice 28,1,24,[.sl []]⟩:=by kernel_rfl
theorem k139:tkOf E 139 = some (.slice 28):=by kernel_rfl
theorem τ140:E.τ 140 = some ⟨.other,1,8,[.raw .nilFunc]⟩:=by kernel_rfl
theorem k140:tkOf E 140 = some (.other):=by kernel_rfl
theorem τ141:E.τ 141 = some ⟨.other,1,8,[.raw .nilFunc]⟩:=by kernel_rfl
theorem k141:tkOf E 141 = some (.other):=by kernel_rfl
theorem τ142:E.τ 142 = some ⟨.other,1,0,[]⟩:=by kernel_rfl
theorem k142:tkOf E 142 = some (.other):=by kernel_rfl
theorem τ143:E.τ 143 = some ⟨.other,1,8,[.raw .nilFunc]⟩:=by kernel_rfl
theorem k143:tkOf E 143 = some (.other):=by kernel_rfl
theorem τ144:E.τ 144 = some ⟨.arr 8 42,48,384,[.int .i64 0,.int .i64 0,.int .i64 0,.int .i64 0,.int .i64 0,.int .i64 0,.int .i64 0,.int .i64 0,.int .i64 0,.int .i64 0,.int .i64 0,.int .i64 0,.int .i64 0,.int .i64 0,.int .i64 0,.int .i64 0,.int .i64 0,.int .i64 0,.int .i64 0,.int .i64 0,.int .i64 0,.int .i64 0,.int .i64 0,.int .i64 0,.int .i64 0,.int .i64 0,.int .i64 0,.int .i64 0,.int .i64 0,.int .i64 0,.int .i64 0,.int .i64 0,.int .i64 0,.int .i64 0,.int .i64 0,.int .i64 0,.int .i64 0,.int .i64 0,.int .i64 0,.int .i64 0,.int .i64 0,.int .i64 0,.int .i64 0,.int .i64 0,.int .i64 0,.int .i64 0,.int .i64 0,.int .i64 0]⟩:=by kernel_rfl
theorem k144:tkOf E 144 = some (.arr 8 42):=by kernel_rfl
theorem τ145:E.τ 145 = some ⟨.other,1,8,[.raw .nilFunc]⟩:=by kernel_rfl
theorem k145:tkOf E 145 = some (.other):=by kernel_rfl
theorem τ146:E.τ 146 = some ⟨.other,1,8,[.raw .nilFunc]⟩:=by kernel_rfl
theorem k146:tkOf E 146 = some (.other):=by kernel_rfl
theorem τ147:E.τ 147 = some ⟨.other,1,8,[.raw .nilFunc]⟩:=by kernel_rfl
theorem k147:tkOf E 147 = some (.other):=by kernel_rfl
theorem τ148:E.τ 148 = some ⟨.other,1,8,[.raw .nilFunc]⟩:=by kernel_rfl
theorem k148:tkOf E 148 = some (.other):=by kernel_rfl
theorem τ149:E.τ 149 = some ⟨.struct [(0,2),(1,2),(2,2)],3,24,[.int .i64 0,.int .i64 0,.int .i64 0]⟩:=by kernel_rfl
theorem k149:tkOf E 149 = some (.struct [(0,2),(1,2),(2,2)]):=by kernel_rfl
theorem τ150:E.τ 150 = some ⟨.struct [(0,2),(1,2),(2,2)],3,24,[.int .i64 0,.int .i64 0,.int .i64 0]⟩:=by kernel_rfl
theorem k150:tkOf E 150 = some (.struct [(0,2),(1,2),(2,2)]):=by kernel_rfl
theorem τ151:E.τ 151 = some ⟨.struct [(0,150),(3,150)],6,48,[.int .i64 0,.int .i64 0,.int .i64 0,.int .i64 0,.int .i64 0,.int .i64 0]⟩:=by kernel_rfl
theorem k151:tkOf E 151 = some (.struct [(0,150),(3,150)]):=by kernel_rfl
theorem τ152:E.τ 152 = some ⟨.struct [(0,150),(3,150)],6,48,[.int .i64 0,.int .i64 0,.int .i64 0,.int .i64 0,.int .i64 0,.int .i64 0]⟩:=by kernel_rfl
theorem k152:tkOf E 152 = some (.struct [(0,150),(3,150)]):=by kernel_rfl
theorem τ153:E.τ 153 = some ⟨.struct [(0,152),(6,152),(12,2)],13,104,[.int .i64 0,.int .i64 0,.int .i64 0,.int .i64 0,.int .i64 0,.int .i64 0,.int .i64 0,.int .i64 0,.int .i64 0,.int .i64 0,.int .i64 0,.int .i64 0,.int .i64 0]⟩:=by kernel_rfl
theorem k153:tkOf E 153 = some (.struct [(0,152),(6,152),(12,2)]):=by kernel_rfl
theorem τ154:E.τ 154 = some ⟨.struct [(0,152),(6,152),(12,2)],13,104,[.int .i64 0,.int .i64 0,.int .i64 0,.int .i64 0,.int .i64 0,.int .i64 0,.int .i64 0,.int .i64 0,.int .i64 0,.int .i64 0,.int .i64 0,.int .i64 0,.int .i64 0]⟩:=by kernel_rfl
theorem k154:tkOf E 154 = some (.struct [(0,152),(6,152),(12,2)]):=by kernel_rfl
theorem τ155:E.τ 155 = some ⟨.other,1,8,[.raw .nilFunc]⟩:=by kernel_rfl
theorem k155:tkOf E 155 = some (.other):=by kernel_rfl
theorem τ156:E.τ 156 = some ⟨.other,1,8,[.raw .nilFunc]⟩:=by kernel_rfl
theorem k156:tkOf E 156 = some (.other):=by kernel_rfl
theorem τ157:E.τ 157 = some ⟨.other,1,8,[.raw .nilFunc]⟩:=by kernel_rfl
theorem k157:tkOf E 157 = some (.other):=by kernel_rfl
theorem τ158:E.τ 158 = some ⟨.ptr 154,1,8,[.raw (.pointer none)]⟩:=by kernel_rfl
theorem k158:tkOf E 158 = some (.ptr 154):=by kernel_rfl
theorem τ159:E.τ 159 = some ⟨.other,1,8,[.raw .nilFunc]⟩:=by kernel_rfl
theorem k159:tkOf E 159 = some (.other):=by kernel_rfl
theorem τ160:E.τ 160 = some ⟨.other,1,8,[.raw .nilFunc]⟩:=by kernel_rfl
theorem k160:tkOf E 160 = some (.other):=by kernel_rfl
theorem τ161:E.τ 161 = some ⟨.other,1,8,[.raw .nilFunc]⟩:=by kernel_rfl
theorem k161:tkOf E 161 = some (.other):=by kernel_rfl
theorem τ162:E.τ 162 = some ⟨.other,1,8,[.raw .nilFunc]⟩:=by kernel_rfl
theorem k162:tkOf E 162 = some (.other):=by kernel_rfl
theorem τ163:E.τ 163 = some ⟨.slice 152,1,24,[.sl []]⟩:=by kernel_rfl
theorem k163:tkOf E 163 = some (.slice 152):=by kernel_rfl
theorem τ164:E.τ 164 = some ⟨.other,1,8,[.raw .nilFunc]⟩:=by kernel_rfl
theorem k164:tkOf E 164 = some (.other):=by kernel_rfl
theorem τ165:E.τ 165 = some ⟨.other,1,8,[.raw .nilFunc]⟩:=by kernel_rfl
theorem k165:tkOf E 165 = some (.other):=by kernel_rfl
theorem τ166:E.τ 166 = some ⟨.other,1,8,[.raw .nilFunc]⟩:=by kernel_rfl
theorem k166:tkOf E 166 = some (.other):=by kernel_rfl
theorem τ167:E.τ 167 = some ⟨.other,1,8,[.raw .nilFunc]⟩:=by kernel_rfl
theorem k167:tkOf E 167 = some (.other):=by kernel_rfl
theorem τ168:E.τ 168 = some ⟨.other,1,8,[.raw .nilFunc]⟩:=by kernel_rfl
theorem k168:tkOf E 168 = some (.other):=by kernel_rfl
theorem τ169:E.τ 169 = some ⟨.other,1,8,[.raw .nilFunc]⟩:=by kernel_rfl
theorem k169:tkOf E 169 = some (.other):=by kernel_rfl
theorem τ170:E.τ 170 = some ⟨.other,1,8,[.raw .nilFunc]⟩:=by kernel_rfl
theorem k170:tkOf E 170 = some (.other):=by kernel_rfl
theorem τ171:E.τ 171 = some ⟨.other,1,8,[.raw .nilFunc]⟩:=by kernel_rfl
theorem k171:tkOf E 171 = some (.other):=by kernel_rfl
theorem τ172:E.τ 172 = some ⟨.other,1,8,[.raw .nilFunc]⟩:=by kernel_rfl
theorem k172:tkOf E 172 = some (.other):=by kernel_rfl
theorem τ173:E.τ 173 = some ⟨.other,1,0,[]⟩:=by kernel_rfl
theorem k173:tkOf E 173 = some (.other):=by kernel_rfl
theorem τ174:E.τ 174 = some ⟨.other,1,8,[.raw .nilFunc]⟩:=by kernel_rfl
theorem k174:tkOf E 174 = some (.other):=by kernel_rfl
theorem τ175:E.τ 175 = some ⟨.other,1,0,[]⟩:=by kernel_rfl
theorem k175:tkOf E 175 = some (.other):=by kernel_rfl
theorem τ176:E.τ 176 = some ⟨.other,1,8,[.raw .nilFunc]⟩:=by kernel_rfl
theorem k176:tkOf E 176 = some (.other):=by kernel_rfl
theorem τ177:E.τ 177 = some ⟨.other,1,8,[.raw .nilFunc]⟩:=by kernel_rfl
theorem k177:tkOf E 177 = some (.other):=by kernel_rfl
theorem τ178:E.τ 178 = some ⟨.other,1,8,[.raw .nilFunc]⟩:=by kernel_rfl
theorem k178:tkOf E 178 = some (.other):=by kernel_rfl
theorem τ179:E.τ 179 = some ⟨.other,1,8,[.raw .nilFunc]⟩:=by kernel_rfl
theorem k179:tkOf E 179 = some (.other):=by kernel_rfl
theorem τ180:E.τ 180 = some ⟨.struct [(0,2),(1,150)],4,32,[.int .i64 0,.int .i64 0,.int .i64 0,.int .i64 0]⟩:=by kernel_rfl
theorem k180:tkOf E 180 = some (.struct [(0,2),(1,150)]):=by kernel_rfl
theorem τ181:E.τ 181 = some ⟨.struct [(0,2),(1,150)],4,32,[.int .i64 0,.int .i64 0,.int .i64 0,.int .i64 0]⟩:=by kernel_rfl
theorem k181:tkOf E 181 = some (.struct [(0,2),(1,150)]):=by kernel_rfl
theorem τ182:E.τ 182 = some ⟨.other,1,8,[.raw .nilFunc]⟩:=by kernel_rfl
theorem k182:tkOf E 182 = some (.other):=by kernel_rfl
theorem τ183:E.τ 183 = some ⟨.other,1,8,[.raw .nilFunc]⟩:=by kernel_rfl
theorem k183:tkOf E 183 = some (.other):=by kernel_rfl
theorem τ184:E.τ 184 = some ⟨.other,1,8,[.raw .nilFunc]⟩:=by kernel_rfl
theorem k184:tkOf E 184 = some (.other):=by kernel_rfl
theorem τ185:E.τ 185 = some ⟨.other,1,8,[.raw .nilFunc]⟩:=by kernel_rfl
theorem k185:tkOf E 185 = some (.other):=by kernel_rfl
theorem τ186:E.τ 186 = some ⟨.other,1,8,[.raw .nilFunc]⟩:=by kernel_rfl
theorem k186:tkOf E 186 = some (.other):=by kernel_rfl
theorem τ187:E.τ 187 = some ⟨.other,1,8,[.raw .nilFunc]⟩:=by kernel_rfl
theorem k187:tkOf E 187 = some (.other):=by kernel_rfl
theorem τ188:E.τ 188 = some ⟨.slice 150,1,24,[.sl []]⟩:=by kernel_rfl
theorem k188:tkOf E 188 = some (.slice 150):=by kernel_rfl
theorem τ189:E.τ 189 = some ⟨.other,1,8,[.raw .nilFunc]⟩:=by kernel_rfl
theorem k189:tkOf E 189 = some (.other):=by kernel_rfl
theorem τ190:E.τ 190 = some ⟨.other,1,8,[.raw .nilFunc]⟩:=by kernel_rfl
theorem k190:tkOf E 190 = some (.other):=by kernel_rfl
theorem τ191:E.τ 191 = some ⟨.int .u64,1,8,[.int .u64 0]⟩:=by kernel_rfl
theorem k191:tkOf E 191 = some (.int .u64):=by kernel_rfl
theorem τ192:E.τ 192 = some ⟨.other,1,0,[]⟩:=by kernel_rfl
theorem k192:tkOf E 192 = some (.other):=by kernel_rfl
theorem τ193:E.τ 193 = some ⟨.other,1,8,[.raw .nilFunc]⟩:=by kernel_rfl
theorem k193:tkOf E 193 = some (.other):=by kernel_rfl
theorem τ194:E.τ 194 = some ⟨.int .u64,1,8,[.int .u64 0]⟩:=by kernel_rfl
theorem k194:tkOf E 194 = some (.int .u64):=by kernel_rfl
theorem τ195:E.τ 195 = some ⟨.other,1,8,[.raw .nilFunc]⟩:=by kernel_rfl
theorem k195:tkOf E 195 = some (.other):=by kernel_rfl
theorem τ196:E.τ 196 = some ⟨.other,1,0,[]⟩:=by kernel_rfl
theorem k196:tkOf E 196 = some (.other):=by kernel_rfl
theorem τ197:E.τ 197 = some ⟨.other,1,8,[.raw .nilFunc]⟩:=by kernel_rfl
theorem k197:tkOf E 197 = some (.other):=by kernel_rfl
theorem τ198:E.τ 198 = some ⟨.other,1,8,[.raw .nilFunc]⟩:=by kernel_rfl
theorem k198:tkOf E 198 = some (.other):=by kernel_rfl
theorem τ199:E.τ 199 = some ⟨.other,1,0,[]⟩:=by kernel_rfl
theorem k199:tkOf E 199 = some (.other):=by kernel_rfl
theorem τ200:E.τ 200 = some ⟨.other,1,8,[.raw .nilFunc]⟩:=by kernel_rfl
theorem k200:tkOf E 200 = some (.other):=by kernel_rfl
theorem τ201:E.τ 201 = some ⟨.other,1,8,[.raw .nilFunc]⟩:=by kernel_rfl
theorem k201:tkOf E 201 = some (.other):=by kernel_rfl
theorem τ202:E.τ 202 = some ⟨.other,1,8,[.raw .nilFunc]⟩:=by kernel_rfl
theorem k202:tkOf E 202 = some (.other):=by kernel_rfl
theorem τ203:E.τ 203 = some ⟨.struct [(0,17),(1,17),(2,17),(3,9)],4,40,[.raw (.pointer none),.raw (.pointer none),.raw (.pointer none),.str ⟨#[]⟩]⟩:=by kernel_rfl
theorem k203:tkOf E 203 = some (.struct [(0,17),(1,17),(2,17),(3,9)]):=by kernel_rfl
theorem τ204:E.τ 204 = some ⟨.struct [(0,17),(1,17),(2,17),(3,9)],4,40,[.raw (.pointer none),.raw (.pointer none),.raw (.pointer none),.str ⟨#[]⟩]⟩:=by kernel_rfl
theorem k204:tkOf E 204 = some (.struct [(0,17),(1,17),(2,17),(3,9)]):=by kernel_rfl
theorem τ205:E.τ 205 = some ⟨.arr 0 16,0,0,[]⟩:=by kernel_rfl
theorem k205:tkOf E 205 = some (.arr 0 16):=by kernel_rfl
theorem τ206:E.τ 206 = some ⟨.struct [(0,205)],0,0,[]⟩:=by kernel_rfl
theorem k206:tkOf E 206 = some (.struct [(0,205)]):=by kernel_rfl
theorem τ207:E.τ 207 = some ⟨.struct [(0,205)],0,0,[]⟩:=by kernel_rfl
theorem k207:tkOf E 207 = some (.struct [(0,205)]):=by kernel_rfl
theorem τ208:E.τ 208 = some ⟨.other,1,8,[.raw .nilFunc]⟩:=by kernel_rfl
theorem k208:tkOf E 208 = some (.other):=by kernel_rfl
theorem τ209:E.τ 209 = some ⟨.int .u32,1,4,[.int .u32 0]⟩:=by kernel_rfl
theorem k209:tkOf E 209 = some (.int .u32):=by kernel_rfl
theorem τ210:E.τ 210 = some ⟨.int .u8,1,1,[.int .u8 0]⟩:=by kernel_rfl
theorem k210:tkOf E 210 = some (.int .u8):=by kernel_rfl
theorem τ211:E.τ 211 = some ⟨.int .u8,1,1,[.int .u8 0]⟩:=by kernel_rfl
theorem k211:tkOf E 211 = some (.int .u8):=by kernel_rfl
theorem τ212:E.τ 212 = some ⟨.other,1,8,[.raw .nilFunc]⟩:=by kernel_rfl
theorem k212:tkOf E 212 = some (.other):=by kernel_rfl
theorem τ213:E.τ 213 = some ⟨.ptr 5,1,8,[.raw (.pointer none)]⟩:=by kernel_rfl
theorem k213:tkOf E 213 = some (.ptr 5):=by kernel_rfl
theorem τ214:E.τ 214 = some ⟨.int .i32,1,4,[.int .i32 0]⟩:=by kernel_rfl
theorem k214:tkOf E 214 = some (.int .i32):=by kernel_rfl
theorem τ215:E.τ 215 = some ⟨.int .i32,1,4,[.int .i32 0]⟩:=by kernel_rfl
theorem k215:tkOf E 215 = some (.int .i32):=by kernel_rfl
theorem τ216:E.τ 216 = some ⟨.struct [(0,12),(1,12),(2,209),(3,210),(4,5),(5,5),(6,211),(7,212),(8,213),(9,214),(10,215)],11,48,[.int .u64 0,.int .u64 0,.int .u32 0,.int .u8 0,.int .u8 0,.int .u8 0,.int .u8 0,.raw .nilFunc,.raw (.pointer none),.int .i32 0,.int .i32 0]⟩:=by kernel_rfl
theorem k216:tkOf E 216 = some (.struct [(0,12),(1,12),(2,209),(3,210),(4,5),(5,5),(6,211),(7,212),(8,213),(9,214),(10,215)]):=by kernel_rfl
theorem τ217:E.τ 217 = some ⟨.struct [(0,12),(1,12),(2,209),(3,210),(4,5),(5,5),(6,211),(7,212),(8,213),(9,214),(10,215)],11,48,[.int .u64 0,.int .u64 0,.int .u32 0,.int .u8 0,.int .u8 0,.int .u8 0,.int .u8 0,.raw .nilFunc,.raw (.pointer none),.int .i32 0,.int .i32 0]⟩:=by kernel_rfl
theorem k217:tkOf E 217 = some (.struct [(0,12),(1,12),(2,209),(3,210),(4,5),(5,5),(6,211),(7,212),(8,213),(9,214),(10,215)]):=by kernel_rfl
theorem τ218:E.τ 218 = some ⟨.other,1,8,[.raw .nilFunc]⟩:=by kernel_rfl
theorem k218:tkOf E 218 = some (.other):=by kernel_rfl
theorem τ219:E.τ 219 = some ⟨.other,1,8,[.raw (.pointer none)]⟩:=by kernel_rfl
theorem k219:tkOf E 219 = some (.other):=by kernel_rfl
theorem e36:cmpB E.P 36 = true:=by kernel_rfl
theorem g36:cmpTop E.P 36 = true:=by kernel_rfl
theorem e38:cmpB E.P 38 = true:=by kernel_rfl
theorem g38:cmpTop E.P 38 = true:=by kernel_rfl
theorem e40:cmpB E.P 40 = true:=by kernel_rfl
theorem g40:cmpTop E.P 40 = true:=by kernel_rfl
theorem e42:cmpB E.P 42 = true:=by kernel_rfl
theorem g42:cmpTop E.P 42 = true:=by kernel_rfl
theorem e67:cmpB E.P 67 = true:=by kernel_rfl
theorem g67:cmpTop E.P 67 = true:=by kernel_rfl
theorem e86:cmpB E.P 86 = true:=by kernel_rfl
theorem g86:cmpTop E.P 86 = true:=by kernel_rfl
theorem e107:cmpB E.P 107 = true:=by kernel_rfl
theorem g107:cmpTop E.P 107 = true:=by kernel_rfl
theorem e150:cmpB E.P 150 = true:=by kernel_rfl
theorem g150:cmpTop E.P 150 = true:=by kernel_rfl
theorem e152:cmpB E.P 152 = true:=by kernel_rfl
theorem g152:cmpTop E.P 152 = true:=by kernel_rfl
theorem e154:cmpB E.P 154 = true:=by kernel_rfl
theorem g154:cmpTop E.P 154 = true:=by kernel_rfl
theorem e181:cmpB E.P 181 = true:=by kernel_rfl
theorem g181:cmpTop E.P 181 = true:=by kernel_rfl
attribute [simp] τ0 k0 τ1 k1 τ2 k2 τ3 k3 τ4 k4 τ5 k5 τ6 k6 τ7 k7 τ8 k8 τ9 k9 τ10 k10 τ11 k11 τ12 k12 τ13 k13 τ14 k14 τ15 k15 τ16 k16 τ17 k17 τ18 k18 τ19 k19 τ20 k20 τ21 k21 τ22 k22 τ23 k23 τ24 k24 τ25 k25 τ26 k26 τ27 k27 τ28 k28 τ29 k29 τ30 k30 τ31 k31 τ32 k32 τ33 k33 τ34 k34 τ35 k35 τ36 k36 τ37 k37 τ38 k38 τ39 k39 τ40 k40 τ41 k41 τ42 k42 τ43 k43 τ44 k44 τ45 k45 τ46 k46 τ47 k47 τ48 k48 τ49 k49 τ50 k50 τ51 k51 τ52 k52 τ53 k53 τ54 k54 τ55 k55 τ56 k56 τ57 k57 τ58 k58 τ59 k59 τ60 k60 τ61 k61 τ62 k62 τ63 k63 τ64 k64 τ65 k65 τ66 k66 τ67 k67 τ68 k68 τ69 k69 τ70 k70 τ71 k71 τ72 k72 τ73 k73 τ74 k74 τ75 k75 τ76 k76 τ77 k77 τ78 k78 τ79 k79 τ80 k80 τ81 k81 τ82 k82 τ83 k83 τ84 k84 τ85 k85 τ86 k86 τ87 k87 τ88 k88 τ89 k89 τ90 k90 τ91 k91 τ92 k92 τ93 k93 τ94 k94 τ95 k95 τ96 k96 τ97 k97 τ98 k98 τ99 k99 τ100 k100 τ101 k101 τ102 k102 τ103 k103 τ104 k104 τ105 k105 τ106 k106 τ107 k107 τ108 k108 τ109 k109 τ110 k110 τ111 k111 τ112 k112 τ113 k113 τ114 k114 τ115 k115 τ116 k116 τ117 k117 τ118 k118 τ119 k119 τ120 k120 τ121 k121 τ122 k122 τ123 k123 τ124 k124 τ125 k125 τ126 k126 τ127 k127 τ128 k128 τ129 k129 τ130 k130 τ131 k131 τ132 k132 τ133 k133 τ134 k134 τ135 k135 τ136 k136 τ137 k137 τ138 k138 τ139 k139 τ140 k140 τ141 k141 τ142 k142 τ143 k143 τ144 k144 τ145 k145 τ146 k146 τ147 k147 τ148 k148 τ149 k149 τ150 k150 τ151 k151 τ152 k152 τ153 k153 τ154 k154 τ155 k155 τ156 k156 τ157 k157 τ158 k158 τ159 k159 τ160 k160 τ161 k161 τ162 k162 τ163 k163 τ164 k164 τ165 k165 τ166 k166 τ167 k167 τ168 k168 τ169 k169 τ170 k170 τ171 k171 τ172 k172 τ173 k173 τ174 k174 τ175 k175 τ176 k176 τ177 k177 τ178 k178 τ179 k179 τ180 k180 τ181 k181 τ182 k182 τ183 k183 τ184 k184 τ185 k185 τ186 k186 τ187 k187 τ188 k188 τ189 k189 τ190 k190 τ191 k191 τ192 k192 τ193 k193 τ194 k194 τ195 k195 τ196 k196 τ197 k197 τ198 k198 τ199 k199 τ200 k200 τ201 k201 τ202 k202 τ203 k203 τ204 k204 τ205 k205 τ206 k206 τ207 k207 τ208 k208 τ209 k209 τ210 k210 τ211 k211 τ212 k212 τ213 k213 τ214 k214 τ215 k215 τ216 k216 τ217 k217 τ218 k218 τ219 k219
attribute [simp] e36 g36 e38 g38 e40 g40 e42 g42 e67 g67 e86 g86 e107 g107 e150 g150 e152 g152 e154 g154 e181 g181
end Go.Vai
