/- The table of the types of this seat's program, checked against the program. Written by a program of this repo. -/
import Derived.Test.YtgojpkfmdhohhaaGreatDoorZv17
import Derived.Test.YtgojpkfmdhohhaaGreatDoorProg
set_option linter.unusedVariables false
namespace Go.Vai
def tys : List (Nat × TyI) := [
  (0, ⟨.other, 1, 0, []⟩),
  (1, ⟨.other, 1, 8, [.raw .nilFunc]⟩),
  (2, ⟨.int .i64, 1, 8, [.int .i64 0]⟩),
  (3, ⟨.int .i64, 1, 8, [.int .i64 0]⟩),
  (4, ⟨.bool, 1, 1, [.bool false]⟩),
  (5, ⟨.int .u8, 1, 1, [.int .u8 0]⟩),
  (6, ⟨.int .u8, 1, 1, [.int .u8 0]⟩),
  (7, ⟨.struct [(0, 2), (1, 3), (2, 4), (3, 6)], 4, 24, [.int .i64 0, .int .i64 0, .bool false, .int .u8 0]⟩),
  (8, ⟨.struct [(0, 2), (1, 3), (2, 4), (3, 6)], 4, 24, [.int .i64 0, .int .i64 0, .bool false, .int .u8 0]⟩),
  (9, ⟨.string, 1, 16, [.str ⟨#[]⟩]⟩),
  (10, ⟨.string, 1, 16, [.str ⟨#[]⟩]⟩),
  (11, ⟨.string, 1, 16, [.str ⟨#[]⟩]⟩),
  (12, ⟨.int .u64, 1, 8, [.int .u64 0]⟩),
  (13, ⟨.struct [(0, 9), (1, 12)], 2, 24, [.str ⟨#[]⟩, .int .u64 0]⟩),
  (14, ⟨.struct [(0, 9), (1, 12)], 2, 24, [.str ⟨#[]⟩, .int .u64 0]⟩),
  (15, ⟨.ptr 141, 1, 8, [.raw (.pointer none)]⟩),
  (16, ⟨.ptr 144, 1, 8, [.raw (.pointer none)]⟩),
  (17, ⟨.ptr 154, 1, 8, [.raw (.pointer none)]⟩),
  (18, ⟨.struct [(0, 17)], 1, 8, [.raw (.pointer none)]⟩),
  (19, ⟨.struct [(0, 17)], 1, 8, [.raw (.pointer none)]⟩),
  (20, ⟨.other, 1, 16, [.raw .nilIface]⟩),
  (21, ⟨.int .i32, 1, 4, [.int .i32 0]⟩),
  (22, ⟨.slice 40, 1, 24, [.sl []]⟩),
  (23, ⟨.other, 1, 8, [.raw .nilFunc]⟩),
  (24, ⟨.slice 47, 1, 24, [.sl []]⟩),
  (25, ⟨.other, 1, 0, []⟩),
  (26, ⟨.other, 1, 8, [.raw .nilFunc]⟩),
  (27, ⟨.slice 43, 1, 24, [.sl []]⟩),
  (28, ⟨.other, 1, 8, [.raw .nilFunc]⟩),
  (29, ⟨.other, 1, 8, [.raw .nilFunc]⟩),
  (30, ⟨.other, 1, 8, [.raw .nilFunc]⟩),
  (31, ⟨.other, 1, 8, [.raw .nilFunc]⟩),
  (32, ⟨.other, 1, 8, [.raw .nilFunc]⟩),
  (33, ⟨.other, 1, 8, [.raw .nilFunc]⟩),
  (34, ⟨.slice 54, 1, 24, [.sl []]⟩),
  (35, ⟨.other, 1, 0, []⟩),
  (36, ⟨.other, 1, 8, [.raw .nilFunc]⟩),
  (37, ⟨.other, 1, 8, [.raw .nilFunc]⟩),
  (38, ⟨.other, 1, 8, [.raw .nilFunc]⟩),
  (39, ⟨.other, 1, 8, [.raw .nilFunc]⟩),
  (40, ⟨.slice 64, 1, 24, [.sl []]⟩),
  (41, ⟨.other, 1, 8, [.raw .nilFunc]⟩),
  (42, ⟨.other, 1, 8, [.raw .nilFunc]⟩),
  (43, ⟨.slice 60, 1, 24, [.sl []]⟩),
  (44, ⟨.other, 1, 8, [.raw .nilFunc]⟩),
  (45, ⟨.other, 1, 8, [.raw .nilFunc]⟩),
  (46, ⟨.struct [(0, 2), (1, 2)], 2, 16, [.int .i64 0, .int .i64 0]⟩),
  (47, ⟨.struct [(0, 2), (1, 2)], 2, 16, [.int .i64 0, .int .i64 0]⟩),
  (48, ⟨.other, 1, 8, [.raw .nilFunc]⟩),
  (49, ⟨.other, 1, 8, [.raw .nilFunc]⟩),
  (50, ⟨.other, 1, 8, [.raw .nilFunc]⟩),
  (51, ⟨.other, 1, 8, [.raw .nilFunc]⟩),
  (52, ⟨.other, 1, 8, [.raw .nilFunc]⟩),
  (53, ⟨.struct [(0, 2), (1, 2), (2, 2)], 3, 24, [.int .i64 0, .int .i64 0, .int .i64 0]⟩),
  (54, ⟨.struct [(0, 2), (1, 2), (2, 2)], 3, 24, [.int .i64 0, .int .i64 0, .int .i64 0]⟩),
  (55, ⟨.other, 1, 8, [.raw .nilFunc]⟩),
  (56, ⟨.other, 1, 8, [.raw .nilFunc]⟩),
  (57, ⟨.struct [(0, 2), (1, 2), (2, 2)], 3, 24, [.int .i64 0, .int .i64 0, .int .i64 0]⟩),
  (58, ⟨.struct [(0, 2), (1, 2), (2, 2)], 3, 24, [.int .i64 0, .int .i64 0, .int .i64 0]⟩),
  (59, ⟨.struct [(0, 58), (3, 58)], 6, 48, [.int .i64 0, .int .i64 0, .int .i64 0, .int .i64 0, .int .i64 0, .int .i64 0]⟩),
  (60, ⟨.struct [(0, 58), (3, 58)], 6, 48, [.int .i64 0, .int .i64 0, .int .i64 0, .int .i64 0, .int .i64 0, .int .i64 0]⟩),
  (61, ⟨.other, 1, 8, [.raw .nilFunc]⟩),
  (62, ⟨.struct [(0, 2), (1, 2), (2, 2)], 3, 24, [.int .i64 0, .int .i64 0, .int .i64 0]⟩),
  (63, ⟨.struct [(0, 62), (3, 62)], 6, 48, [.int .i64 0, .int .i64 0, .int .i64 0, .int .i64 0, .int .i64 0, .int .i64 0]⟩),
  (64, ⟨.struct [(0, 62), (3, 62)], 6, 48, [.int .i64 0, .int .i64 0, .int .i64 0, .int .i64 0, .int .i64 0, .int .i64 0]⟩),
  (65, ⟨.other, 1, 8, [.raw .nilFunc]⟩),
  (66, ⟨.other, 1, 8, [.raw .nilFunc]⟩),
  (67, ⟨.other, 1, 8, [.raw .nilFunc]⟩),
  (68, ⟨.other, 1, 8, [.raw .nilFunc]⟩),
  (69, ⟨.slice 89, 1, 24, [.sl []]⟩),
  (70, ⟨.other, 1, 8, [.raw .nilFunc]⟩),
  (71, ⟨.other, 1, 8, [.raw .nilFunc]⟩),
  (72, ⟨.other, 1, 8, [.raw .nilFunc]⟩),
  (73, ⟨.other, 1, 8, [.raw .nilFunc]⟩),
  (74, ⟨.other, 1, 8, [.raw .nilFunc]⟩),
  (75, ⟨.other, 1, 8, [.raw .nilFunc]⟩),
  (76, ⟨.slice 2, 1, 24, [.sl []]⟩),
  (77, ⟨.other, 1, 0, []⟩),
  (78, ⟨.other, 1, 8, [.raw .nilFunc]⟩),
  (79, ⟨.other, 1, 8, [.raw .nilFunc]⟩),
  (80, ⟨.other, 1, 8, [.raw .nilFunc]⟩),
  (81, ⟨.other, 1, 8, [.raw .nilFunc]⟩),
  (82, ⟨.other, 1, 8, [.raw .nilFunc]⟩),
  (83, ⟨.other, 1, 8, [.raw .nilFunc]⟩),
  (84, ⟨.other, 1, 8, [.raw .nilFunc]⟩),
  (85, ⟨.other, 1, 8, [.raw .nilFunc]⟩),
  (86, ⟨.struct [(0, 2), (1, 2), (2, 2)], 3, 24, [.int .i64 0, .int .i64 0, .int .i64 0]⟩),
  (87, ⟨.struct [(0, 2), (1, 2), (2, 2)], 3, 24, [.int .i64 0, .int .i64 0, .int .i64 0]⟩),
  (88, ⟨.struct [(0, 87), (3, 87)], 6, 48, [.int .i64 0, .int .i64 0, .int .i64 0, .int .i64 0, .int .i64 0, .int .i64 0]⟩),
  (89, ⟨.struct [(0, 87), (3, 87)], 6, 48, [.int .i64 0, .int .i64 0, .int .i64 0, .int .i64 0, .int .i64 0, .int .i64 0]⟩),
  (90, ⟨.other, 1, 8, [.raw .nilFunc]⟩),
  (91, ⟨.other, 1, 8, [.raw .nilFunc]⟩),
  (92, ⟨.struct [(0, 2), (1, 87)], 4, 32, [.int .i64 0, .int .i64 0, .int .i64 0, .int .i64 0]⟩),
  (93, ⟨.struct [(0, 2), (1, 87)], 4, 32, [.int .i64 0, .int .i64 0, .int .i64 0, .int .i64 0]⟩),
  (94, ⟨.other, 1, 8, [.raw .nilFunc]⟩),
  (95, ⟨.other, 1, 8, [.raw .nilFunc]⟩),
  (96, ⟨.struct [(0, 2), (1, 58)], 4, 32, [.int .i64 0, .int .i64 0, .int .i64 0, .int .i64 0]⟩),
  (97, ⟨.struct [(0, 2), (1, 58)], 4, 32, [.int .i64 0, .int .i64 0, .int .i64 0, .int .i64 0]⟩),
  (98, ⟨.other, 1, 0, []⟩),
  (99, ⟨.other, 1, 8, [.raw .nilFunc]⟩),
  (100, ⟨.other, 1, 8, [.raw .nilFunc]⟩),
  (101, ⟨.other, 1, 8, [.raw .nilFunc]⟩),
  (102, ⟨.other, 1, 8, [.raw .nilFunc]⟩),
  (103, ⟨.other, 1, 8, [.raw .nilFunc]⟩),
  (104, ⟨.other, 1, 8, [.raw .nilFunc]⟩),
  (105, ⟨.other, 1, 8, [.raw .nilFunc]⟩),
  (106, ⟨.other, 1, 8, [.raw .nilFunc]⟩),
  (107, ⟨.other, 1, 8, [.raw .nilFunc]⟩),
  (108, ⟨.other, 1, 8, [.raw .nilFunc]⟩),
  (109, ⟨.other, 1, 8, [.raw .nilFunc]⟩),
  (110, ⟨.other, 1, 8, [.raw .nilFunc]⟩),
  (111, ⟨.other, 1, 8, [.raw .nilFunc]⟩),
  (112, ⟨.other, 1, 8, [.raw .nilFunc]⟩),
  (113, ⟨.other, 1, 8, [.raw .nilFunc]⟩),
  (114, ⟨.other, 1, 0, []⟩),
  (115, ⟨.other, 1, 8, [.raw .nilFunc]⟩),
  (116, ⟨.other, 1, 8, [.raw .nilFunc]⟩),
  (117, ⟨.other, 1, 8, [.raw .nilFunc]⟩),
  (118, ⟨.other, 1, 8, [.raw .nilFunc]⟩),
  (119, ⟨.other, 1, 8, [.raw .nilFunc]⟩),
  (120, ⟨.other, 1, 8, [.raw .nilFunc]⟩),
  (121, ⟨.other, 1, 8, [.raw .nilFunc]⟩),
  (122, ⟨.other, 1, 8, [.raw .nilFunc]⟩),
  (123, ⟨.other, 1, 8, [.raw .nilFunc]⟩),
  (124, ⟨.other, 1, 8, [.raw .nilFunc]⟩),
  (125, ⟨.other, 1, 0, []⟩),
  (126, ⟨.other, 1, 8, [.raw .nilFunc]⟩),
  (127, ⟨.other, 1, 8, [.raw .nilFunc]⟩),
  (128, ⟨.other, 1, 8, [.raw .nilFunc]⟩),
  (129, ⟨.other, 1, 0, []⟩),
  (130, ⟨.other, 1, 8, [.raw .nilFunc]⟩),
  (131, ⟨.other, 1, 8, [.raw .nilFunc]⟩),
  (132, ⟨.arr 8 60, 48, 384, [.int .i64 0, .int .i64 0, .int .i64 0, .int .i64 0, .int .i64 0, .int .i64 0, .int .i64 0, .int .i64 0, .int .i64 0, .int .i64 0, .int .i64 0, .int .i64 0, .int .i64 0, .int .i64 0, .int .i64 0, .int .i64 0, .int .i64 0, .int .i64 0, .int .i64 0, .int .i64 0, .int .i64 0, .int .i64 0, .int .i64 0, .int .i64 0, .int .i64 0, .int .i64 0, .int .i64 0, .int .i64 0, .int .i64 0, .int .i64 0, .int .i64 0, .int .i64 0, .int .i64 0, .int .i64 0, .int .i64 0, .int .i64 0, .int .i64 0, .int .i64 0, .int .i64 0, .int .i64 0, .int .i64 0, .int .i64 0, .int .i64 0, .int .i64 0, .int .i64 0, .int .i64 0, .int .i64 0, .int .i64 0]⟩),
  (133, ⟨.other, 1, 8, [.raw .nilFunc]⟩),
  (134, ⟨.int .u64, 1, 8, [.int .u64 0]⟩),
  (135, ⟨.other, 1, 0, []⟩),
  (136, ⟨.other, 1, 8, [.raw .nilFunc]⟩),
  (137, ⟨.int .u64, 1, 8, [.int .u64 0]⟩),
  (138, ⟨.other, 1, 8, [.raw .nilFunc]⟩),
  (139, ⟨.other, 1, 8, [.raw .nilFunc]⟩),
  (140, ⟨.struct [(0, 17), (1, 17), (2, 17), (3, 9)], 4, 40, [.raw (.pointer none), .raw (.pointer none), .raw (.pointer none), .str ⟨#[]⟩]⟩),
  (141, ⟨.struct [(0, 17), (1, 17), (2, 17), (3, 9)], 4, 40, [.raw (.pointer none), .raw (.pointer none), .raw (.pointer none), .str ⟨#[]⟩]⟩),
  (142, ⟨.arr 0 16, 0, 0, []⟩),
  (143, ⟨.struct [(0, 142)], 0, 0, []⟩),
  (144, ⟨.struct [(0, 142)], 0, 0, []⟩),
  (145, ⟨.other, 1, 8, [.raw .nilFunc]⟩),
  (146, ⟨.int .u32, 1, 4, [.int .u32 0]⟩),
  (147, ⟨.int .u8, 1, 1, [.int .u8 0]⟩),
  (148, ⟨.int .u8, 1, 1, [.int .u8 0]⟩),
  (149, ⟨.other, 1, 8, [.raw .nilFunc]⟩),
  (150, ⟨.ptr 5, 1, 8, [.raw (.pointer none)]⟩),
  (151, ⟨.int .i32, 1, 4, [.int .i32 0]⟩),
  (152, ⟨.int .i32, 1, 4, [.int .i32 0]⟩),
  (153, ⟨.struct [(0, 12), (1, 12), (2, 146), (3, 147), (4, 5), (5, 5), (6, 148), (7, 149), (8, 150), (9, 151), (10, 152)], 11, 48, [.int .u64 0, .int .u64 0, .int .u32 0, .int .u8 0, .int .u8 0, .int .u8 0, .int .u8 0, .raw .nilFunc, .raw (.pointer none), .int .i32 0, .int .i32 0]⟩),
  (154, ⟨.struct [(0, 12), (1, 12), (2, 146), (3, 147), (4, 5), (5, 5), (6, 148), (7, 149), (8, 150), (9, 151), (10, 152)], 11, 48, [.int .u64 0, .int .u64 0, .int .u32 0, .int .u8 0, .int .u8 0, .int .u8 0, .int .u8 0, .raw .nilFunc, .raw (.pointer none), .int .i32 0, .int .i32 0]⟩),
  (155, ⟨.other, 1, 8, [.raw .nilFunc]⟩),
  (156, ⟨.other, 1, 8, [.raw (.pointer none)]⟩)]
def gv0 : List IV := [.int .i64 1, .int .i64 0, .int .i64 0, .int .i64 0, .int .i64 0, .int .i64 0, .int .i64 1, .int .i64 0, .int .i64 0, .int .i64 (-1), .int .i64 1, .int .i64 0, .int .i64 1, .int .i64 0, .int .i64 0, .int .i64 1, .int .i64 0, .int .i64 0, .int .i64 (-1), .int .i64 1, .int .i64 0, .int .i64 1, .int .i64 0, .int .i64 0, .int .i64 0, .int .i64 0, .int .i64 0, .int .i64 1, .int .i64 0, .int .i64 0, .int .i64 1, .int .i64 (-1), .int .i64 0, .int .i64 1, .int .i64 0, .int .i64 0, .int .i64 (-1), .int .i64 0, .int .i64 0, .int .i64 1, .int .i64 0, .int .i64 0, .int .i64 (-1), .int .i64 0, .int .i64 0, .int .i64 (-1), .int .i64 1, .int .i64 0]
def muts : List Nat := [11, 12, 17, 27]
noncomputable def E : Env := ⟨Proofs.Tryz.prog, look tys, [(0, gv0)], muts, [103]⟩
theorem EM : E.M = [11, 12, 17, 27] := rfl
theorem EN : E.N = [103] := rfl
attribute [simp] EM EN
theorem EG : E.G = [(0, gv0)] := rfl
attribute [simp] EG
theorem tys_ok : tysOk Proofs.Tryz.prog tys = true := by kernel_rfl
theorem hE : E.Ok := ⟨fun t i h => tysOk_spec tys_ok t i h, by kernel_rfl⟩
theorem τ0 : E.τ 0 = some ⟨.other, 1, 0, []⟩ := by kernel_rfl
theorem k0 : tkOf E 0 = some (.other) := by kernel_rfl
theorem τ1 : E.τ 1 = some ⟨.other, 1, 8, [.raw .nilFunc]⟩ := by kernel_rfl
theorem k1 : tkOf E 1 = some (.other) := by kernel_rfl
theorem τ2 : E.τ 2 = some ⟨.int .i64, 1, 8, [.int .i64 0]⟩ := by kernel_rfl
theorem k2 : tkOf E 2 = some (.int .i64) := by kernel_rfl
theorem τ3 : E.τ 3 = some ⟨.int .i64, 1, 8, [.int .i64 0]⟩ := by kernel_rfl
theorem k3 : tkOf E 3 = some (.int .i64) := by kernel_rfl
theorem τ4 : E.τ 4 = some ⟨.bool, 1, 1, [.bool false]⟩ := by kernel_rfl
theorem k4 : tkOf E 4 = some (.bool) := by kernel_rfl
theorem τ5 : E.τ 5 = some ⟨.int .u8, 1, 1, [.int .u8 0]⟩ := by kernel_rfl
theorem k5 : tkOf E 5 = some (.int .u8) := by kernel_rfl
theorem τ6 : E.τ 6 = some ⟨.int .u8, 1, 1, [.int .u8 0]⟩ := by kernel_rfl
theorem k6 : tkOf E 6 = some (.int .u8) := by kernel_rfl
theorem τ7 : E.τ 7 = some ⟨.struct [(0, 2), (1, 3), (2, 4), (3, 6)], 4, 24, [.int .i64 0, .int .i64 0, .bool false, .int .u8 0]⟩ := by kernel_rfl
theorem k7 : tkOf E 7 = some (.struct [(0, 2), (1, 3), (2, 4), (3, 6)]) := by kernel_rfl
theorem τ8 : E.τ 8 = some ⟨.struct [(0, 2), (1, 3), (2, 4), (3, 6)], 4, 24, [.int .i64 0, .int .i64 0, .bool false, .int .u8 0]⟩ := by kernel_rfl
theorem k8 : tkOf E 8 = some (.struct [(0, 2), (1, 3), (2, 4), (3, 6)]) := by kernel_rfl
theorem τ9 : E.τ 9 = some ⟨.string, 1, 16, [.str ⟨#[]⟩]⟩ := by kernel_rfl
theorem k9 : tkOf E 9 = some (.string) := by kernel_rfl
theorem τ10 : E.τ 10 = some ⟨.string, 1, 16, [.str ⟨#[]⟩]⟩ := by kernel_rfl
theorem k10 : tkOf E 10 = some (.string) := by kernel_rfl
theorem τ11 : E.τ 11 = some ⟨.string, 1, 16, [.str ⟨#[]⟩]⟩ := by kernel_rfl
theorem k11 : tkOf E 11 = some (.string) := by kernel_rfl
theorem τ12 : E.τ 12 = some ⟨.int .u64, 1, 8, [.int .u64 0]⟩ := by kernel_rfl
theorem k12 : tkOf E 12 = some (.int .u64) := by kernel_rfl
theorem τ13 : E.τ 13 = some ⟨.struct [(0, 9), (1, 12)], 2, 24, [.str ⟨#[]⟩, .int .u64 0]⟩ := by kernel_rfl
theorem k13 : tkOf E 13 = some (.struct [(0, 9), (1, 12)]) := by kernel_rfl
theorem τ14 : E.τ 14 = some ⟨.struct [(0, 9), (1, 12)], 2, 24, [.str ⟨#[]⟩, .int .u64 0]⟩ := by kernel_rfl
theorem k14 : tkOf E 14 = some (.struct [(0, 9), (1, 12)]) := by kernel_rfl
theorem τ15 : E.τ 15 = some ⟨.ptr 141, 1, 8, [.raw (.pointer none)]⟩ := by kernel_rfl
theorem k15 : tkOf E 15 = some (.ptr 141) := by kernel_rfl
theorem τ16 : E.τ 16 = some ⟨.ptr 144, 1, 8, [.raw (.pointer none)]⟩ := by kernel_rfl
theorem k16 : tkOf E 16 = some (.ptr 144) := by kernel_rfl
theorem τ17 : E.τ 17 = some ⟨.ptr 154, 1, 8, [.raw (.pointer none)]⟩ := by kernel_rfl
theorem k17 : tkOf E 17 = some (.ptr 154) := by kernel_rfl
theorem τ18 : E.τ 18 = some ⟨.struct [(0, 17)], 1, 8, [.raw (.pointer none)]⟩ := by kernel_rfl
theorem k18 : tkOf E 18 = some (.struct [(0, 17)]) := by kernel_rfl
theorem τ19 : E.τ 19 = some ⟨.struct [(0, 17)], 1, 8, [.raw (.pointer none)]⟩ := by kernel_rfl
theorem k19 : tkOf E 19 = some (.struct [(0, 17)]) := by kernel_rfl
theorem τ20 : E.τ 20 = some ⟨.other, 1, 16, [.raw .nilIface]⟩ := by kernel_rfl
theorem k20 : tkOf E 20 = some (.other) := by kernel_rfl
theorem τ21 : E.τ 21 = some ⟨.int .i32, 1, 4, [.int .i32 0]⟩ := by kernel_rfl
theorem k21 : tkOf E 21 = some (.int .i32) := by kernel_rfl
theorem τ22 : E.τ 22 = some ⟨.slice 40, 1, 24, [.sl []]⟩ := by kernel_rfl
theorem k22 : tkOf E 22 = some (.slice 40) := by kernel_rfl
theorem τ23 : E.τ 23 = some ⟨.other, 1, 8, [.raw .nilFunc]⟩ := by kernel_rfl
theorem k23 : tkOf E 23 = some (.other) := by kernel_rfl
theorem τ24 : E.τ 24 = some ⟨.slice 47, 1, 24, [.sl []]⟩ := by kernel_rfl
theorem k24 : tkOf E 24 = some (.slice 47) := by kernel_rfl
theorem τ25 : E.τ 25 = some ⟨.other, 1, 0, []⟩ := by kernel_rfl
theorem k25 : tkOf E 25 = some (.other) := by kernel_rfl
theorem τ26 : E.τ 26 = some ⟨.other, 1, 8, [.raw .nilFunc]⟩ := by kernel_rfl
theorem k26 : tkOf E 26 = some (.other) := by kernel_rfl
theorem τ27 : E.τ 27 = some ⟨.slice 43, 1, 24, [.sl []]⟩ := by kernel_rfl
theorem k27 : tkOf E 27 = some (.slice 43) := by kernel_rfl
theorem τ28 : E.τ 28 = some ⟨.other, 1, 8, [.raw .nilFunc]⟩ := by kernel_rfl
theorem k28 : tkOf E 28 = some (.other) := by kernel_rfl
theorem τ29 : E.τ 29 = some ⟨.other, 1, 8, [.raw .nilFunc]⟩ := by kernel_rfl
theorem k29 : tkOf E 29 = some (.other) := by kernel_rfl
theorem τ30 : E.τ 30 = some ⟨.other, 1, 8, [.raw .nilFunc]⟩ := by kernel_rfl
theorem k30 : tkOf E 30 = some (.other) := by kernel_rfl
theorem τ31 : E.τ 31 = some ⟨.other, 1, 8, [.raw .nilFunc]⟩ := by kernel_rfl
theorem k31 : tkOf E 31 = some (.other) := by kernel_rfl
theorem τ32 : E.τ 32 = some ⟨.other, 1, 8, [.raw .nilFunc]⟩ := by kernel_rfl
theorem k32 : tkOf E 32 = some (.other) := by kernel_rfl
theorem τ33 : E.τ 33 = some ⟨.other, 1, 8, [.raw .nilFunc]⟩ := by kernel_rfl
theorem k33 : tkOf E 33 = some (.other) := by kernel_rfl
theorem τ34 : E.τ 34 = some ⟨.slice 54, 1, 24, [.sl []]⟩ := by kernel_rfl
theorem k34 : tkOf E 34 = some (.slice 54) := by kernel_rfl
theorem τ35 : E.τ 35 = some ⟨.other, 1, 0, []⟩ := by kernel_rfl
theorem k35 : tkOf E 35 = some (.other) := by kernel_rfl
theorem τ36 : E.τ 36 = some ⟨.other, 1, 8, [.raw .nilFunc]⟩ := by kernel_rfl
theorem k36 : tkOf E 36 = some (.other) := by kernel_rfl
theorem τ37 : E.τ 37 = some ⟨.other, 1, 8, [.raw .nilFunc]⟩ := by kernel_rfl
theorem k37 : tkOf E 37 = some (.other) := by kernel_rfl
theorem τ38 : E.τ 38 = some ⟨.other, 1, 8, [.raw .nilFunc]⟩ := by kernel_rfl
theorem k38 : tkOf E 38 = some (.other) := by kernel_rfl
theorem τ39 : E.τ 39 = some ⟨.other, 1, 8, [.raw .nilFunc]⟩ := by kernel_rfl
theorem k39 : tkOf E 39 = some (.other) := by kernel_rfl
theorem τ40 : E.τ 40 = some ⟨.slice 64, 1, 24, [.sl []]⟩ := by kernel_rfl
theorem k40 : tkOf E 40 = some (.slice 64) := by kernel_rfl
theorem τ41 : E.τ 41 = some ⟨.other, 1, 8, [.raw .nilFunc]⟩ := by kernel_rfl
theorem k41 : tkOf E 41 = some (.other) := by kernel_rfl
theorem τ42 : E.τ 42 = some ⟨.other, 1, 8, [.raw .nilFunc]⟩ := by kernel_rfl
theorem k42 : tkOf E 42 = some (.other) := by kernel_rfl
theorem τ43 : E.τ 43 = some ⟨.slice 60, 1, 24, [.sl []]⟩ := by kernel_rfl
theorem k43 : tkOf E 43 = some (.slice 60) := by kernel_rfl
theorem τ44 : E.τ 44 = some ⟨.other, 1, 8, [.raw .nilFunc]⟩ := by kernel_rfl
theorem k44 : tkOf E 44 = some (.other) := by kernel_rfl
theorem τ45 : E.τ 45 = some ⟨.other, 1, 8, [.raw .nilFunc]⟩ := by kernel_rfl
theorem k45 : tkOf E 45 = some (.other) := by kernel_rfl
theorem τ46 : E.τ 46 = some ⟨.struct [(0, 2), (1, 2)], 2, 16, [.int .i64 0, .int .i64 0]⟩ := by kernel_rfl
theorem k46 : tkOf E 46 = some (.struct [(0, 2), (1, 2)]) := by kernel_rfl
theorem τ47 : E.τ 47 = some ⟨.struct [(0, 2), (1, 2)], 2, 16, [.int .i64 0, .int .i64 0]⟩ := by kernel_rfl
theorem k47 : tkOf E 47 = some (.struct [(0, 2), (1, 2)]) := by kernel_rfl
theorem τ48 : E.τ 48 = some ⟨.other, 1, 8, [.raw .nilFunc]⟩ := by kernel_rfl
theorem k48 : tkOf E 48 = some (.other) := by kernel_rfl
theorem τ49 : E.τ 49 = some ⟨.other, 1, 8, [.raw .nilFunc]⟩ := by kernel_rfl
theorem k49 : tkOf E 49 = some (.other) := by kernel_rfl
theorem τ50 : E.τ 50 = some ⟨.other, 1, 8, [.raw .nilFunc]⟩ := by kernel_rfl
theorem k50 : tkOf E 50 = some (.other) := by kernel_rfl
theorem τ51 : E.τ 51 = some ⟨.other, 1, 8, [.raw .nilFunc]⟩ := by kernel_rfl
theorem k51 : tkOf E 51 = some (.other) := by kernel_rfl
theorem τ52 : E.τ 52 = some ⟨.other, 1, 8, [.raw .nilFunc]⟩ := by kernel_rfl
theorem k52 : tkOf E 52 = some (.other) := by kernel_rfl
theorem τ53 : E.τ 53 = some ⟨.struct [(0, 2), (1, 2), (2, 2)], 3, 24, [.int .i64 0, .int .i64 0, .int .i64 0]⟩ := by kernel_rfl
theorem k53 : tkOf E 53 = some (.struct [(0, 2), (1, 2), (2, 2)]) := by kernel_rfl
theorem τ54 : E.τ 54 = some ⟨.struct [(0, 2), (1, 2), (2, 2)], 3, 24, [.int .i64 0, .int .i64 0, .int .i64 0]⟩ := by kernel_rfl
theorem k54 : tkOf E 54 = some (.struct [(0, 2), (1, 2), (2, 2)]) := by kernel_rfl
theorem τ55 : E.τ 55 = some ⟨.other, 1, 8, [.raw .nilFunc]⟩ := by kernel_rfl
theorem k55 : tkOf E 55 = some (.other) := by kernel_rfl
theorem τ56 : E.τ 56 = some ⟨.other, 1, 8, [.raw .nilFunc]⟩ := by kernel_rfl
theorem k56 : tkOf E 56 = some (.other) := by kernel_rfl
theorem τ57 : E.τ 57 = some ⟨.struct [(0, 2), (1, 2), (2, 2)], 3, 24, [.int .i64 0, .int .i64 0, .int .i64 0]⟩ := by kernel_rfl
theorem k57 : tkOf E 57 = some (.struct [(0, 2), (1, 2), (2, 2)]) := by kernel_rfl
theorem τ58 : E.τ 58 = some ⟨.struct [(0, 2), (1, 2), (2, 2)], 3, 24, [.int .i64 0, .int .i64 0, .int .i64 0]⟩ := by kernel_rfl
theorem k58 : tkOf E 58 = some (.struct [(0, 2), (1, 2), (2, 2)]) := by kernel_rfl
theorem τ59 : E.τ 59 = some ⟨.struct [(0, 58), (3, 58)], 6, 48, [.int .i64 0, .int .i64 0, .int .i64 0, .int .i64 0, .int .i64 0, .int .i64 0]⟩ := by kernel_rfl
theorem k59 : tkOf E 59 = some (.struct [(0, 58), (3, 58)]) := by kernel_rfl
theorem τ60 : E.τ 60 = some ⟨.struct [(0, 58), (3, 58)], 6, 48, [.int .i64 0, .int .i64 0, .int .i64 0, .int .i64 0, .int .i64 0, .int .i64 0]⟩ := by kernel_rfl
theorem k60 : tkOf E 60 = some (.struct [(0, 58), (3, 58)]) := by kernel_rfl
theorem τ61 : E.τ 61 = some ⟨.other, 1, 8, [.raw .nilFunc]⟩ := by kernel_rfl
theorem k61 : tkOf E 61 = some (.other) := by kernel_rfl
theorem τ62 : E.τ 62 = some ⟨.struct [(0, 2), (1, 2), (2, 2)], 3, 24, [.int .i64 0, .int .i64 0, .int .i64 0]⟩ := by kernel_rfl
theorem k62 : tkOf E 62 = some (.struct [(0, 2), (1, 2), (2, 2)]) := by kernel_rfl
theorem τ63 : E.τ 63 = some ⟨.struct [(0, 62), (3, 62)], 6, 48, [.int .i64 0, .int .i64 0, .int .i64 0, .int .i64 0, .int .i64 0, .int .i64 0]⟩ := by kernel_rfl
theorem k63 : tkOf E 63 = some (.struct [(0, 62), (3, 62)]) := by kernel_rfl
theorem τ64 : E.τ 64 = some ⟨.struct [(0, 62), (3, 62)], 6, 48, [.int .i64 0, .int .i64 0, .int .i64 0, .int .i64 0, .int .i64 0, .int .i64 0]⟩ := by kernel_rfl
theorem k64 : tkOf E 64 = some (.struct [(0, 62), (3, 62)]) := by kernel_rfl
theorem τ65 : E.τ 65 = some ⟨.other, 1, 8, [.raw .nilFunc]⟩ := by kernel_rfl
theorem k65 : tkOf E 65 = some (.other) := by kernel_rfl
theorem τ66 : E.τ 66 = some ⟨.other, 1, 8, [.raw .nilFunc]⟩ := by kernel_rfl
theorem k66 : tkOf E 66 = some (.other) := by kernel_rfl
theorem τ67 : E.τ 67 = some ⟨.other, 1, 8, [.raw .nilFunc]⟩ := by kernel_rfl
theorem k67 : tkOf E 67 = some (.other) := by kernel_rfl
theorem τ68 : E.τ 68 = some ⟨.other, 1, 8, [.raw .nilFunc]⟩ := by kernel_rfl
theorem k68 : tkOf E 68 = some (.other) := by kernel_rfl
theorem τ69 : E.τ 69 = some ⟨.slice 89, 1, 24, [.sl []]⟩ := by kernel_rfl
theorem k69 : tkOf E 69 = some (.slice 89) := by kernel_rfl
theorem τ70 : E.τ 70 = some ⟨.other, 1, 8, [.raw .nilFunc]⟩ := by kernel_rfl
theorem k70 : tkOf E 70 = some (.other) := by kernel_rfl
theorem τ71 : E.τ 71 = some ⟨.other, 1, 8, [.raw .nilFunc]⟩ := by kernel_rfl
theorem k71 : tkOf E 71 = some (.other) := by kernel_rfl
theorem τ72 : E.τ 72 = some ⟨.other, 1, 8, [.raw .nilFunc]⟩ := by kernel_rfl
theorem k72 : tkOf E 72 = some (.other) := by kernel_rfl
theorem τ73 : E.τ 73 = some ⟨.other, 1, 8, [.raw .nilFunc]⟩ := by kernel_rfl
theorem k73 : tkOf E 73 = some (.other) := by kernel_rfl
theorem τ74 : E.τ 74 = some ⟨.other, 1, 8, [.raw .nilFunc]⟩ := by kernel_rfl
theorem k74 : tkOf E 74 = some (.other) := by kernel_rfl
theorem τ75 : E.τ 75 = some ⟨.other, 1, 8, [.raw .nilFunc]⟩ := by kernel_rfl
theorem k75 : tkOf E 75 = some (.other) := by kernel_rfl
theorem τ76 : E.τ 76 = some ⟨.slice 2, 1, 24, [.sl []]⟩ := by kernel_rfl
theorem k76 : tkOf E 76 = some (.slice 2) := by kernel_rfl
theorem τ77 : E.τ 77 = some ⟨.other, 1, 0, []⟩ := by kernel_rfl
theorem k77 : tkOf E 77 = some (.other) := by kernel_rfl
theorem τ78 : E.τ 78 = some ⟨.other, 1, 8, [.raw .nilFunc]⟩ := by kernel_rfl
theorem k78 : tkOf E 78 = some (.other) := by kernel_rfl
theorem τ79 : E.τ 79 = some ⟨.other, 1, 8, [.raw .nilFunc]⟩ := by kernel_rfl
theorem k79 : tkOf E 79 = some (.other) := by kernel_rfl
theorem τ80 : E.τ 80 = some ⟨.other, 1, 8, [.raw .nilFunc]⟩ := by kernel_rfl
theorem k80 : tkOf E 80 = some (.other) := by kernel_rfl
theorem τ81 : E.τ 81 = some ⟨.other, 1, 8, [.raw .nilFunc]⟩ := by kernel_rfl
theorem k81 : tkOf E 81 = some (.other) := by kernel_rfl
theorem τ82 : E.τ 82 = some ⟨.other, 1, 8, [.raw .nilFunc]⟩ := by kernel_rfl
theorem k82 : tkOf E 82 = some (.other) := by kernel_rfl
theorem τ83 : E.τ 83 = some ⟨.other, 1, 8, [.raw .nilFunc]⟩ := by kernel_rfl
theorem k83 : tkOf E 83 = some (.other) := by kernel_rfl
theorem τ84 : E.τ 84 = some ⟨.other, 1, 8, [.raw .nilFunc]⟩ := by kernel_rfl
theorem k84 : tkOf E 84 = some (.other) := by kernel_rfl
theorem τ85 : E.τ 85 = some ⟨.other, 1, 8, [.raw .nilFunc]⟩ := by kernel_rfl
theorem k85 : tkOf E 85 = some (.other) := by kernel_rfl
theorem τ86 : E.τ 86 = some ⟨.struct [(0, 2), (1, 2), (2, 2)], 3, 24, [.int .i64 0, .int .i64 0, .int .i64 0]⟩ := by kernel_rfl
theorem k86 : tkOf E 86 = some (.struct [(0, 2), (1, 2), (2, 2)]) := by kernel_rfl
theorem τ87 : E.τ 87 = some ⟨.struct [(0, 2), (1, 2), (2, 2)], 3, 24, [.int .i64 0, .int .i64 0, .int .i64 0]⟩ := by kernel_rfl
theorem k87 : tkOf E 87 = some (.struct [(0, 2), (1, 2), (2, 2)]) := by kernel_rfl
theorem τ88 : E.τ 88 = some ⟨.struct [(0, 87), (3, 87)], 6, 48, [.int .i64 0, .int .i64 0, .int .i64 0, .int .i64 0, .int .i64 0, .int .i64 0]⟩ := by kernel_rfl
theorem k88 : tkOf E 88 = some (.struct [(0, 87), (3, 87)]) := by kernel_rfl
theorem τ89 : E.τ 89 = some ⟨.struct [(0, 87), (3, 87)], 6, 48, [.int .i64 0, .int .i64 0, .int .i64 0, .int .i64 0, .int .i64 0, .int .i64 0]⟩ := by kernel_rfl
theorem k89 : tkOf E 89 = some (.struct [(0, 87), (3, 87)]) := by kernel_rfl
theorem τ90 : E.τ 90 = some ⟨.other, 1, 8, [.raw .nilFunc]⟩ := by kernel_rfl
theorem k90 : tkOf E 90 = some (.other) := by kernel_rfl
theorem τ91 : E.τ 91 = some ⟨.other, 1, 8, [.raw .nilFunc]⟩ := by kernel_rfl
theorem k91 : tkOf E 91 = some (.other) := by kernel_rfl
theorem τ92 : E.τ 92 = some ⟨.struct [(0, 2), (1, 87)], 4, 32, [.int .i64 0, .int .i64 0, .int .i64 0, .int .i64 0]⟩ := by kernel_rfl
theorem k92 : tkOf E 92 = some (.struct [(0, 2), (1, 87)]) := by kernel_rfl
theorem τ93 : E.τ 93 = some ⟨.struct [(0, 2), (1, 87)], 4, 32, [.int .i64 0, .int .i64 0, .int .i64 0, .int .i64 0]⟩ := by kernel_rfl
theorem k93 : tkOf E 93 = some (.struct [(0, 2), (1, 87)]) := by kernel_rfl
theorem τ94 : E.τ 94 = some ⟨.other, 1, 8, [.raw .nilFunc]⟩ := by kernel_rfl
theorem k94 : tkOf E 94 = some (.other) := by kernel_rfl
theorem τ95 : E.τ 95 = some ⟨.other, 1, 8, [.raw .nilFunc]⟩ := by kernel_rfl
theorem k95 : tkOf E 95 = some (.other) := by kernel_rfl
theorem τ96 : E.τ 96 = some ⟨.struct [(0, 2), (1, 58)], 4, 32, [.int .i64 0, .int .i64 0, .int .i64 0, .int .i64 0]⟩ := by kernel_rfl
theorem k96 : tkOf E 96 = some (.struct [(0, 2), (1, 58)]) := by kernel_rfl
theorem τ97 : E.τ 97 = some ⟨.struct [(0, 2), (1, 58)], 4, 32, [.int .i64 0, .int .i64 0, .int .i64 0, .int .i64 0]⟩ := by kernel_rfl
theorem k97 : tkOf E 97 = some (.struct [(0, 2), (1, 58)]) := by kernel_rfl
theorem τ98 : E.τ 98 = some ⟨.other, 1, 0, []⟩ := by kernel_rfl
theorem k98 : tkOf E 98 = some (.other) := by kernel_rfl
theorem τ99 : E.τ 99 = some ⟨.other, 1, 8, [.raw .nilFunc]⟩ := by kernel_rfl
theorem k99 : tkOf E 99 = some (.other) := by kernel_rfl
theorem τ100 : E.τ 100 = some ⟨.other, 1, 8, [.raw .nilFunc]⟩ := by kernel_rfl
theorem k100 : tkOf E 100 = some (.other) := by kernel_rfl
theorem τ101 : E.τ 101 = some ⟨.other, 1, 8, [.raw .nilFunc]⟩ := by kernel_rfl
theorem k101 : tkOf E 101 = some (.other) := by kernel_rfl
theorem τ102 : E.τ 102 = some ⟨.other, 1, 8, [.raw .nilFunc]⟩ := by kernel_rfl
theorem k102 : tkOf E 102 = some (.other) := by kernel_rfl
theorem τ103 : E.τ 103 = some ⟨.other, 1, 8, [.raw .nilFunc]⟩ := by kernel_rfl
theorem k103 : tkOf E 103 = some (.other) := by kernel_rfl
theorem τ104 : E.τ 104 = some ⟨.other, 1, 8, [.raw .nilFunc]⟩ := by kernel_rfl
theorem k104 : tkOf E 104 = some (.other) := by kernel_rfl
theorem τ105 : E.τ 105 = some ⟨.other, 1, 8, [.raw .nilFunc]⟩ := by kernel_rfl
theorem k105 : tkOf E 105 = some (.other) := by kernel_rfl
theorem τ106 : E.τ 106 = some ⟨.other, 1, 8, [.raw .nilFunc]⟩ := by kernel_rfl
theorem k106 : tkOf E 106 = some (.other) := by kernel_rfl
theorem τ107 : E.τ 107 = some ⟨.other, 1, 8, [.raw .nilFunc]⟩ := by kernel_rfl
theorem k107 : tkOf E 107 = some (.other) := by kernel_rfl
theorem τ108 : E.τ 108 = some ⟨.other, 1, 8, [.raw .nilFunc]⟩ := by kernel_rfl
theorem k108 : tkOf E 108 = some (.other) := by kernel_rfl
theorem τ109 : E.τ 109 = some ⟨.other, 1, 8, [.raw .nilFunc]⟩ := by kernel_rfl
theorem k109 : tkOf E 109 = some (.other) := by kernel_rfl
theorem τ110 : E.τ 110 = some ⟨.other, 1, 8, [.raw .nilFunc]⟩ := by kernel_rfl
theorem k110 : tkOf E 110 = some (.other) := by kernel_rfl
theorem τ111 : E.τ 111 = some ⟨.other, 1, 8, [.raw .nilFunc]⟩ := by kernel_rfl
theorem k111 : tkOf E 111 = some (.other) := by kernel_rfl
theorem τ112 : E.τ 112 = some ⟨.other, 1, 8, [.raw .nilFunc]⟩ := by kernel_rfl
theorem k112 : tkOf E 112 = some (.other) := by kernel_rfl
theorem τ113 : E.τ 113 = some ⟨.other, 1, 8, [.raw .nilFunc]⟩ := by kernel_rfl
theorem k113 : tkOf E 113 = some (.other) := by kernel_rfl
theorem τ114 : E.τ 114 = some ⟨.other, 1, 0, []⟩ := by kernel_rfl
theorem k114 : tkOf E 114 = some (.other) := by kernel_rfl
theorem τ115 : E.τ 115 = some ⟨.other, 1, 8, [.raw .nilFunc]⟩ := by kernel_rfl
theorem k115 : tkOf E 115 = some (.other) := by kernel_rfl
theorem τ116 : E.τ 116 = some ⟨.other, 1, 8, [.raw .nilFunc]⟩ := by kernel_rfl
theorem k116 : tkOf E 116 = some (.other) := by kernel_rfl
theorem τ117 : E.τ 117 = some ⟨.other, 1, 8, [.raw .nilFunc]⟩ := by kernel_rfl
theorem k117 : tkOf E 117 = some (.other) := by kernel_rfl
theorem τ118 : E.τ 118 = some ⟨.other, 1, 8, [.raw .nilFunc]⟩ := by kernel_rfl
theorem k118 : tkOf E 118 = some (.other) := by kernel_rfl
theorem τ119 : E.τ 119 = some ⟨.other, 1, 8, [.raw .nilFunc]⟩ := by kernel_rfl
theorem k119 : tkOf E 119 = some (.other) := by kernel_rfl
theorem τ120 : E.τ 120 = some ⟨.other, 1, 8, [.raw .nilFunc]⟩ := by kernel_rfl
theorem k120 : tkOf E 120 = some (.other) := by kernel_rfl
theorem τ121 : E.τ 121 = some ⟨.other, 1, 8, [.raw .nilFunc]⟩ := by kernel_rfl
theorem k121 : tkOf E 121 = some (.other) := by kernel_rfl
theorem τ122 : E.τ 122 = some ⟨.other, 1, 8, [.raw .nilFunc]⟩ := by kernel_rfl
theorem k122 : tkOf E 122 = some (.other) := by kernel_rfl
theorem τ123 : E.τ 123 = some ⟨.other, 1, 8, [.raw .nilFunc]⟩ := by kernel_rfl
theorem k123 : tkOf E 123 = some (.other) := by kernel_rfl
theorem τ124 : E.τ 124 = some ⟨.other, 1, 8, [.raw .nilFunc]⟩ := by kernel_rfl
theorem k124 : tkOf E 124 = some (.other) := by kernel_rfl
theorem τ125 : E.τ 125 = some ⟨.other, 1, 0, []⟩ := by kernel_rfl
theorem k125 : tkOf E 125 = some (.other) := by kernel_rfl
theorem τ126 : E.τ 126 = some ⟨.other, 1, 8, [.raw .nilFunc]⟩ := by kernel_rfl
theorem k126 : tkOf E 126 = some (.other) := by kernel_rfl
theorem τ127 : E.τ 127 = some ⟨.other, 1, 8, [.raw .nilFunc]⟩ := by kernel_rfl
theorem k127 : tkOf E 127 = some (.other) := by kernel_rfl
theorem τ128 : E.τ 128 = some ⟨.other, 1, 8, [.raw .nilFunc]⟩ := by kernel_rfl
theorem k128 : tkOf E 128 = some (.other) := by kernel_rfl
theorem τ129 : E.τ 129 = some ⟨.other, 1, 0, []⟩ := by kernel_rfl
theorem k129 : tkOf E 129 = some (.other) := by kernel_rfl
theorem τ130 : E.τ 130 = some ⟨.other, 1, 8, [.raw .nilFunc]⟩ := by kernel_rfl
theorem k130 : tkOf E 130 = some (.other) := by kernel_rfl
theorem τ131 : E.τ 131 = some ⟨.other, 1, 8, [.raw .nilFunc]⟩ := by kernel_rfl
theorem k131 : tkOf E 131 = some (.other) := by kernel_rfl
theorem τ132 : E.τ 132 = some ⟨.arr 8 60, 48, 384, [.int .i64 0, .int .i64 0, .int .i64 0, .int .i64 0, .int .i64 0, .int .i64 0, .int .i64 0, .int .i64 0, .int .i64 0, .int .i64 0, .int .i64 0, .int .i64 0, .int .i64 0, .int .i64 0, .int .i64 0, .int .i64 0, .int .i64 0, .int .i64 0, .int .i64 0, .int .i64 0, .int .i64 0, .int .i64 0, .int .i64 0, .int .i64 0, .int .i64 0, .int .i64 0, .int .i64 0, .int .i64 0, .int .i64 0, .int .i64 0, .int .i64 0, .int .i64 0, .int .i64 0, .int .i64 0, .int .i64 0, .int .i64 0, .int .i64 0, .int .i64 0, .int .i64 0, .int .i64 0, .int .i64 0, .int .i64 0, .int .i64 0, .int .i64 0, .int .i64 0, .int .i64 0, .int .i64 0, .int .i64 0]⟩ := by kernel_rfl
theorem k132 : tkOf E 132 = some (.arr 8 60) := by kernel_rfl
theorem τ133 : E.τ 133 = some ⟨.other, 1, 8, [.raw .nilFunc]⟩ := by kernel_rfl
theorem k133 : tkOf E 133 = some (.other) := by kernel_rfl
theorem τ134 : E.τ 134 = some ⟨.int .u64, 1, 8, [.int .u64 0]⟩ := by kernel_rfl
theorem k134 : tkOf E 134 = some (.int .u64) := by kernel_rfl
theorem τ135 : E.τ 135 = some ⟨.other, 1, 0, []⟩ := by kernel_rfl
theorem k135 : tkOf E 135 = some (.other) := by kernel_rfl
theorem τ136 : E.τ 136 = some ⟨.other, 1, 8, [.raw .nilFunc]⟩ := by kernel_rfl
theorem k136 : tkOf E 136 = some (.other) := by kernel_rfl
theorem τ137 : E.τ 137 = some ⟨.int .u64, 1, 8, [.int .u64 0]⟩ := by kernel_rfl
theorem k137 : tkOf E 137 = some (.int .u64) := by kernel_rfl
theorem τ138 : E.τ 138 = some ⟨.other, 1, 8, [.raw .nilFunc]⟩ := by kernel_rfl
theorem k138 : tkOf E 138 = some (.other) := by kernel_rfl
theorem τ139 : E.τ 139 = some ⟨.other, 1, 8, [.raw .nilFunc]⟩ := by kernel_rfl
theorem k139 : tkOf E 139 = some (.other) := by kernel_rfl
theorem τ140 : E.τ 140 = some ⟨.struct [(0, 17), (1, 17), (2, 17), (3, 9)], 4, 40, [.raw (.pointer none), .raw (.pointer none), .raw (.pointer none), .str ⟨#[]⟩]⟩ := by kernel_rfl
theorem k140 : tkOf E 140 = some (.struct [(0, 17), (1, 17), (2, 17), (3, 9)]) := by kernel_rfl
theorem τ141 : E.τ 141 = some ⟨.struct [(0, 17), (1, 17), (2, 17), (3, 9)], 4, 40, [.raw (.pointer none), .raw (.pointer none), .raw (.pointer none), .str ⟨#[]⟩]⟩ := by kernel_rfl
theorem k141 : tkOf E 141 = some (.struct [(0, 17), (1, 17), (2, 17), (3, 9)]) := by kernel_rfl
theorem τ142 : E.τ 142 = some ⟨.arr 0 16, 0, 0, []⟩ := by kernel_rfl
theorem k142 : tkOf E 142 = some (.arr 0 16) := by kernel_rfl
theorem τ143 : E.τ 143 = some ⟨.struct [(0, 142)], 0, 0, []⟩ := by kernel_rfl
theorem k143 : tkOf E 143 = some (.struct [(0, 142)]) := by kernel_rfl
theorem τ144 : E.τ 144 = some ⟨.struct [(0, 142)], 0, 0, []⟩ := by kernel_rfl
theorem k144 : tkOf E 144 = some (.struct [(0, 142)]) := by kernel_rfl
theorem τ145 : E.τ 145 = some ⟨.other, 1, 8, [.raw .nilFunc]⟩ := by kernel_rfl
theorem k145 : tkOf E 145 = some (.other) := by kernel_rfl
theorem τ146 : E.τ 146 = some ⟨.int .u32, 1, 4, [.int .u32 0]⟩ := by kernel_rfl
theorem k146 : tkOf E 146 = some (.int .u32) := by kernel_rfl
theorem τ147 : E.τ 147 = some ⟨.int .u8, 1, 1, [.int .u8 0]⟩ := by kernel_rfl
theorem k147 : tkOf E 147 = some (.int .u8) := by kernel_rfl
theorem τ148 : E.τ 148 = some ⟨.int .u8, 1, 1, [.int .u8 0]⟩ := by kernel_rfl
theorem k148 : tkOf E 148 = some (.int .u8) := by kernel_rfl
theorem τ149 : E.τ 149 = some ⟨.other, 1, 8, [.raw .nilFunc]⟩ := by kernel_rfl
theorem k149 : tkOf E 149 = some (.other) := by kernel_rfl
theorem τ150 : E.τ 150 = some ⟨.ptr 5, 1, 8, [.raw (.pointer none)]⟩ := by kernel_rfl
theorem k150 : tkOf E 150 = some (.ptr 5) := by kernel_rfl
theorem τ151 : E.τ 151 = some ⟨.int .i32, 1, 4, [.int .i32 0]⟩ := by kernel_rfl
theorem k151 : tkOf E 151 = some (.int .i32) := by kernel_rfl
theorem τ152 : E.τ 152 = some ⟨.int .i32, 1, 4, [.int .i32 0]⟩ := by kernel_rfl
theorem k152 : tkOf E 152 = some (.int .i32) := by kernel_rfl
theorem τ153 : E.τ 153 = some ⟨.struct [(0, 12), (1, 12), (2, 146), (3, 147), (4, 5), (5, 5), (6, 148), (7, 149), (8, 150), (9, 151), (10, 152)], 11, 48, [.int .u64 0, .int .u64 0, .int .u32 0, .int .u8 0, .int .u8 0, .int .u8 0, .int .u8 0, .raw .nilFunc, .raw (.pointer none), .int .i32 0, .int .i32 0]⟩ := by kernel_rfl
theorem k153 : tkOf E 153 = some (.struct [(0, 12), (1, 12), (2, 146), (3, 147), (4, 5), (5, 5), (6, 148), (7, 149), (8, 150), (9, 151), (10, 152)]) := by kernel_rfl
theorem τ154 : E.τ 154 = some ⟨.struct [(0, 12), (1, 12), (2, 146), (3, 147), (4, 5), (5, 5), (6, 148), (7, 149), (8, 150), (9, 151), (10, 152)], 11, 48, [.int .u64 0, .int .u64 0, .int .u32 0, .int .u8 0, .int .u8 0, .int .u8 0, .int .u8 0, .raw .nilFunc, .raw (.pointer none), .int .i32 0, .int .i32 0]⟩ := by kernel_rfl
theorem k154 : tkOf E 154 = some (.struct [(0, 12), (1, 12), (2, 146), (3, 147), (4, 5), (5, 5), (6, 148), (7, 149), (8, 150), (9, 151), (10, 152)]) := by kernel_rfl
theorem τ155 : E.τ 155 = some ⟨.other, 1, 8, [.raw .nilFunc]⟩ := by kernel_rfl
theorem k155 : tkOf E 155 = some (.other) := by kernel_rfl
theorem τ156 : E.τ 156 = some ⟨.other, 1, 8, [.raw (.pointer none)]⟩ := by kernel_rfl
theorem k156 : tkOf E 156 = some (.other) := by kernel_rfl
theorem e47 : cmpB E.P 47 = true := by kernel_rfl
theorem g47 : cmpTop E.P 47 = true := by kernel_rfl
theorem e54 : cmpB E.P 54 = true := by kernel_rfl
theorem g54 : cmpTop E.P 54 = true := by kernel_rfl
theorem e58 : cmpB E.P 58 = true := by kernel_rfl
theorem g58 : cmpTop E.P 58 = true := by kernel_rfl
theorem e60 : cmpB E.P 60 = true := by kernel_rfl
theorem g60 : cmpTop E.P 60 = true := by kernel_rfl
theorem e62 : cmpB E.P 62 = true := by kernel_rfl
theorem g62 : cmpTop E.P 62 = true := by kernel_rfl
theorem e64 : cmpB E.P 64 = true := by kernel_rfl
theorem g64 : cmpTop E.P 64 = true := by kernel_rfl
theorem e87 : cmpB E.P 87 = true := by kernel_rfl
theorem g87 : cmpTop E.P 87 = true := by kernel_rfl
theorem e89 : cmpB E.P 89 = true := by kernel_rfl
theorem g89 : cmpTop E.P 89 = true := by kernel_rfl
theorem e93 : cmpB E.P 93 = true := by kernel_rfl
theorem g93 : cmpTop E.P 93 = true := by kernel_rfl
theorem e97 : cmpB E.P 97 = true := by kernel_rfl
theorem g97 : cmpTop E.P 97 = true := by kernel_rfl
attribute [simp] τ0 k0 τ1 k1 τ2 k2 τ3 k3 τ4 k4 τ5 k5 τ6 k6 τ7 k7 τ8 k8 τ9 k9 τ10 k10 τ11 k11 τ12 k12 τ13 k13 τ14 k14 τ15 k15 τ16 k16 τ17 k17 τ18 k18 τ19 k19 τ20 k20 τ21 k21 τ22 k22 τ23 k23 τ24 k24 τ25 k25 τ26 k26 τ27 k27 τ28 k28 τ29 k29 τ30 k30 τ31 k31 τ32 k32 τ33 k33 τ34 k34 τ35 k35 τ36 k36 τ37 k37 τ38 k38 τ39 k39 τ40 k40 τ41 k41 τ42 k42 τ43 k43 τ44 k44 τ45 k45 τ46 k46 τ47 k47 τ48 k48 τ49 k49 τ50 k50 τ51 k51 τ52 k52 τ53 k53 τ54 k54 τ55 k55 τ56 k56 τ57 k57 τ58 k58 τ59 k59 τ60 k60 τ61 k61 τ62 k62 τ63 k63 τ64 k64 τ65 k65 τ66 k66 τ67 k67 τ68 k68 τ69 k69 τ70 k70 τ71 k71 τ72 k72 τ73 k73 τ74 k74 τ75 k75 τ76 k76 τ77 k77 τ78 k78 τ79 k79 τ80 k80 τ81 k81 τ82 k82 τ83 k83 τ84 k84 τ85 k85 τ86 k86 τ87 k87 τ88 k88 τ89 k89 τ90 k90 τ91 k91 τ92 k92 τ93 k93 τ94 k94 τ95 k95 τ96 k96 τ97 k97 τ98 k98 τ99 k99 τ100 k100 τ101 k101 τ102 k102 τ103 k103 τ104 k104 τ105 k105 τ106 k106 τ107 k107 τ108 k108 τ109 k109 τ110 k110 τ111 k111 τ112 k112 τ113 k113 τ114 k114 τ115 k115 τ116 k116 τ117 k117 τ118 k118 τ119 k119 τ120 k120 τ121 k121 τ122 k122 τ123 k123 τ124 k124 τ125 k125 τ126 k126 τ127 k127 τ128 k128 τ129 k129 τ130 k130 τ131 k131 τ132 k132 τ133 k133 τ134 k134 τ135 k135 τ136 k136 τ137 k137 τ138 k138 τ139 k139 τ140 k140 τ141 k141 τ142 k142 τ143 k143 τ144 k144 τ145 k145 τ146 k146 τ147 k147 τ148 k148 τ149 k149 τ150 k150 τ151 k151 τ152 k152 τ153 k153 τ154 k154 τ155 k155 τ156 k156
attribute [simp] e47 g47 e54 g54 e58 g58 e60 g60 e62 g62 e64 g64 e87 g87 e89 g89 e93 g93 e97 g97
end Go.Vai
