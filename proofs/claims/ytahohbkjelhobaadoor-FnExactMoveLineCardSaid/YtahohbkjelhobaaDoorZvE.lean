/- The table of the types of this seat's program, checked against the program. Written by a program of this repo. -/
import Derived.Test.YtahohbkjelhobaaDoorZv17
import Derived.Test.YtahohbkjelhobaaDoorProg
set_option linter.unusedVariables false
namespace Go.Vai
def tys : List (Nat × TyI) := [
  (0, ⟨.other, 1, 0, []⟩),
  (1, ⟨.other, 1, 8, [.raw .nilFunc]⟩),
  (2, ⟨.int .i64, 1, 8, [.int .i64 0]⟩),
  (3, ⟨.int .i64, 1, 8, [.int .i64 0]⟩),
  (4, ⟨.bool, 1, 1, [.bool false]⟩),
  (5, ⟨.int .u8, 1, 1, [.int .u8 0]⟩),
  (6, ⟨.int .u8, 1, 1, [.int .u8 0]⟩),
  (7, ⟨.struct [(0, 2), (1, 3), (2, 4), (3, 6)], 4, 24, [.int .i64 0, .int .i64 0, .bool false, .int .u8 0]⟩),
  (8, ⟨.struct [(0, 2), (1, 3), (2, 4), (3, 6)], 4, 24, [.int .i64 0, .int .i64 0, .bool false, .int .u8 0]⟩),
  (9, ⟨.string, 1, 16, [.str ⟨#[]⟩]⟩),
  (10, ⟨.string, 1, 16, [.str ⟨#[]⟩]⟩),
  (11, ⟨.string, 1, 16, [.str ⟨#[]⟩]⟩),
  (12, ⟨.int .u64, 1, 8, [.int .u64 0]⟩),
  (13, ⟨.struct [(0, 9), (1, 12)], 2, 24, [.str ⟨#[]⟩, .int .u64 0]⟩),
  (14, ⟨.struct [(0, 9), (1, 12)], 2, 24, [.str ⟨#[]⟩, .int .u64 0]⟩),
  (15, ⟨.ptr 112, 1, 8, [.raw (.pointer none)]⟩),
  (16, ⟨.ptr 115, 1, 8, [.raw (.pointer none)]⟩),
  (17, ⟨.ptr 125, 1, 8, [.raw (.pointer none)]⟩),
  (18, ⟨.struct [(0, 17)], 1, 8, [.raw (.pointer none)]⟩),
  (19, ⟨.struct [(0, 17)], 1, 8, [.raw (.pointer none)]⟩),
  (20, ⟨.other, 1, 16, [.raw .nilIface]⟩),
  (21, ⟨.int .i32, 1, 4, [.int .i32 0]⟩),
  (22, ⟨.struct [(0, 2), (1, 2), (2, 2)], 3, 24, [.int .i64 0, .int .i64 0, .int .i64 0]⟩),
  (23, ⟨.struct [(0, 2), (1, 2), (2, 2)], 3, 24, [.int .i64 0, .int .i64 0, .int .i64 0]⟩),
  (24, ⟨.struct [(0, 2), (1, 23)], 4, 32, [.int .i64 0, .int .i64 0, .int .i64 0, .int .i64 0]⟩),
  (25, ⟨.struct [(0, 2), (1, 23)], 4, 32, [.int .i64 0, .int .i64 0, .int .i64 0, .int .i64 0]⟩),
  (26, ⟨.struct [(0, 2), (1, 2), (2, 2)], 3, 24, [.int .i64 0, .int .i64 0, .int .i64 0]⟩),
  (27, ⟨.struct [(0, 2), (1, 26)], 4, 32, [.int .i64 0, .int .i64 0, .int .i64 0, .int .i64 0]⟩),
  (28, ⟨.struct [(0, 2), (1, 26)], 4, 32, [.int .i64 0, .int .i64 0, .int .i64 0, .int .i64 0]⟩),
  (29, ⟨.other, 1, 0, []⟩),
  (30, ⟨.other, 1, 8, [.raw .nilFunc]⟩),
  (31, ⟨.other, 1, 8, [.raw .nilFunc]⟩),
  (32, ⟨.other, 1, 8, [.raw .nilFunc]⟩),
  (33, ⟨.other, 1, 8, [.raw .nilFunc]⟩),
  (34, ⟨.struct [(0, 23), (3, 23)], 6, 48, [.int .i64 0, .int .i64 0, .int .i64 0, .int .i64 0, .int .i64 0, .int .i64 0]⟩),
  (35, ⟨.struct [(0, 23), (3, 23)], 6, 48, [.int .i64 0, .int .i64 0, .int .i64 0, .int .i64 0, .int .i64 0, .int .i64 0]⟩),
  (36, ⟨.other, 1, 0, []⟩),
  (37, ⟨.other, 1, 8, [.raw .nilFunc]⟩),
  (38, ⟨.struct [(0, 26), (3, 26)], 6, 48, [.int .i64 0, .int .i64 0, .int .i64 0, .int .i64 0, .int .i64 0, .int .i64 0]⟩),
  (39, ⟨.struct [(0, 26), (3, 26)], 6, 48, [.int .i64 0, .int .i64 0, .int .i64 0, .int .i64 0, .int .i64 0, .int .i64 0]⟩),
  (40, ⟨.other, 1, 8, [.raw .nilFunc]⟩),
  (41, ⟨.other, 1, 8, [.raw .nilFunc]⟩),
  (42, ⟨.struct [(0, 2), (1, 4), (2, 23), (5, 23)], 8, 64, [.int .i64 0, .bool false, .int .i64 0, .int .i64 0, .int .i64 0, .int .i64 0, .int .i64 0, .int .i64 0]⟩),
  (43, ⟨.struct [(0, 2), (1, 4), (2, 23), (5, 23)], 8, 64, [.int .i64 0, .bool false, .int .i64 0, .int .i64 0, .int .i64 0, .int .i64 0, .int .i64 0, .int .i64 0]⟩),
  (44, ⟨.other, 1, 8, [.raw .nilFunc]⟩),
  (45, ⟨.struct [(0, 2), (1, 4), (2, 26), (5, 26)], 8, 64, [.int .i64 0, .bool false, .int .i64 0, .int .i64 0, .int .i64 0, .int .i64 0, .int .i64 0, .int .i64 0]⟩),
  (46, ⟨.struct [(0, 2), (1, 4), (2, 26), (5, 26)], 8, 64, [.int .i64 0, .bool false, .int .i64 0, .int .i64 0, .int .i64 0, .int .i64 0, .int .i64 0, .int .i64 0]⟩),
  (47, ⟨.other, 1, 8, [.raw .nilFunc]⟩),
  (48, ⟨.other, 1, 8, [.raw .nilFunc]⟩),
  (49, ⟨.other, 1, 8, [.raw .nilFunc]⟩),
  (50, ⟨.struct [(0, 2), (1, 2), (2, 2)], 3, 24, [.int .i64 0, .int .i64 0, .int .i64 0]⟩),
  (51, ⟨.struct [(0, 2), (1, 2), (2, 2)], 3, 24, [.int .i64 0, .int .i64 0, .int .i64 0]⟩),
  (52, ⟨.struct [(0, 51), (3, 51)], 6, 48, [.int .i64 0, .int .i64 0, .int .i64 0, .int .i64 0, .int .i64 0, .int .i64 0]⟩),
  (53, ⟨.struct [(0, 51), (3, 51)], 6, 48, [.int .i64 0, .int .i64 0, .int .i64 0, .int .i64 0, .int .i64 0, .int .i64 0]⟩),
  (54, ⟨.other, 1, 8, [.raw .nilFunc]⟩),
  (55, ⟨.struct [(0, 2), (1, 51)], 4, 32, [.int .i64 0, .int .i64 0, .int .i64 0, .int .i64 0]⟩),
  (56, ⟨.struct [(0, 2), (1, 51)], 4, 32, [.int .i64 0, .int .i64 0, .int .i64 0, .int .i64 0]⟩),
  (57, ⟨.other, 1, 8, [.raw .nilFunc]⟩),
  (58, ⟨.other, 1, 8, [.raw .nilFunc]⟩),
  (59, ⟨.other, 1, 8, [.raw .nilFunc]⟩),
  (60, ⟨.other, 1, 0, []⟩),
  (61, ⟨.other, 1, 8, [.raw .nilFunc]⟩),
  (62, ⟨.other, 1, 8, [.raw .nilFunc]⟩),
  (63, ⟨.other, 1, 8, [.raw .nilFunc]⟩),
  (64, ⟨.other, 1, 8, [.raw .nilFunc]⟩),
  (65, ⟨.other, 1, 8, [.raw .nilFunc]⟩),
  (66, ⟨.other, 1, 8, [.raw .nilFunc]⟩),
  (67, ⟨.other, 1, 8, [.raw .nilFunc]⟩),
  (68, ⟨.other, 1, 8, [.raw .nilFunc]⟩),
  (69, ⟨.other, 1, 8, [.raw .nilFunc]⟩),
  (70, ⟨.other, 1, 8, [.raw .nilFunc]⟩),
  (71, ⟨.other, 1, 8, [.raw .nilFunc]⟩),
  (72, ⟨.other, 1, 8, [.raw .nilFunc]⟩),
  (73, ⟨.other, 1, 8, [.raw .nilFunc]⟩),
  (74, ⟨.other, 1, 8, [.raw .nilFunc]⟩),
  (75, ⟨.other, 1, 8, [.raw .nilFunc]⟩),
  (76, ⟨.struct [(0, 2), (1, 4), (2, 53)], 8, 64, [.int .i64 0, .bool false, .int .i64 0, .int .i64 0, .int .i64 0, .int .i64 0, .int .i64 0, .int .i64 0]⟩),
  (77, ⟨.struct [(0, 2), (1, 4), (2, 53)], 8, 64, [.int .i64 0, .bool false, .int .i64 0, .int .i64 0, .int .i64 0, .int .i64 0, .int .i64 0, .int .i64 0]⟩),
  (78, ⟨.other, 1, 8, [.raw .nilFunc]⟩),
  (79, ⟨.other, 1, 8, [.raw .nilFunc]⟩),
  (80, ⟨.other, 1, 8, [.raw .nilFunc]⟩),
  (81, ⟨.other, 1, 8, [.raw .nilFunc]⟩),
  (82, ⟨.other, 1, 0, []⟩),
  (83, ⟨.other, 1, 8, [.raw .nilFunc]⟩),
  (84, ⟨.other, 1, 8, [.raw .nilFunc]⟩),
  (85, ⟨.other, 1, 8, [.raw .nilFunc]⟩),
  (86, ⟨.other, 1, 8, [.raw .nilFunc]⟩),
  (87, ⟨.other, 1, 8, [.raw .nilFunc]⟩),
  (88, ⟨.other, 1, 8, [.raw .nilFunc]⟩),
  (89, ⟨.other, 1, 8, [.raw .nilFunc]⟩),
  (90, ⟨.other, 1, 8, [.raw .nilFunc]⟩),
  (91, ⟨.other, 1, 8, [.raw .nilFunc]⟩),
  (92, ⟨.other, 1, 8, [.raw .nilFunc]⟩),
  (93, ⟨.other, 1, 8, [.raw .nilFunc]⟩),
  (94, ⟨.other, 1, 8, [.raw .nilFunc]⟩),
  (95, ⟨.other, 1, 8, [.raw .nilFunc]⟩),
  (96, ⟨.other, 1, 8, [.raw .nilFunc]⟩),
  (97, ⟨.other, 1, 8, [.raw .nilFunc]⟩),
  (98, ⟨.other, 1, 8, [.raw .nilFunc]⟩),
  (99, ⟨.slice 39, 1, 24, [.sl []]⟩),
  (100, ⟨.other, 1, 8, [.raw .nilFunc]⟩),
  (101, ⟨.other, 1, 8, [.raw .nilFunc]⟩),
  (102, ⟨.arr 8 39, 48, 384, [.int .i64 0, .int .i64 0, .int .i64 0, .int .i64 0, .int .i64 0, .int .i64 0, .int .i64 0, .int .i64 0, .int .i64 0, .int .i64 0, .int .i64 0, .int .i64 0, .int .i64 0, .int .i64 0, .int .i64 0, .int .i64 0, .int .i64 0, .int .i64 0, .int .i64 0, .int .i64 0, .int .i64 0, .int .i64 0, .int .i64 0, .int .i64 0, .int .i64 0, .int .i64 0, .int .i64 0, .int .i64 0, .int .i64 0, .int .i64 0, .int .i64 0, .int .i64 0, .int .i64 0, .int .i64 0, .int .i64 0, .int .i64 0, .int .i64 0, .int .i64 0, .int .i64 0, .int .i64 0, .int .i64 0, .int .i64 0, .int .i64 0, .int .i64 0, .int .i64 0, .int .i64 0, .int .i64 0, .int .i64 0]⟩),
  (103, ⟨.other, 1, 8, [.raw .nilFunc]⟩),
  (104, ⟨.int .u64, 1, 8, [.int .u64 0]⟩),
  (105, ⟨.other, 1, 0, []⟩),
  (106, ⟨.other, 1, 8, [.raw .nilFunc]⟩),
  (107, ⟨.int .u64, 1, 8, [.int .u64 0]⟩),
  (108, ⟨.other, 1, 8, [.raw .nilFunc]⟩),
  (109, ⟨.other, 1, 8, [.raw .nilFunc]⟩),
  (110, ⟨.other, 1, 8, [.raw .nilFunc]⟩),
  (111, ⟨.struct [(0, 17), (1, 17), (2, 17), (3, 9)], 4, 40, [.raw (.pointer none), .raw (.pointer none), .raw (.pointer none), .str ⟨#[]⟩]⟩),
  (112, ⟨.struct [(0, 17), (1, 17), (2, 17), (3, 9)], 4, 40, [.raw (.pointer none), .raw (.pointer none), .raw (.pointer none), .str ⟨#[]⟩]⟩),
  (113, ⟨.arr 0 16, 0, 0, []⟩),
  (114, ⟨.struct [(0, 113)], 0, 0, []⟩),
  (115, ⟨.struct [(0, 113)], 0, 0, []⟩),
  (116, ⟨.other, 1, 8, [.raw .nilFunc]⟩),
  (117, ⟨.int .u32, 1, 4, [.int .u32 0]⟩),
  (118, ⟨.int .u8, 1, 1, [.int .u8 0]⟩),
  (119, ⟨.int .u8, 1, 1, [.int .u8 0]⟩),
  (120, ⟨.other, 1, 8, [.raw .nilFunc]⟩),
  (121, ⟨.ptr 5, 1, 8, [.raw (.pointer none)]⟩),
  (122, ⟨.int .i32, 1, 4, [.int .i32 0]⟩),
  (123, ⟨.int .i32, 1, 4, [.int .i32 0]⟩),
  (124, ⟨.struct [(0, 12), (1, 12), (2, 117), (3, 118), (4, 5), (5, 5), (6, 119), (7, 120), (8, 121), (9, 122), (10, 123)], 11, 48, [.int .u64 0, .int .u64 0, .int .u32 0, .int .u8 0, .int .u8 0, .int .u8 0, .int .u8 0, .raw .nilFunc, .raw (.pointer none), .int .i32 0, .int .i32 0]⟩),
  (125, ⟨.struct [(0, 12), (1, 12), (2, 117), (3, 118), (4, 5), (5, 5), (6, 119), (7, 120), (8, 121), (9, 122), (10, 123)], 11, 48, [.int .u64 0, .int .u64 0, .int .u32 0, .int .u8 0, .int .u8 0, .int .u8 0, .int .u8 0, .raw .nilFunc, .raw (.pointer none), .int .i32 0, .int .i32 0]⟩),
  (126, ⟨.other, 1, 8, [.raw .nilFunc]⟩),
  (127, ⟨.other, 1, 8, [.raw (.pointer none)]⟩)]
def gv0 : List IV := [.int .i64 1, .int .i64 0, .int .i64 0, .int .i64 0, .int .i64 0, .int .i64 0, .int .i64 1, .int .i64 0, .int .i64 0, .int .i64 (-1), .int .i64 1, .int .i64 0, .int .i64 1, .int .i64 0, .int .i64 0, .int .i64 1, .int .i64 0, .int .i64 0, .int .i64 (-1), .int .i64 1, .int .i64 0, .int .i64 1, .int .i64 0, .int .i64 0, .int .i64 0, .int .i64 0, .int .i64 0, .int .i64 1, .int .i64 0, .int .i64 0, .int .i64 1, .int .i64 (-1), .int .i64 0, .int .i64 1, .int .i64 0, .int .i64 0, .int .i64 (-1), .int .i64 0, .int .i64 0, .int .i64 1, .int .i64 0, .int .i64 0, .int .i64 (-1), .int .i64 0, .int .i64 0, .int .i64 (-1), .int .i64 1, .int .i64 0]
def muts : List Nat := []
noncomputable def E : Env := ⟨Proofs.Tryd.prog, look tys, [(0, gv0)], muts⟩
theorem EM : E.M = [] := rfl
attribute [simp] EM
theorem EG : E.G = [(0, gv0)] := rfl
attribute [simp] EG
theorem tys_ok : tysOk Proofs.Tryd.prog tys = true := by kernel_rfl
theorem hE : E.Ok := ⟨fun t i h => tysOk_spec tys_ok t i h, by kernel_rfl⟩
theorem τ0 : E.τ 0 = some ⟨.other, 1, 0, []⟩ := by kernel_rfl
theorem k0 : tkOf E 0 = some (.other) := by kernel_rfl
theorem τ1 : E.τ 1 = some ⟨.other, 1, 8, [.raw .nilFunc]⟩ := by kernel_rfl
theorem k1 : tkOf E 1 = some (.other) := by kernel_rfl
theorem τ2 : E.τ 2 = some ⟨.int .i64, 1, 8, [.int .i64 0]⟩ := by kernel_rfl
theorem k2 : tkOf E 2 = some (.int .i64) := by kernel_rfl
theorem τ3 : E.τ 3 = some ⟨.int .i64, 1, 8, [.int .i64 0]⟩ := by kernel_rfl
theorem k3 : tkOf E 3 = some (.int .i64) := by kernel_rfl
theorem τ4 : E.τ 4 = some ⟨.bool, 1, 1, [.bool false]⟩ := by kernel_rfl
theorem k4 : tkOf E 4 = some (.bool) := by kernel_rfl
theorem τ5 : E.τ 5 = some ⟨.int .u8, 1, 1, [.int .u8 0]⟩ := by kernel_rfl
theorem k5 : tkOf E 5 = some (.int .u8) := by kernel_rfl
theorem τ6 : E.τ 6 = some ⟨.int .u8, 1, 1, [.int .u8 0]⟩ := by kernel_rfl
theorem k6 : tkOf E 6 = some (.int .u8) := by kernel_rfl
theorem τ7 : E.τ 7 = some ⟨.struct [(0, 2), (1, 3), (2, 4), (3, 6)], 4, 24, [.int .i64 0, .int .i64 0, .bool false, .int .u8 0]⟩ := by kernel_rfl
theorem k7 : tkOf E 7 = some (.struct [(0, 2), (1, 3), (2, 4), (3, 6)]) := by kernel_rfl
theorem τ8 : E.τ 8 = some ⟨.struct [(0, 2), (1, 3), (2, 4), (3, 6)], 4, 24, [.int .i64 0, .int .i64 0, .bool false, .int .u8 0]⟩ := by kernel_rfl
theorem k8 : tkOf E 8 = some (.struct [(0, 2), (1, 3), (2, 4), (3, 6)]) := by kernel_rfl
theorem τ9 : E.τ 9 = some ⟨.string, 1, 16, [.str ⟨#[]⟩]⟩ := by kernel_rfl
theorem k9 : tkOf E 9 = some (.string) := by kernel_rfl
theorem τ10 : E.τ 10 = some ⟨.string, 1, 16, [.str ⟨#[]⟩]⟩ := by kernel_rfl
theorem k10 : tkOf E 10 = some (.string) := by kernel_rfl
theorem τ11 : E.τ 11 = some ⟨.string, 1, 16, [.str ⟨#[]⟩]⟩ := by kernel_rfl
theorem k11 : tkOf E 11 = some (.string) := by kernel_rfl
theorem τ12 : E.τ 12 = some ⟨.int .u64, 1, 8, [.int .u64 0]⟩ := by kernel_rfl
theorem k12 : tkOf E 12 = some (.int .u64) := by kernel_rfl
theorem τ13 : E.τ 13 = some ⟨.struct [(0, 9), (1, 12)], 2, 24, [.str ⟨#[]⟩, .int .u64 0]⟩ := by kernel_rfl
theorem k13 : tkOf E 13 = some (.struct [(0, 9), (1, 12)]) := by kernel_rfl
theorem τ14 : E.τ 14 = some ⟨.struct [(0, 9), (1, 12)], 2, 24, [.str ⟨#[]⟩, .int .u64 0]⟩ := by kernel_rfl
theorem k14 : tkOf E 14 = some (.struct [(0, 9), (1, 12)]) := by kernel_rfl
theorem τ15 : E.τ 15 = some ⟨.ptr 112, 1, 8, [.raw (.pointer none)]⟩ := by kernel_rfl
theorem k15 : tkOf E 15 = some (.ptr 112) := by kernel_rfl
theorem τ16 : E.τ 16 = some ⟨.ptr 115, 1, 8, [.raw (.pointer none)]⟩ := by kernel_rfl
theorem k16 : tkOf E 16 = some (.ptr 115) := by kernel_rfl
theorem τ17 : E.τ 17 = some ⟨.ptr 125, 1, 8, [.raw (.pointer none)]⟩ := by kernel_rfl
theorem k17 : tkOf E 17 = some (.ptr 125) := by kernel_rfl
theorem τ18 : E.τ 18 = some ⟨.struct [(0, 17)], 1, 8, [.raw (.pointer none)]⟩ := by kernel_rfl
theorem k18 : tkOf E 18 = some (.struct [(0, 17)]) := by kernel_rfl
theorem τ19 : E.τ 19 = some ⟨.struct [(0, 17)], 1, 8, [.raw (.pointer none)]⟩ := by kernel_rfl
theorem k19 : tkOf E 19 = some (.struct [(0, 17)]) := by kernel_rfl
theorem τ20 : E.τ 20 = some ⟨.other, 1, 16, [.raw .nilIface]⟩ := by kernel_rfl
theorem k20 : tkOf E 20 = some (.other) := by kernel_rfl
theorem τ21 : E.τ 21 = some ⟨.int .i32, 1, 4, [.int .i32 0]⟩ := by kernel_rfl
theorem k21 : tkOf E 21 = some (.int .i32) := by kernel_rfl
theorem τ22 : E.τ 22 = some ⟨.struct [(0, 2), (1, 2), (2, 2)], 3, 24, [.int .i64 0, .int .i64 0, .int .i64 0]⟩ := by kernel_rfl
theorem k22 : tkOf E 22 = some (.struct [(0, 2), (1, 2), (2, 2)]) := by kernel_rfl
theorem τ23 : E.τ 23 = some ⟨.struct [(0, 2), (1, 2), (2, 2)], 3, 24, [.int .i64 0, .int .i64 0, .int .i64 0]⟩ := by kernel_rfl
theorem k23 : tkOf E 23 = some (.struct [(0, 2), (1, 2), (2, 2)]) := by kernel_rfl
theorem τ24 : E.τ 24 = some ⟨.struct [(0, 2), (1, 23)], 4, 32, [.int .i64 0, .int .i64 0, .int .i64 0, .int .i64 0]⟩ := by kernel_rfl
theorem k24 : tkOf E 24 = some (.struct [(0, 2), (1, 23)]) := by kernel_rfl
theorem τ25 : E.τ 25 = some ⟨.struct [(0, 2), (1, 23)], 4, 32, [.int .i64 0, .int .i64 0, .int .i64 0, .int .i64 0]⟩ := by kernel_rfl
theorem k25 : tkOf E 25 = some (.struct [(0, 2), (1, 23)]) := by kernel_rfl
theorem τ26 : E.τ 26 = some ⟨.struct [(0, 2), (1, 2), (2, 2)], 3, 24, [.int .i64 0, .int .i64 0, .int .i64 0]⟩ := by kernel_rfl
theorem k26 : tkOf E 26 = some (.struct [(0, 2), (1, 2), (2, 2)]) := by kernel_rfl
theorem τ27 : E.τ 27 = some ⟨.struct [(0, 2), (1, 26)], 4, 32, [.int .i64 0, .int .i64 0, .int .i64 0, .int .i64 0]⟩ := by kernel_rfl
theorem k27 : tkOf E 27 = some (.struct [(0, 2), (1, 26)]) := by kernel_rfl
theorem τ28 : E.τ 28 = some ⟨.struct [(0, 2), (1, 26)], 4, 32, [.int .i64 0, .int .i64 0, .int .i64 0, .int .i64 0]⟩ := by kernel_rfl
theorem k28 : tkOf E 28 = some (.struct [(0, 2), (1, 26)]) := by kernel_rfl
theorem τ29 : E.τ 29 = some ⟨.other, 1, 0, []⟩ := by kernel_rfl
theorem k29 : tkOf E 29 = some (.other) := by kernel_rfl
theorem τ30 : E.τ 30 = some ⟨.other, 1, 8, [.raw .nilFunc]⟩ := by kernel_rfl
theorem k30 : tkOf E 30 = some (.other) := by kernel_rfl
theorem τ31 : E.τ 31 = some ⟨.other, 1, 8, [.raw .nilFunc]⟩ := by kernel_rfl
theorem k31 : tkOf E 31 = some (.other) := by kernel_rfl
theorem τ32 : E.τ 32 = some ⟨.other, 1, 8, [.raw .nilFunc]⟩ := by kernel_rfl
theorem k32 : tkOf E 32 = some (.other) := by kernel_rfl
theorem τ33 : E.τ 33 = some ⟨.other, 1, 8, [.raw .nilFunc]⟩ := by kernel_rfl
theorem k33 : tkOf E 33 = some (.other) := by kernel_rfl
theorem τ34 : E.τ 34 = some ⟨.struct [(0, 23), (3, 23)], 6, 48, [.int .i64 0, .int .i64 0, .int .i64 0, .int .i64 0, .int .i64 0, .int .i64 0]⟩ := by kernel_rfl
theorem k34 : tkOf E 34 = some (.struct [(0, 23), (3, 23)]) := by kernel_rfl
theorem τ35 : E.τ 35 = some ⟨.struct [(0, 23), (3, 23)], 6, 48, [.int .i64 0, .int .i64 0, .int .i64 0, .int .i64 0, .int .i64 0, .int .i64 0]⟩ := by kernel_rfl
theorem k35 : tkOf E 35 = some (.struct [(0, 23), (3, 23)]) := by kernel_rfl
theorem τ36 : E.τ 36 = some ⟨.other, 1, 0, []⟩ := by kernel_rfl
theorem k36 : tkOf E 36 = some (.other) := by kernel_rfl
theorem τ37 : E.τ 37 = some ⟨.other, 1, 8, [.raw .nilFunc]⟩ := by kernel_rfl
theorem k37 : tkOf E 37 = some (.other) := by kernel_rfl
theorem τ38 : E.τ 38 = some ⟨.struct [(0, 26), (3, 26)], 6, 48, [.int .i64 0, .int .i64 0, .int .i64 0, .int .i64 0, .int .i64 0, .int .i64 0]⟩ := by kernel_rfl
theorem k38 : tkOf E 38 = some (.struct [(0, 26), (3, 26)]) := by kernel_rfl
theorem τ39 : E.τ 39 = some ⟨.struct [(0, 26), (3, 26)], 6, 48, [.int .i64 0, .int .i64 0, .int .i64 0, .int .i64 0, .int .i64 0, .int .i64 0]⟩ := by kernel_rfl
theorem k39 : tkOf E 39 = some (.struct [(0, 26), (3, 26)]) := by kernel_rfl
theorem τ40 : E.τ 40 = some ⟨.other, 1, 8, [.raw .nilFunc]⟩ := by kernel_rfl
theorem k40 : tkOf E 40 = some (.other) := by kernel_rfl
theorem τ41 : E.τ 41 = some ⟨.other, 1, 8, [.raw .nilFunc]⟩ := by kernel_rfl
theorem k41 : tkOf E 41 = some (.other) := by kernel_rfl
theorem τ42 : E.τ 42 = some ⟨.struct [(0, 2), (1, 4), (2, 23), (5, 23)], 8, 64, [.int .i64 0, .bool false, .int .i64 0, .int .i64 0, .int .i64 0, .int .i64 0, .int .i64 0, .int .i64 0]⟩ := by kernel_rfl
theorem k42 : tkOf E 42 = some (.struct [(0, 2), (1, 4), (2, 23), (5, 23)]) := by kernel_rfl
theorem τ43 : E.τ 43 = some ⟨.struct [(0, 2), (1, 4), (2, 23), (5, 23)], 8, 64, [.int .i64 0, .bool false, .int .i64 0, .int .i64 0, .int .i64 0, .int .i64 0, .int .i64 0, .int .i64 0]⟩ := by kernel_rfl
theorem k43 : tkOf E 43 = some (.struct [(0, 2), (1, 4), (2, 23), (5, 23)]) := by kernel_rfl
theorem τ44 : E.τ 44 = some ⟨.other, 1, 8, [.raw .nilFunc]⟩ := by kernel_rfl
theorem k44 : tkOf E 44 = some (.other) := by kernel_rfl
theorem τ45 : E.τ 45 = some ⟨.struct [(0, 2), (1, 4), (2, 26), (5, 26)], 8, 64, [.int .i64 0, .bool false, .int .i64 0, .int .i64 0, .int .i64 0, .int .i64 0, .int .i64 0, .int .i64 0]⟩ := by kernel_rfl
theorem k45 : tkOf E 45 = some (.struct [(0, 2), (1, 4), (2, 26), (5, 26)]) := by kernel_rfl
theorem τ46 : E.τ 46 = some ⟨.struct [(0, 2), (1, 4), (2, 26), (5, 26)], 8, 64, [.int .i64 0, .bool false, .int .i64 0, .int .i64 0, .int .i64 0, .int .i64 0, .int .i64 0, .int .i64 0]⟩ := by kernel_rfl
theorem k46 : tkOf E 46 = some (.struct [(0, 2), (1, 4), (2, 26), (5, 26)]) := by kernel_rfl
theorem τ47 : E.τ 47 = some ⟨.other, 1, 8, [.raw .nilFunc]⟩ := by kernel_rfl
theorem k47 : tkOf E 47 = some (.other) := by kernel_rfl
theorem τ48 : E.τ 48 = some ⟨.other, 1, 8, [.raw .nilFunc]⟩ := by kernel_rfl
theorem k48 : tkOf E 48 = some (.other) := by kernel_rfl
theorem τ49 : E.τ 49 = some ⟨.other, 1, 8, [.raw .nilFunc]⟩ := by kernel_rfl
theorem k49 : tkOf E 49 = some (.other) := by kernel_rfl
theorem τ50 : E.τ 50 = some ⟨.struct [(0, 2), (1, 2), (2, 2)], 3, 24, [.int .i64 0, .int .i64 0, .int .i64 0]⟩ := by kernel_rfl
theorem k50 : tkOf E 50 = some (.struct [(0, 2), (1, 2), (2, 2)]) := by kernel_rfl
theorem τ51 : E.τ 51 = some ⟨.struct [(0, 2), (1, 2), (2, 2)], 3, 24, [.int .i64 0, .int .i64 0, .int .i64 0]⟩ := by kernel_rfl
theorem k51 : tkOf E 51 = some (.struct [(0, 2), (1, 2), (2, 2)]) := by kernel_rfl
theorem τ52 : E.τ 52 = some ⟨.struct [(0, 51), (3, 51)], 6, 48, [.int .i64 0, .int .i64 0, .int .i64 0, .int .i64 0, .int .i64 0, .int .i64 0]⟩ := by kernel_rfl
theorem k52 : tkOf E 52 = some (.struct [(0, 51), (3, 51)]) := by kernel_rfl
theorem τ53 : E.τ 53 = some ⟨.struct [(0, 51), (3, 51)], 6, 48, [.int .i64 0, .int .i64 0, .int .i64 0, .int .i64 0, .int .i64 0, .int .i64 0]⟩ := by kernel_rfl
theorem k53 : tkOf E 53 = some (.struct [(0, 51), (3, 51)]) := by kernel_rfl
theorem τ54 : E.τ 54 = some ⟨.other, 1, 8, [.raw .nilFunc]⟩ := by kernel_rfl
theorem k54 : tkOf E 54 = some (.other) := by kernel_rfl
theorem τ55 : E.τ 55 = some ⟨.struct [(0, 2), (1, 51)], 4, 32, [.int .i64 0, .int .i64 0, .int .i64 0, .int .i64 0]⟩ := by kernel_rfl
theorem k55 : tkOf E 55 = some (.struct [(0, 2), (1, 51)]) := by kernel_rfl
theorem τ56 : E.τ 56 = some ⟨.struct [(0, 2), (1, 51)], 4, 32, [.int .i64 0, .int .i64 0, .int .i64 0, .int .i64 0]⟩ := by kernel_rfl
theorem k56 : tkOf E 56 = some (.struct [(0, 2), (1, 51)]) := by kernel_rfl
theorem τ57 : E.τ 57 = some ⟨.other, 1, 8, [.raw .nilFunc]⟩ := by kernel_rfl
theorem k57 : tkOf E 57 = some (.other) := by kernel_rfl
theorem τ58 : E.τ 58 = some ⟨.other, 1, 8, [.raw .nilFunc]⟩ := by kernel_rfl
theorem k58 : tkOf E 58 = some (.other) := by kernel_rfl
theorem τ59 : E.τ 59 = some ⟨.other, 1, 8, [.raw .nilFunc]⟩ := by kernel_rfl
theorem k59 : tkOf E 59 = some (.other) := by kernel_rfl
theorem τ60 : E.τ 60 = some ⟨.other, 1, 0, []⟩ := by kernel_rfl
theorem k60 : tkOf E 60 = some (.other) := by kernel_rfl
theorem τ61 : E.τ 61 = some ⟨.other, 1, 8, [.raw .nilFunc]⟩ := by kernel_rfl
theorem k61 : tkOf E 61 = some (.other) := by kernel_rfl
theorem τ62 : E.τ 62 = some ⟨.other, 1, 8, [.raw .nilFunc]⟩ := by kernel_rfl
theorem k62 : tkOf E 62 = some (.other) := by kernel_rfl
theorem τ63 : E.τ 63 = some ⟨.other, 1, 8, [.raw .nilFunc]⟩ := by kernel_rfl
theorem k63 : tkOf E 63 = some (.other) := by kernel_rfl
theorem τ64 : E.τ 64 = some ⟨.other, 1, 8, [.raw .nilFunc]⟩ := by kernel_rfl
theorem k64 : tkOf E 64 = some (.other) := by kernel_rfl
theorem τ65 : E.τ 65 = some ⟨.other, 1, 8, [.raw .nilFunc]⟩ := by kernel_rfl
theorem k65 : tkOf E 65 = some (.other) := by kernel_rfl
theorem τ66 : E.τ 66 = some ⟨.other, 1, 8, [.raw .nilFunc]⟩ := by kernel_rfl
theorem k66 : tkOf E 66 = some (.other) := by kernel_rfl
theorem τ67 : E.τ 67 = some ⟨.other, 1, 8, [.raw .nilFunc]⟩ := by kernel_rfl
theorem k67 : tkOf E 67 = some (.other) := by kernel_rfl
theorem τ68 : E.τ 68 = some ⟨.other, 1, 8, [.raw .nilFunc]⟩ := by kernel_rfl
theorem k68 : tkOf E 68 = some (.other) := by kernel_rfl
theorem τ69 : E.τ 69 = some ⟨.other, 1, 8, [.raw .nilFunc]⟩ := by kernel_rfl
theorem k69 : tkOf E 69 = some (.other) := by kernel_rfl
theorem τ70 : E.τ 70 = some ⟨.other, 1, 8, [.raw .nilFunc]⟩ := by kernel_rfl
theorem k70 : tkOf E 70 = some (.other) := by kernel_rfl
theorem τ71 : E.τ 71 = some ⟨.other, 1, 8, [.raw .nilFunc]⟩ := by kernel_rfl
theorem k71 : tkOf E 71 = some (.other) := by kernel_rfl
theorem τ72 : E.τ 72 = some ⟨.other, 1, 8, [.raw .nilFunc]⟩ := by kernel_rfl
theorem k72 : tkOf E 72 = some (.other) := by kernel_rfl
theorem τ73 : E.τ 73 = some ⟨.other, 1, 8, [.raw .nilFunc]⟩ := by kernel_rfl
theorem k73 : tkOf E 73 = some (.other) := by kernel_rfl
theorem τ74 : E.τ 74 = some ⟨.other, 1, 8, [.raw .nilFunc]⟩ := by kernel_rfl
theorem k74 : tkOf E 74 = some (.other) := by kernel_rfl
theorem τ75 : E.τ 75 = some ⟨.other, 1, 8, [.raw .nilFunc]⟩ := by kernel_rfl
theorem k75 : tkOf E 75 = some (.other) := by kernel_rfl
theorem τ76 : E.τ 76 = some ⟨.struct [(0, 2), (1, 4), (2, 53)], 8, 64, [.int .i64 0, .bool false, .int .i64 0, .int .i64 0, .int .i64 0, .int .i64 0, .int .i64 0, .int .i64 0]⟩ := by kernel_rfl
theorem k76 : tkOf E 76 = some (.struct [(0, 2), (1, 4), (2, 53)]) := by kernel_rfl
theorem τ77 : E.τ 77 = some ⟨.struct [(0, 2), (1, 4), (2, 53)], 8, 64, [.int .i64 0, .bool false, .int .i64 0, .int .i64 0, .int .i64 0, .int .i64 0, .int .i64 0, .int .i64 0]⟩ := by kernel_rfl
theorem k77 : tkOf E 77 = some (.struct [(0, 2), (1, 4), (2, 53)]) := by kernel_rfl
theorem τ78 : E.τ 78 = some ⟨.other, 1, 8, [.raw .nilFunc]⟩ := by kernel_rfl
theorem k78 : tkOf E 78 = some (.other) := by kernel_rfl
theorem τ79 : E.τ 79 = some ⟨.other, 1, 8, [.raw .nilFunc]⟩ := by kernel_rfl
theorem k79 : tkOf E 79 = some (.other) := by kernel_rfl
theorem τ80 : E.τ 80 = some ⟨.other, 1, 8, [.raw .nilFunc]⟩ := by kernel_rfl
theorem k80 : tkOf E 80 = some (.other) := by kernel_rfl
theorem τ81 : E.τ 81 = some ⟨.other, 1, 8, [.raw .nilFunc]⟩ := by kernel_rfl
theorem k81 : tkOf E 81 = some (.other) := by kernel_rfl
theorem τ82 : E.τ 82 = some ⟨.other, 1, 0, []⟩ := by kernel_rfl
theorem k82 : tkOf E 82 = some (.other) := by kernel_rfl
theorem τ83 : E.τ 83 = some ⟨.other, 1, 8, [.raw .nilFunc]⟩ := by kernel_rfl
theorem k83 : tkOf E 83 = some (.other) := by kernel_rfl
theorem τ84 : E.τ 84 = some ⟨.other, 1, 8, [.raw .nilFunc]⟩ := by kernel_rfl
theorem k84 : tkOf E 84 = some (.other) := by kernel_rfl
theorem τ85 : E.τ 85 = some ⟨.other, 1, 8, [.raw .nilFunc]⟩ := by kernel_rfl
theorem k85 : tkOf E 85 = some (.other) := by kernel_rfl
theorem τ86 : E.τ 86 = some ⟨.other, 1, 8, [.raw .nilFunc]⟩ := by kernel_rfl
theorem k86 : tkOf E 86 = some (.other) := by kernel_rfl
theorem τ87 : E.τ 87 = some ⟨.other, 1, 8, [.raw .nilFunc]⟩ := by kernel_rfl
theorem k87 : tkOf E 87 = some (.other) := by kernel_rfl
theorem τ88 : E.τ 88 = some ⟨.other, 1, 8, [.raw .nilFunc]⟩ := by kernel_rfl
theorem k88 : tkOf E 88 = some (.other) := by kernel_rfl
theorem τ89 : E.τ 89 = some ⟨.other, 1, 8, [.raw .nilFunc]⟩ := by kernel_rfl
theorem k89 : tkOf E 89 = some (.other) := by kernel_rfl
theorem τ90 : E.τ 90 = some ⟨.other, 1, 8, [.raw .nilFunc]⟩ := by kernel_rfl
theorem k90 : tkOf E 90 = some (.other) := by kernel_rfl
theorem τ91 : E.τ 91 = some ⟨.other, 1, 8, [.raw .nilFunc]⟩ := by kernel_rfl
theorem k91 : tkOf E 91 = some (.other) := by kernel_rfl
theorem τ92 : E.τ 92 = some ⟨.other, 1, 8, [.raw .nilFunc]⟩ := by kernel_rfl
theorem k92 : tkOf E 92 = some (.other) := by kernel_rfl
theorem τ93 : E.τ 93 = some ⟨.other, 1, 8, [.raw .nilFunc]⟩ := by kernel_rfl
theorem k93 : tkOf E 93 = some (.other) := by kernel_rfl
theorem τ94 : E.τ 94 = some ⟨.other, 1, 8, [.raw .nilFunc]⟩ := by kernel_rfl
theorem k94 : tkOf E 94 = some (.other) := by kernel_rfl
theorem τ95 : E.τ 95 = some ⟨.other, 1, 8, [.raw .nilFunc]⟩ := by kernel_rfl
theorem k95 : tkOf E 95 = some (.other) := by kernel_rfl
theorem τ96 : E.τ 96 = some ⟨.other, 1, 8, [.raw .nilFunc]⟩ := by kernel_rfl
theorem k96 : tkOf E 96 = some (.other) := by kernel_rfl
theorem τ97 : E.τ 97 = some ⟨.other, 1, 8, [.raw .nilFunc]⟩ := by kernel_rfl
theorem k97 : tkOf E 97 = some (.other) := by kernel_rfl
theorem τ98 : E.τ 98 = some ⟨.other, 1, 8, [.raw .nilFunc]⟩ := by kernel_rfl
theorem k98 : tkOf E 98 = some (.other) := by kernel_rfl
theorem τ99 : E.τ 99 = some ⟨.slice 39, 1, 24, [.sl []]⟩ := by kernel_rfl
theorem k99 : tkOf E 99 = some (.slice 39) := by kernel_rfl
theorem τ100 : E.τ 100 = some ⟨.other, 1, 8, [.raw .nilFunc]⟩ := by kernel_rfl
theorem k100 : tkOf E 100 = some (.other) := by kernel_rfl
theorem τ101 : E.τ 101 = some ⟨.other, 1, 8, [.raw .nilFunc]⟩ := by kernel_rfl
theorem k101 : tkOf E 101 = some (.other) := by kernel_rfl
theorem τ102 : E.τ 102 = some ⟨.arr 8 39, 48, 384, [.int .i64 0, .int .i64 0, .int .i64 0, .int .i64 0, .int .i64 0, .int .i64 0, .int .i64 0, .int .i64 0, .int .i64 0, .int .i64 0, .int .i64 0, .int .i64 0, .int .i64 0, .int .i64 0, .int .i64 0, .int .i64 0, .int .i64 0, .int .i64 0, .int .i64 0, .int .i64 0, .int .i64 0, .int .i64 0, .int .i64 0, .int .i64 0, .int .i64 0, .int .i64 0, .int .i64 0, .int .i64 0, .int .i64 0, .int .i64 0, .int .i64 0, .int .i64 0, .int .i64 0, .int .i64 0, .int .i64 0, .int .i64 0, .int .i64 0, .int .i64 0, .int .i64 0, .int .i64 0, .int .i64 0, .int .i64 0, .int .i64 0, .int .i64 0, .int .i64 0, .int .i64 0, .int .i64 0, .int .i64 0]⟩ := by kernel_rfl
theorem k102 : tkOf E 102 = some (.arr 8 39) := by kernel_rfl
theorem τ103 : E.τ 103 = some ⟨.other, 1, 8, [.raw .nilFunc]⟩ := by kernel_rfl
theorem k103 : tkOf E 103 = some (.other) := by kernel_rfl
theorem τ104 : E.τ 104 = some ⟨.int .u64, 1, 8, [.int .u64 0]⟩ := by kernel_rfl
theorem k104 : tkOf E 104 = some (.int .u64) := by kernel_rfl
theorem τ105 : E.τ 105 = some ⟨.other, 1, 0, []⟩ := by kernel_rfl
theorem k105 : tkOf E 105 = some (.other) := by kernel_rfl
theorem τ106 : E.τ 106 = some ⟨.other, 1, 8, [.raw .nilFunc]⟩ := by kernel_rfl
theorem k106 : tkOf E 106 = some (.other) := by kernel_rfl
theorem τ107 : E.τ 107 = some ⟨.int .u64, 1, 8, [.int .u64 0]⟩ := by kernel_rfl
theorem k107 : tkOf E 107 = some (.int .u64) := by kernel_rfl
theorem τ108 : E.τ 108 = some ⟨.other, 1, 8, [.raw .nilFunc]⟩ := by kernel_rfl
theorem k108 : tkOf E 108 = some (.other) := by kernel_rfl
theorem τ109 : E.τ 109 = some ⟨.other, 1, 8, [.raw .nilFunc]⟩ := by kernel_rfl
theorem k109 : tkOf E 109 = some (.other) := by kernel_rfl
theorem τ110 : E.τ 110 = some ⟨.other, 1, 8, [.raw .nilFunc]⟩ := by kernel_rfl
theorem k110 : tkOf E 110 = some (.other) := by kernel_rfl
theorem τ111 : E.τ 111 = some ⟨.struct [(0, 17), (1, 17), (2, 17), (3, 9)], 4, 40, [.raw (.pointer none), .raw (.pointer none), .raw (.pointer none), .str ⟨#[]⟩]⟩ := by kernel_rfl
theorem k111 : tkOf E 111 = some (.struct [(0, 17), (1, 17), (2, 17), (3, 9)]) := by kernel_rfl
theorem τ112 : E.τ 112 = some ⟨.struct [(0, 17), (1, 17), (2, 17), (3, 9)], 4, 40, [.raw (.pointer none), .raw (.pointer none), .raw (.pointer none), .str ⟨#[]⟩]⟩ := by kernel_rfl
theorem k112 : tkOf E 112 = some (.struct [(0, 17), (1, 17), (2, 17), (3, 9)]) := by kernel_rfl
theorem τ113 : E.τ 113 = some ⟨.arr 0 16, 0, 0, []⟩ := by kernel_rfl
theorem k113 : tkOf E 113 = some (.arr 0 16) := by kernel_rfl
theorem τ114 : E.τ 114 = some ⟨.struct [(0, 113)], 0, 0, []⟩ := by kernel_rfl
theorem k114 : tkOf E 114 = some (.struct [(0, 113)]) := by kernel_rfl
theorem τ115 : E.τ 115 = some ⟨.struct [(0, 113)], 0, 0, []⟩ := by kernel_rfl
theorem k115 : tkOf E 115 = some (.struct [(0, 113)]) := by kernel_rfl
theorem τ116 : E.τ 116 = some ⟨.other, 1, 8, [.raw .nilFunc]⟩ := by kernel_rfl
theorem k116 : tkOf E 116 = some (.other) := by kernel_rfl
theorem τ117 : E.τ 117 = some ⟨.int .u32, 1, 4, [.int .u32 0]⟩ := by kernel_rfl
theorem k117 : tkOf E 117 = some (.int .u32) := by kernel_rfl
theorem τ118 : E.τ 118 = some ⟨.int .u8, 1, 1, [.int .u8 0]⟩ := by kernel_rfl
theorem k118 : tkOf E 118 = some (.int .u8) := by kernel_rfl
theorem τ119 : E.τ 119 = some ⟨.int .u8, 1, 1, [.int .u8 0]⟩ := by kernel_rfl
theorem k119 : tkOf E 119 = some (.int .u8) := by kernel_rfl
theorem τ120 : E.τ 120 = some ⟨.other, 1, 8, [.raw .nilFunc]⟩ := by kernel_rfl
theorem k120 : tkOf E 120 = some (.other) := by kernel_rfl
theorem τ121 : E.τ 121 = some ⟨.ptr 5, 1, 8, [.raw (.pointer none)]⟩ := by kernel_rfl
theorem k121 : tkOf E 121 = some (.ptr 5) := by kernel_rfl
theorem τ122 : E.τ 122 = some ⟨.int .i32, 1, 4, [.int .i32 0]⟩ := by kernel_rfl
theorem k122 : tkOf E 122 = some (.int .i32) := by kernel_rfl
theorem τ123 : E.τ 123 = some ⟨.int .i32, 1, 4, [.int .i32 0]⟩ := by kernel_rfl
theorem k123 : tkOf E 123 = some (.int .i32) := by kernel_rfl
theorem τ124 : E.τ 124 = some ⟨.struct [(0, 12), (1, 12), (2, 117), (3, 118), (4, 5), (5, 5), (6, 119), (7, 120), (8, 121), (9, 122), (10, 123)], 11, 48, [.int .u64 0, .int .u64 0, .int .u32 0, .int .u8 0, .int .u8 0, .int .u8 0, .int .u8 0, .raw .nilFunc, .raw (.pointer none), .int .i32 0, .int .i32 0]⟩ := by kernel_rfl
theorem k124 : tkOf E 124 = some (.struct [(0, 12), (1, 12), (2, 117), (3, 118), (4, 5), (5, 5), (6, 119), (7, 120), (8, 121), (9, 122), (10, 123)]) := by kernel_rfl
theorem τ125 : E.τ 125 = some ⟨.struct [(0, 12), (1, 12), (2, 117), (3, 118), (4, 5), (5, 5), (6, 119), (7, 120), (8, 121), (9, 122), (10, 123)], 11, 48, [.int .u64 0, .int .u64 0, .int .u32 0, .int .u8 0, .int .u8 0, .int .u8 0, .int .u8 0, .raw .nilFunc, .raw (.pointer none), .int .i32 0, .int .i32 0]⟩ := by kernel_rfl
theorem k125 : tkOf E 125 = some (.struct [(0, 12), (1, 12), (2, 117), (3, 118), (4, 5), (5, 5), (6, 119), (7, 120), (8, 121), (9, 122), (10, 123)]) := by kernel_rfl
theorem τ126 : E.τ 126 = some ⟨.other, 1, 8, [.raw .nilFunc]⟩ := by kernel_rfl
theorem k126 : tkOf E 126 = some (.other) := by kernel_rfl
theorem τ127 : E.τ 127 = some ⟨.other, 1, 8, [.raw (.pointer none)]⟩ := by kernel_rfl
theorem k127 : tkOf E 127 = some (.other) := by kernel_rfl
theorem e23 : cmpB E.P 23 = true := by kernel_rfl
theorem g23 : cmpTop E.P 23 = true := by kernel_rfl
theorem e25 : cmpB E.P 25 = true := by kernel_rfl
theorem g25 : cmpTop E.P 25 = true := by kernel_rfl
theorem e26 : cmpB E.P 26 = true := by kernel_rfl
theorem g26 : cmpTop E.P 26 = true := by kernel_rfl
theorem e28 : cmpB E.P 28 = true := by kernel_rfl
theorem g28 : cmpTop E.P 28 = true := by kernel_rfl
theorem e35 : cmpB E.P 35 = true := by kernel_rfl
theorem g35 : cmpTop E.P 35 = true := by kernel_rfl
theorem e39 : cmpB E.P 39 = true := by kernel_rfl
theorem g39 : cmpTop E.P 39 = true := by kernel_rfl
theorem e43 : cmpB E.P 43 = true := by kernel_rfl
theorem g43 : cmpTop E.P 43 = true := by kernel_rfl
theorem e46 : cmpB E.P 46 = true := by kernel_rfl
theorem g46 : cmpTop E.P 46 = true := by kernel_rfl
theorem e51 : cmpB E.P 51 = true := by kernel_rfl
theorem g51 : cmpTop E.P 51 = true := by kernel_rfl
theorem e53 : cmpB E.P 53 = true := by kernel_rfl
theorem g53 : cmpTop E.P 53 = true := by kernel_rfl
theorem e56 : cmpB E.P 56 = true := by kernel_rfl
theorem g56 : cmpTop E.P 56 = true := by kernel_rfl
theorem e77 : cmpB E.P 77 = true := by kernel_rfl
theorem g77 : cmpTop E.P 77 = true := by kernel_rfl
attribute [simp] τ0 k0 τ1 k1 τ2 k2 τ3 k3 τ4 k4 τ5 k5 τ6 k6 τ7 k7 τ8 k8 τ9 k9 τ10 k10 τ11 k11 τ12 k12 τ13 k13 τ14 k14 τ15 k15 τ16 k16 τ17 k17 τ18 k18 τ19 k19 τ20 k20 τ21 k21 τ22 k22 τ23 k23 τ24 k24 τ25 k25 τ26 k26 τ27 k27 τ28 k28 τ29 k29 τ30 k30 τ31 k31 τ32 k32 τ33 k33 τ34 k34 τ35 k35 τ36 k36 τ37 k37 τ38 k38 τ39 k39 τ40 k40 τ41 k41 τ42 k42 τ43 k43 τ44 k44 τ45 k45 τ46 k46 τ47 k47 τ48 k48 τ49 k49 τ50 k50 τ51 k51 τ52 k52 τ53 k53 τ54 k54 τ55 k55 τ56 k56 τ57 k57 τ58 k58 τ59 k59 τ60 k60 τ61 k61 τ62 k62 τ63 k63 τ64 k64 τ65 k65 τ66 k66 τ67 k67 τ68 k68 τ69 k69 τ70 k70 τ71 k71 τ72 k72 τ73 k73 τ74 k74 τ75 k75 τ76 k76 τ77 k77 τ78 k78 τ79 k79 τ80 k80 τ81 k81 τ82 k82 τ83 k83 τ84 k84 τ85 k85 τ86 k86 τ87 k87 τ88 k88 τ89 k89 τ90 k90 τ91 k91 τ92 k92 τ93 k93 τ94 k94 τ95 k95 τ96 k96 τ97 k97 τ98 k98 τ99 k99 τ100 k100 τ101 k101 τ102 k102 τ103 k103 τ104 k104 τ105 k105 τ106 k106 τ107 k107 τ108 k108 τ109 k109 τ110 k110 τ111 k111 τ112 k112 τ113 k113 τ114 k114 τ115 k115 τ116 k116 τ117 k117 τ118 k118 τ119 k119 τ120 k120 τ121 k121 τ122 k122 τ123 k123 τ124 k124 τ125 k125 τ126 k126 τ127 k127
attribute [simp] e23 g23 e25 g25 e26 g26 e28 g28 e35 g35 e39 g39 e43 g43 e46 g46 e51 g51 e53 g53 e56 g56 e77 g77
end Go.Vai
