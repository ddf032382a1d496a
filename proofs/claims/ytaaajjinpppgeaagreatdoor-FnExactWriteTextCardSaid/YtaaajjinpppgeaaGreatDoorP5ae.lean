/- Part 5 of the texts of a claim, joined by a program of ours (Ty, Sl, Sx, Cf). No condition. -/
import Derived.Test.YtaaajjinpppgeaaGreatDoorP5ad
import Derived.Test.YtaaajjinpppgeaaGreatDoorProg
import Derived.KernelRfl
import Derived.Lib.SplitLaws
import Derived.Shelf.Strings.Split
import Derived.Shelf.Lays
import Derived.Shelf.RegionOpenPlain
import Derived.WalkKit
import Derived.Lib.IndexBytes
set_option linter.unusedVariables false
set_option linter.unusedSimpArgs false
set_option linter.unusedSectionVars false
namespace Go.Proofs.YtaaajjinpppgeaaGreatDoor
open Go Go.Abs
def tt : Types := [
  (1, ⟨.func, 1, 8, .undef⟩),
  (2, ⟨(.int .i64), 1, 8, (.int .i64 0)⟩),
  (3, ⟨(.int .i64), 1, 8, (.int .i64 0)⟩),
  (4, ⟨.bool, 1, 1, (.bool false)⟩),
  (5, ⟨(.int .u8), 1, 1, (.int .u8 0)⟩),
  (6, ⟨(.int .u8), 1, 1, (.int .u8 0)⟩),
  (7, ⟨(.struct [(0, 2), (1, 3), (2, 4), (3, 6)]), 4, 24, (.agg [(.int .i64 0), (.int .i64 0), (.bool false), (.int .u8 0)])⟩),
  (8, ⟨(.struct [(0, 2), (1, 3), (2, 4), (3, 6)]), 4, 24, (.agg [(.int .i64 0), (.int .i64 0), (.bool false), (.int .u8 0)])⟩),
  (9, ⟨.str, 1, 16, (.str ⟨#[]⟩)⟩),
  (10, ⟨.str, 1, 16, (.str ⟨#[]⟩)⟩),
  (11, ⟨.str, 1, 16, (.str ⟨#[]⟩)⟩),
  (12, ⟨(.int .u64), 1, 8, (.int .u64 0)⟩),
  (13, ⟨(.struct [(0, 9), (1, 12)]), 2, 24, (.agg [(.str ⟨#[]⟩), (.int .u64 0)])⟩),
  (14, ⟨(.struct [(0, 9), (1, 12)]), 2, 24, (.agg [(.str ⟨#[]⟩), (.int .u64 0)])⟩),
  (15, ⟨.ptr, 1, 8, .undef⟩),
  (16, ⟨.ptr, 1, 8, .undef⟩),
  (17, ⟨.ptr, 1, 8, .undef⟩),
  (18, ⟨(.struct [(0, 17)]), 1, 8, (.agg [.undef])⟩),
  (19, ⟨(.struct [(0, 17)]), 1, 8, (.agg [.undef])⟩),
  (21, ⟨(.int .i32), 1, 4, (.int .i32 0)⟩),
  (22, ⟨(.slice 5), 1, 24, .nil⟩),
  (23, ⟨.func, 1, 8, .undef⟩),
  (24, ⟨(.slice 4), 1, 24, .nil⟩),
  (25, ⟨(.struct [(0, 24), (1, 24)]), 2, 48, (.agg [.nil, .nil])⟩),
  (26, ⟨(.struct [(0, 24), (1, 24)]), 2, 48, (.agg [.nil, .nil])⟩),
  (27, ⟨(.slice 60), 1, 24, .nil⟩),
  (28, ⟨(.slice 64), 1, 24, .nil⟩),
  (29, ⟨(.struct [(0, 26), (2, 27), (3, 28)]), 4, 96, (.agg [.nil, .nil, .nil, .nil])⟩),
  (30, ⟨(.struct [(0, 26), (2, 27), (3, 28)]), 4, 96, (.agg [.nil, .nil, .nil, .nil])⟩),
  (31, ⟨(.slice 99), 1, 24, .nil⟩),
  (32, ⟨(.struct [(0, 30), (4, 24), (5, 31), (6, 3)]), 7, 152, (.agg [.nil, .nil, .nil, .nil, .nil, .nil, (.int .i64 0)])⟩),
  (33, ⟨(.struct [(0, 30), (4, 24), (5, 31), (6, 3)]), 7, 152, (.agg [.nil, .nil, .nil, .nil, .nil, .nil, (.int .i64 0)])⟩),
  (34, ⟨(.slice 9), 1, 24, .nil⟩),
  (35, ⟨(.struct [(0, 34)]), 1, 24, (.agg [.nil])⟩),
  (36, ⟨(.struct [(0, 34)]), 1, 24, (.agg [.nil])⟩),
  (37, ⟨(.struct [(0, 33), (7, 36)]), 8, 176, (.agg [.nil, .nil, .nil, .nil, .nil, .nil, (.int .i64 0), .nil])⟩),
  (38, ⟨(.struct [(0, 33), (7, 36)]), 8, 176, (.agg [.nil, .nil, .nil, .nil, .nil, .nil, (.int .i64 0), .nil])⟩),
  (39, ⟨.func, 1, 8, .undef⟩),
  (41, ⟨.func, 1, 8, .undef⟩),
  (42, ⟨.func, 1, 8, .undef⟩),
  (43, ⟨.func, 1, 8, .undef⟩),
  (44, ⟨(.slice 3), 1, 24, .nil⟩),
  (45, ⟨.func, 1, 8, .undef⟩),
  (46, ⟨.func, 1, 8, .undef⟩),
  (48, ⟨.func, 1, 8, .undef⟩),
  (49, ⟨(.slice 54), 1, 24, .nil⟩),
  (50, ⟨.func, 1, 8, .undef⟩),
  (51, ⟨.func, 1, 8, .undef⟩),
  (52, ⟨.func, 1, 8, .undef⟩),
  (53, ⟨(.struct [(0, 9), (1, 4), (2, 9), (3, 9)]), 4, 56, (.agg [(.str ⟨#[]⟩), (.bool false), (.str ⟨#[]⟩), (.str ⟨#[]⟩)])⟩),
  (54, ⟨(.struct [(0, 9), (1, 4), (2, 9), (3, 9)]), 4, 56, (.agg [(.str ⟨#[]⟩), (.bool false), (.str ⟨#[]⟩), (.str ⟨#[]⟩)])⟩),
  (56, ⟨.func, 1, 8, .undef⟩),
  (57, ⟨.func, 1, 8, .undef⟩),
  (58, ⟨.func, 1, 8, .undef⟩),
  (59, ⟨(.struct [(0, 3), (1, 3), (2, 44)]), 3, 40, (.agg [(.int .i64 0), (.int .i64 0), .nil])⟩),
  (60, ⟨(.struct [(0, 3), (1, 3), (2, 44)]), 3, 40, (.agg [(.int .i64 0), (.int .i64 0), .nil])⟩),
  (61, ⟨.func, 1, 8, .undef⟩),
  (62, ⟨(.slice 130), 1, 24, .nil⟩),
  (63, ⟨(.struct [(0, 4), (1, 62), (2, 9)]), 3, 48, (.agg [(.bool false), .nil, (.str ⟨#[]⟩)])⟩),
  (64, ⟨(.struct [(0, 4), (1, 62), (2, 9)]), 3, 48, (.agg [(.bool false), .nil, (.str ⟨#[]⟩)])⟩),
  (65, ⟨(.struct [(0, 24), (1, 24)]), 2, 48, (.agg [.nil, .nil])⟩),
  (66, ⟨(.slice 224), 1, 24, .nil⟩),
  (67, ⟨(.slice 228), 1, 24, .nil⟩),
  (68, ⟨(.struct [(0, 65), (2, 66), (3, 67)]), 4, 96, (.agg [.nil, .nil, .nil, .nil])⟩),
  (69, ⟨(.struct [(0, 65), (2, 66), (3, 67)]), 4, 96, (.agg [.nil, .nil, .nil, .nil])⟩),
  (70, ⟨(.slice 192), 1, 24, .nil⟩),
  (71, ⟨(.struct [(0, 69), (4, 24), (5, 70), (6, 3)]), 7, 152, (.agg [.nil, .nil, .nil, .nil, .nil, .nil, (.int .i64 0)])⟩),
  (72, ⟨(.struct [(0, 69), (4, 24), (5, 70), (6, 3)]), 7, 152, (.agg [.nil, .nil, .nil, .nil, .nil, .nil, (.int .i64 0)])⟩),
  (73, ⟨.func, 1, 8, .undef⟩),
  (74, ⟨.func, 1, 8, .undef⟩),
  (75, ⟨.func, 1, 8, .undef⟩),
  (76, ⟨.func, 1, 8, .undef⟩),
  (77, ⟨.func, 1, 8, .undef⟩),
  (79, ⟨.func, 1, 8, .undef⟩),
  (80, ⟨.func, 1, 8, .undef⟩),
  (81, ⟨.func, 1, 8, .undef⟩),
  (82, ⟨.func, 1, 8, .undef⟩),
  (84, ⟨.func, 1, 8, .undef⟩),
  (85, ⟨.func, 1, 8, .undef⟩),
  (86, ⟨.func, 1, 8, .undef⟩),
  (87, ⟨.func, 1, 8, .undef⟩),
  (88, ⟨.func, 1, 8, .undef⟩),
  (89, ⟨.ptr, 1, 8, .undef⟩),
  (90, ⟨.func, 1, 8, .undef⟩),
  (91, ⟨.func, 1, 8, .undef⟩),
  (92, ⟨.func, 1, 8, .undef⟩),
  (93, ⟨.func, 1, 8, .undef⟩),
  (95, ⟨.func, 1, 8, .undef⟩),
  (96, ⟨.func, 1, 8, .undef⟩),
  (97, ⟨.func, 1, 8, .undef⟩),
  (98, ⟨(.struct [(0, 3), (1, 3), (2, 3), (3, 3), (4, 3), (5, 3), (6, 9), (7, 4), (8, 4), (9, 3), (10, 44)]), 11, 104, (.agg [(.int .i64 0), (.int .i64 0), (.int .i64 0), (.int .i64 0), (.int .i64 0), (.int .i64 0), (.str ⟨#[]⟩), (.bool false), (.bool false), (.int .i64 0), .nil])⟩),
  (99, ⟨(.struct [(0, 3), (1, 3), (2, 3), (3, 3), (4, 3), (5, 3), (6, 9), (7, 4), (8, 4), (9, 3), (10, 44)]), 11, 104, (.agg [(.int .i64 0), (.int .i64 0), (.int .i64 0), (.int .i64 0), (.int .i64 0), (.int .i64 0), (.str ⟨#[]⟩), (.bool false), (.bool false), (.int .i64 0), .nil])⟩),
  (100, ⟨.ptr, 1, 8, .undef⟩),
  (101, ⟨.func, 1, 8, .undef⟩),
  (102, ⟨.func, 1, 8, .undef⟩),
  (103, ⟨.func, 1, 8, .undef⟩),
  (105, ⟨.func, 1, 8, .undef⟩),
  (106, ⟨.func, 1, 8, .undef⟩),
  (107, ⟨.func, 1, 8, .undef⟩),
  (108, ⟨.func, 1, 8, .undef⟩),
  (109, ⟨.func, 1, 8, .undef⟩),
  (111, ⟨.func, 1, 8, .undef⟩),
  (112, ⟨.func, 1, 8, .undef⟩),
  (113, ⟨.func, 1, 8, .undef⟩),
  (115, ⟨.func, 1, 8, .undef⟩),
  (116, ⟨.func, 1, 8, .undef⟩),
  (117, ⟨.func, 1, 8, .undef⟩),
  (118, ⟨.func, 1, 8, .undef⟩),
  (119, ⟨.func, 1, 8, .undef⟩),
  (120, ⟨.func, 1, 8, .undef⟩),
  (121, ⟨.func, 1, 8, .undef⟩),
  (122, ⟨.func, 1, 8, .undef⟩),
  (124, ⟨.func, 1, 8, .undef⟩),
  (125, ⟨.func, 1, 8, .undef⟩),
  (126, ⟨.func, 1, 8, .undef⟩),
  (127, ⟨.func, 1, 8, .undef⟩),
  (128, ⟨.func, 1, 8, .undef⟩),
  (129, ⟨(.struct [(0, 9), (1, 3)]), 2, 24, (.agg [(.str ⟨#[]⟩), (.int .i64 0)])⟩),
  (130, ⟨(.struct [(0, 9), (1, 3)]), 2, 24, (.agg [(.str ⟨#[]⟩), (.int .i64 0)])⟩),
  (131, ⟨.func, 1, 8, .undef⟩),
  (132, ⟨.func, 1, 8, .undef⟩),
  (133, ⟨.func, 1, 8, .undef⟩),
  (134, ⟨.func, 1, 8, .undef⟩),
  (135, ⟨.func, 1, 8, .undef⟩),
  (136, ⟨.func, 1, 8, .undef⟩),
  (137, ⟨.func, 1, 8, .undef⟩),
  (138, ⟨.func, 1, 8, .undef⟩),
  (139, ⟨.func, 1, 8, .undef⟩),
  (140, ⟨.func, 1, 8, .undef⟩),
  (141, ⟨.func, 1, 8, .undef⟩),
  (142, ⟨.func, 1, 8, .undef⟩),
  (143, ⟨.func, 1, 8, .undef⟩),
  (144, ⟨.func, 1, 8, .undef⟩),
  (145, ⟨.func, 1, 8, .undef⟩),
  (146, ⟨.func, 1, 8, .undef⟩),
  (148, ⟨.func, 1, 8, .undef⟩),
  (149, ⟨.func, 1, 8, .undef⟩),
  (151, ⟨.func, 1, 8, .undef⟩),
  (152, ⟨.func, 1, 8, .undef⟩),
  (153, ⟨.func, 1, 8, .undef⟩),
  (154, ⟨.func, 1, 8, .undef⟩),
  (155, ⟨(.struct [(0, 22), (1, 3), (2, 3)]), 3, 40, (.agg [.nil, (.int .i64 0), (.int .i64 0)])⟩),
  (156, ⟨(.struct [(0, 22), (1, 3), (2, 3)]), 3, 40, (.agg [.nil, (.int .i64 0), (.int .i64 0)])⟩),
  (157, ⟨(.int .u64), 1, 8, (.int .u64 0)⟩),
  (158, ⟨.func, 1, 8, .undef⟩),
  (159, ⟨.func, 1, 8, .undef⟩),
  (160, ⟨.func, 1, 8, .undef⟩),
  (162, ⟨.func, 1, 8, .undef⟩),
  (163, ⟨.func, 1, 8, .undef⟩),
  (164, ⟨.func, 1, 8, .undef⟩),
  (165, ⟨.func, 1, 8, .undef⟩),
  (166, ⟨.func, 1, 8, .undef⟩),
  (167, ⟨.func, 1, 8, .undef⟩),
  (168, ⟨.func, 1, 8, .undef⟩),
  (169, ⟨.func, 1, 8, .undef⟩),
  (170, ⟨.func, 1, 8, .undef⟩),
  (171, ⟨.func, 1, 8, .undef⟩),
  (172, ⟨.func, 1, 8, .undef⟩),
  (173, ⟨.func, 1, 8, .undef⟩),
  (174, ⟨.func, 1, 8, .undef⟩),
  (175, ⟨.func, 1, 8, .undef⟩),
  (176, ⟨.func, 1, 8, .undef⟩),
  (177, ⟨.func, 1, 8, .undef⟩),
  (179, ⟨.func, 1, 8, .undef⟩),
  (180, ⟨.func, 1, 8, .undef⟩),
  (181, ⟨.func, 1, 8, .undef⟩),
  (183, ⟨.func, 1, 8, .undef⟩),
  (185, ⟨.func, 1, 8, .undef⟩),
  (186, ⟨.func, 1, 8, .undef⟩),
  (187, ⟨.func, 1, 8, .undef⟩),
  (188, ⟨.func, 1, 8, .undef⟩),
  (189, ⟨.func, 1, 8, .undef⟩),
  (190, ⟨.func, 1, 8, .undef⟩),
  (191, ⟨.func, 1, 8, .undef⟩),
  (192, ⟨(.struct [(0, 3), (1, 3), (2, 3), (3, 3), (4, 3), (5, 3), (6, 9), (7, 4), (8, 4), (9, 3), (10, 44)]), 11, 104, (.agg [(.int .i64 0), (.int .i64 0), (.int .i64 0), (.int .i64 0), (.int .i64 0), (.int .i64 0), (.str ⟨#[]⟩), (.bool false), (.bool false), (.int .i64 0), .nil])⟩),
  (193, ⟨.func, 1, 8, .undef⟩),
  (194, ⟨.func, 1, 8, .undef⟩),
  (195, ⟨.func, 1, 8, .undef⟩),
  (196, ⟨.func, 1, 8, .undef⟩),
  (197, ⟨.func, 1, 8, .undef⟩),
  (198, ⟨.func, 1, 8, .undef⟩),
  (199, ⟨.func, 1, 8, .undef⟩),
  (200, ⟨.func, 1, 8, .undef⟩),
  (201, ⟨.func, 1, 8, .undef⟩),
  (202, ⟨.func, 1, 8, .undef⟩),
  (203, ⟨.func, 1, 8, .undef⟩),
  (204, ⟨.func, 1, 8, .undef⟩),
  (205, ⟨.func, 1, 8, .undef⟩),
  (206, ⟨.func, 1, 8, .undef⟩),
  (207, ⟨.func, 1, 8, .undef⟩),
  (208, ⟨.func, 1, 8, .undef⟩),
  (209, ⟨.func, 1, 8, .undef⟩),
  (210, ⟨.func, 1, 8, .undef⟩),
  (211, ⟨.func, 1, 8, .undef⟩),
  (212, ⟨.func, 1, 8, .undef⟩),
  (213, ⟨.func, 1, 8, .undef⟩),
  (214, ⟨.func, 1, 8, .undef⟩),
  (215, ⟨.func, 1, 8, .undef⟩),
  (216, ⟨.func, 1, 8, .undef⟩),
  (217, ⟨.func, 1, 8, .undef⟩),
  (218, ⟨.ptr, 1, 8, .undef⟩),
  (219, ⟨.func, 1, 8, .undef⟩),
  (220, ⟨.func, 1, 8, .undef⟩),
  (222, ⟨.func, 1, 8, .undef⟩),
  (223, ⟨.func, 1, 8, .undef⟩),
  (224, ⟨(.struct [(0, 3), (1, 3), (2, 44)]), 3, 40, (.agg [(.int .i64 0), (.int .i64 0), .nil])⟩),
  (225, ⟨.func, 1, 8, .undef⟩),
  (226, ⟨(.slice 251), 1, 24, .nil⟩),
  (227, ⟨(.struct [(0, 4), (1, 226), (2, 9)]), 3, 48, (.agg [(.bool false), .nil, (.str ⟨#[]⟩)])⟩),
  (228, ⟨(.struct [(0, 4), (1, 226), (2, 9)]), 3, 48, (.agg [(.bool false), .nil, (.str ⟨#[]⟩)])⟩),
  (229, ⟨.func, 1, 8, .undef⟩),
  (230, ⟨.func, 1, 8, .undef⟩),
  (231, ⟨.func, 1, 8, .undef⟩),
  (232, ⟨.func, 1, 8, .undef⟩),
  (233, ⟨.func, 1, 8, .undef⟩),
  (234, ⟨.func, 1, 8, .undef⟩),
  (235, ⟨.func, 1, 8, .undef⟩),
  (236, ⟨.func, 1, 8, .undef⟩),
  (237, ⟨.func, 1, 8, .undef⟩),
  (238, ⟨.func, 1, 8, .undef⟩),
  (239, ⟨.func, 1, 8, .undef⟩),
  (240, ⟨.func, 1, 8, .undef⟩),
  (242, ⟨.func, 1, 8, .undef⟩),
  (243, ⟨.func, 1, 8, .undef⟩),
  (244, ⟨.func, 1, 8, .undef⟩),
  (245, ⟨.func, 1, 8, .undef⟩),
  (246, ⟨.func, 1, 8, .undef⟩),
  (247, ⟨.func, 1, 8, .undef⟩),
  (248, ⟨.func, 1, 8, .undef⟩),
  (249, ⟨.func, 1, 8, .undef⟩),
  (250, ⟨.func, 1, 8, .undef⟩),
  (251, ⟨(.struct [(0, 9), (1, 3)]), 2, 24, (.agg [(.str ⟨#[]⟩), (.int .i64 0)])⟩),
  (252, ⟨.func, 1, 8, .undef⟩),
  (253, ⟨.func, 1, 8, .undef⟩),
  (255, ⟨.func, 1, 8, .undef⟩),
  (256, ⟨.func, 1, 8, .undef⟩),
  (257, ⟨.func, 1, 8, .undef⟩),
  (259, ⟨(.struct [(0, 5), (1, 5)]), 2, 2, (.agg [(.int .u8 0), (.int .u8 0)])⟩),
  (260, ⟨(.struct [(0, 5), (1, 5)]), 2, 2, (.agg [(.int .u8 0), (.int .u8 0)])⟩),
  (262, ⟨(.int .u32), 1, 4, (.int .u32 0)⟩),
  (264, ⟨.func, 1, 8, .undef⟩),
  (265, ⟨.func, 1, 8, .undef⟩),
  (266, ⟨(.struct [(0, 17), (1, 17), (2, 17), (3, 9)]), 4, 40, (.agg [.undef, .undef, .undef, (.str ⟨#[]⟩)])⟩),
  (267, ⟨(.struct [(0, 17), (1, 17), (2, 17), (3, 9)]), 4, 40, (.agg [.undef, .undef, .undef, (.str ⟨#[]⟩)])⟩),
  (269, ⟨(.struct [(0, 268)]), 0, 0, (.agg [])⟩),
  (270, ⟨(.struct [(0, 268)]), 0, 0, (.agg [])⟩),
  (271, ⟨.func, 1, 8, .undef⟩),
  (272, ⟨(.int .u8), 1, 1, (.int .u8 0)⟩),
  (273, ⟨(.int .u8), 1, 1, (.int .u8 0)⟩),
  (274, ⟨.func, 1, 8, .undef⟩),
  (275, ⟨.ptr, 1, 8, .undef⟩),
  (276, ⟨(.int .i32), 1, 4, (.int .i32 0)⟩),
  (277, ⟨(.int .i32), 1, 4, (.int .i32 0)⟩),
  (278, ⟨(.struct [(0, 12), (1, 12), (2, 262), (3, 272), (4, 5), (5, 5), (6, 273), (7, 274), (8, 275), (9, 276), (10, 277)]), 11, 48, (.agg [(.int .u64 0), (.int .u64 0), (.int .u32 0), (.int .u8 0), (.int .u8 0), (.int .u8 0), (.int .u8 0), .undef, .undef, (.int .i32 0), (.int .i32 0)])⟩),
  (279, ⟨(.struct [(0, 12), (1, 12), (2, 262), (3, 272), (4, 5), (5, 5), (6, 273), (7, 274), (8, 275), (9, 276), (10, 277)]), 11, 48, (.agg [(.int .u64 0), (.int .u64 0), (.int .u32 0), (.int .u8 0), (.int .u8 0), (.int .u8 0), (.int .u8 0), .undef, .undef, (.int .i32 0), (.int .i32 0)])⟩)]
theorem tt_rows : tt.map (fun r => tyOf Tryz.prog r.1) = tt.map (fun r => some r.2) := by kernel_rfl
theorem mixed : Tryz.prog.follows .mixedOrders = true := by kernel_rfl
end Go.Proofs.YtaaajjinpppgeaaGreatDoor
namespace Go.Abs
open Go Go.Lib
def cutS (c : UInt8) : List UInt8 → List UInt8 → List (List UInt8)
  | cur, [] => [cur]
  | cur, b :: r => if b = c then cur :: cutS c [] r else cutS c (cur ++ [b]) r
def onto (x : List UInt8) : List (List UInt8) → List (List UInt8)
  | [] => []
  | p :: ps => (x ++ p) :: ps
theorem cutS_cur (c : UInt8) : ∀ (r cur : List UInt8), cutS c cur r = onto cur (cutS c [] r)
  | [], cur => by simp [cutS, onto]
  | b :: r, cur => by
    unfold cutS
    by_cases h : b = c
    · rw [if_pos h, if_pos h]; simp [onto]
    · rw [if_neg h, if_neg h, cutS_cur c r (cur ++ [b]), cutS_cur c r ([] ++ [b])]
      cases cutS c [] r <;> simp [onto]
theorem index_ne (b c : UInt8) (l : List UInt8) (h : b ≠ c) : index (b :: l) [c] = if index l [c] == -1 then -1 else index l [c] + 1 := by
  have hp : ([c] : List UInt8).isPrefixOf (b :: l) = false := by simp [List.isPrefixOf, Ne.symm h]
  rw [index, hp]; simp
theorem index_eq (c : UInt8) (l : List UInt8) : index (c :: l) [c] = ((0 : Nat) : Int) := by rw [index]; simp [List.isPrefixOf]
theorem splitK_ne (b c : UInt8) (l : List UInt8) (h : b ≠ c) (k : Nat) : splitK [c] 0 k (b :: l) = onto [b] (splitK [c] 0 k l) := by
  cases k with
  | zero => rfl
  | succ k =>
    unfold splitK
    rw [index_ne b c l h]
    by_cases hm : index l [c] = -1
    · simp [hm, onto]
    · have hge := index_ge l [c]
      obtain ⟨j, hj⟩ : ∃ j : Nat, index l [c] = j := ⟨(index l [c]).toNat, by omega⟩
      have n1 : ¬ ((j : Int) == -1) = true := by simp
      have n2 : ¬ ((j : Int) + 1 == -1) = true := by simp; omega
      have e1 : ((j : Int) + 1).toNat = j + 1 := by omega
      rw [hj, if_neg n1, if_neg n2, e1]
      simp [onto]
theorem split_cut (c : UInt8) : ∀ s : List UInt8, splitK [c] 0 (s.count c) s = cutS c [] s
  | [] => rfl
  | b :: l => by
    by_cases h : b = c
    · subst h
      rw [List.count_cons_self]
      unfold splitK cutS
      rw [index_eq, if_pos rfl]
      have : ¬ (((0 : Nat) : Int) == -1) = true := by decide
      rw [if_neg this]
      simp
      exact split_cut b l
    · rw [List.count_cons_of_ne (by simpa using h), splitK_ne b c l h, split_cut c l]
      rw [show cutS c [] (b :: l) = cutS c [b] l from by simp [cutS, h], cutS_cur c l [b]]
def pieces (c : UInt8) (s : List UInt8) : List ByteArray := (cutS c [] s).map fun l => ⟨l.toArray⟩
theorem split_pieces (c : UInt8) (s : ByteArray) : splitB ⟨#[c]⟩ 0 (countB s ⟨#[c]⟩) s = pieces c s.data.toList := by
  have h := splitB_data ⟨#[c]⟩ 0 (countB s ⟨#[c]⟩) s
  have e : countB s ⟨#[c]⟩ = s.data.toList.count c := by
    show count s.data.toList [c] = _
    exact count_one c _
  rw [e] at h ⊢
  rw [show (⟨#[c]⟩ : ByteArray).data.toList = [c] from rfl, split_cut] at h
  unfold pieces
  rw [← h, List.map_map]
  symm
  rw [List.map_congr_left (g := id) (fun x _ => ?_), List.map_id]
  cases x; rfl
end Go.Abs
namespace Go.Abs
open Go Go.RowKit Go.Lib
def splitO (args : List AV) (mem : Mem) : Option (AV × Mem) := match args, mem with
  | [.str s, .str ⟨⟨[c]⟩⟩], [] => cond (Nat.blt s.size 4294967281) (some (.own 1 ((pieces c s.data.toList).map AV.str), [])) none
  | _, _ => none
theorem relL_at {w : World} {m : IdMap} {d X : Nat → Prop} {xs : List AV} {vs : List Value} (h : RelL w m d X xs vs []) {k : Nat} {a : AV} (hk : xs[k]? = some a) : ∃ v, vs[k]? = some v ∧ RelV w m d X a v [] := by
  obtain ⟨u, G, h1, h2, h3⟩ := h.get hk
  have : G = [] := List.eq_nil_iff_forall_not_mem.2 fun x hx => by cases h3 x hx
  subst this
  exact ⟨u, h1, h2⟩
theorem strs_rel {w : World} {m : IdMap} {d X : Nat → Prop} : ∀ (l : List ByteArray), RelL w m d X (l.map AV.str) (l.map Value.string) []
  | [] => .nil
  | s :: l => .cons (F := []) (.str s) (strs_rel l)
theorem flat_strs : ∀ (l : List ByteArray), flat (l.map AV.str) = l.map AV.str
  | [] => rfl
  | s :: l => by show AV.cells (.str s) ++ flat (l.map _) = _; rw [flat_strs l]; rfl
theorem even_strs (l : List ByteArray) : Even 1 (l.map AV.str) := by
  intro x hx
  obtain ⟨z, _, rfl⟩ := List.mem_map.1 hx
  rfl
def Splits (P : Program) (f : FuncId) : Prop := ∀ (s : ByteArray) (c : UInt8) (w : World), s.size < 4294967281 →
  Calls P f #[.string s, .string ⟨#[c]⟩] w fun e w' => e = .returned (.slice (some ⟨w.heap.size, 0, none⟩) (countB s ⟨#[c]⟩ + 1) (countB s ⟨#[c]⟩ + 1)) ∧ ∃ ty, w' = w.alloc (.cells ((splitB ⟨#[c]⟩ 0 (countB s ⟨#[c]⟩) s).map Value.string).toArray ty)
theorem split_calls {P : Program} {f : FuncId} (hs : Splits P f) {s : ByteArray} {c : UInt8} (hl : s.size < 4294967281) : ACalls P f [.str s, .str ⟨#[c]⟩] (.own 1 ((pieces c s.data.toList).map AV.str)) := by
  intro Y w vs ha
  have hlen := ha.length
  match vs, hlen with
  | [v0, v1], _ =>
  obtain ⟨v0', e0, h0⟩ := relL_at ha (k := 0) rfl
  obtain ⟨v1', e1, h1⟩ := relL_at ha (k := 1) rfl
  cases e0; cases e1; cases h0; cases h1
  have hp := split_pieces c s
  have hn := splitB_all ⟨#[c]⟩ (Nat.le_refl 1) 0 _ s rfl
  rw [hp] at hn
  refine Calls.mono (hs s c w hl) ?_
  rintro e w' ⟨rfl, ty, rfl⟩
  rw [hp]
  show ∃ F : List Nat, _
  refine ⟨[w.heap.size], by simp, ?_, ?_, evo_alloc _ _ _⟩
  · intro b hb
    cases List.mem_singleton.1 hb
    exact ⟨Nat.le_refl _, by show _ < (w.heap.push _).size; simp⟩
  · have h2 := RelV.own (w := w.alloc (.cells ((pieces c s.data.toList).map Value.string).toArray ty)) (m := m0) (d := d0) (X := fun b => Y b ∨ b ∈ [w.heap.size]) (s := 1) (xs := (pieces c s.data.toList).map AV.str)
      (ys := (pieces c s.data.toList).map AV.str) (vs := (pieces c s.data.toList).map Value.string) (b := w.heap.size) (o := 0) (cap := (pieces c s.data.toList).length) (F := [])
      (by rw [List.length_map]; exact Nat.le_refl _) (even_strs _) ⟨_, ty, heap_alloc_same _ _, fun j v hj => by simpa using hj, by simp⟩ (flat_strs _) (strs_rel _)
    rw [List.length_map, hn] at h2
    exact h2
theorem split_orc {P : Program} {f : FuncId} {fn : Func} {c : Code} (hf : P.funcs[f]? = some fn) (hname : (fn.name == "runtime.NumGoroutine") = false) (hb : fn.body = some c) (hs : Splits P f) : OrcOk P f splitO where
  fn := ⟨fn, c, hf, hname, hb⟩
  pure := by
    intro args res h
    unfold splitO at h
    split at h
    case h_2 => cases h
    rename_i s c _
    cases hb : Nat.blt s.size 4294967281 with
    | false => rw [hb] at h; cases h
    | true =>
      rw [hb] at h; cases h
      exact split_calls hs (Nat.le_of_ble_eq_true hb)
  wr := by
    intro args mem res mem' h hx _
    unfold splitO at h
    split at h
    case h_2 => cases h
    rename_i s c _
    cases hb : Nat.blt s.size 4294967281 with
    | false => rw [hb] at h; cases h
    | true => rw [hb] at h; cases h; exact Bool.noConfusion (show false = true from hx)
  qt := by
    intro args mem res h
    unfold splitO at h
    split at h
    case h_2 => cases h
    rename_i e
    cases e
end Go.Abs
namespace Go.Abs
open Go Go.Proofs Go.Shelf Go.RowKit Go.Lib
section
variable {P : Program} {ρ : Ren}
set_option maxHeartbeats 1000000 in
theorem split_one (L : Lays.n146 P ρ) (hi9 : (P.info? (ρ.t 9)).map (fun i => (i.zero, i.size, i.bytes)) = some (some (.string ByteArray.empty), 1, 16)) : Splits P (ρ.f 146) := by
  intro s b w hs
  have hle := Lib.countB_le ⟨#[b]⟩ (Nat.le_refl 1) s.size s (Nat.le_refl _)
  have hlen := Lib.splitB_all ⟨#[b]⟩ (Nat.le_refl 1) 0 _ s rfl
  have c := Any.strings_genSplit_core { L with } hi9 s ⟨#[b]⟩ 0 (-1) (Lib.countB s ⟨#[b]⟩ + 1) w hs (Nat.le_refl 1) (Nat.zero_le _)
    (fun x k _ => (Any.strings_Index_one { L with } x b _).mono fun e w' ⟨he, hw⟩ => ⟨by rw [he, ← Lib.index_one] <;> rfl, hw⟩)
    ((Any.strings_Count_one { L with } s b w).mono fun e w' ⟨he, hw⟩ => ⟨by rw [he]; show _ = Ending.returned (Value.int .i64 ((Lib.count s.data.toList [b] : Nat) : Int)); rw [Lib.count_one]; rfl, hw⟩)
    (by decide) (by decide) (by rw [if_pos (by decide)]; omega)
  rw [Nat.add_sub_cancel, hlen] at c
  have e2 : Lib.cellsOf (Lib.splitB ⟨#[b]⟩ 0 (Lib.countB s ⟨#[b]⟩) s) (Lib.countB s ⟨#[b]⟩ + 1) = ((Lib.splitB ⟨#[b]⟩ 0 (Lib.countB s ⟨#[b]⟩) s).map Value.string).toArray := by rw [← hlen]; exact Lib.cellsOf_full _
  rw [e2] at c
  have t3 := L.t3; have t9 := L.t9; have t31 := L.t31
  have a3 := L.a3; have a9 := L.a9; have a31 := L.a31
  have z3 := L.z3; have v3 := L.v3; have z9 := L.z9; have v9 := L.v9; have z31 := L.z31; have v31 := L.v31
  have e221 : ∀ args w, (callFunc (ρ.f 221) args).run P w = .ok (.enter (ρ.f 221) args) w := enters_of L.f221 (by kernel_rfl) rfl
  go_enter L.f146, Body.n146_ntmps ρ
  go_wp2_with (go_at_fn (ρ.f 221); refine c.mono ?_; rintro e w' ⟨rfl, hw⟩; rw [hw])
  go_ret
  exact ⟨rfl, _, rfl⟩
end
end Go.Abs
namespace Go.Proofs
open Go.Shelf
def Tryz.lays146_ren : Go.Shelf.Ren := ⟨fun | 146 => 181 | 221 => 234 | 268 => 252 | 138 => 253 | 143 => 254 | 195 => 259 | 197 => 260 | 218 => 261 | 219 => 262 | 260 => 264 | 217 => 265 | 225 => 266 | 224 => 267 | 267 => 268 | 266 => 269 | 314 => 270 | n => n, fun | 9 => 9 | 31 => 34 | 3 => 3 | 4 => 4 | 0 => 0 | 105 => 254 | 21 => 21 | 5 => 5 | 46 => 157 | 119 => 258 | 139 => 261 | 138 => 260 | 146 => 263 | 51 => 262 | n => n, fun | 1 => 0 | 3 => 1 | 4 => 2 | n => n⟩
theorem Tryz.lays146 : Go.Proofs.Lays.n146 Tryz.prog Tryz.lays146_ren := {
  mixed := by kernel_rfl
  f138 := Tryz.func253.trans (congrArg some (by kernel_rfl))
  f143 := Tryz.func254.trans (congrArg some (by kernel_rfl))
  f146 := Tryz.func181.trans (congrArg some (by kernel_rfl))
  f195 := Tryz.func259.trans (congrArg some (by kernel_rfl))
  f197 := Tryz.func260.trans (congrArg some (by kernel_rfl))
  f217 := Tryz.func265.trans (congrArg some (by kernel_rfl))
  f218 := Tryz.func261.trans (congrArg some (by kernel_rfl))
  f219 := Tryz.func262.trans (congrArg some (by kernel_rfl))
  f221 := Tryz.func234.trans (congrArg some (by kernel_rfl))
  f224 := Tryz.func267.trans (congrArg some (by kernel_rfl))
  f225 := Tryz.func266.trans (congrArg some (by kernel_rfl))
  f260 := Tryz.func264.trans (congrArg some (by kernel_rfl))
  f266 := Tryz.func269.trans (congrArg some (by kernel_rfl))
  f267 := Tryz.func268.trans (congrArg some (by kernel_rfl))
  f268 := Tryz.func252.trans (congrArg some (by kernel_rfl))
  f314 := Tryz.func270.trans (congrArg some (by kernel_rfl))
  t0 := Tryz.underlying0
  a0 := Tryz.isAgg0
  z0 := Tryz.sizeOf0
  v0 := Tryz.zeroValue0
  t3 := Tryz.underlying3
  a3 := Tryz.isAgg3
  z3 := Tryz.sizeOf3
  v3 := Tryz.zeroValue3
  t4 := Tryz.underlying4
  a4 := Tryz.isAgg4
  z4 := Tryz.sizeOf4
  v4 := Tryz.zeroValue4
  t5 := Tryz.underlying5
  a5 := Tryz.isAgg5
  z5 := Tryz.sizeOf5
  v5 := Tryz.zeroValue5
  t9 := Tryz.underlying9
  a9 := Tryz.isAgg9
  z9 := Tryz.sizeOf9
  v9 := Tryz.zeroValue9
  t21 := Tryz.underlying21
  a21 := Tryz.isAgg21
  z21 := Tryz.sizeOf21
  v21 := Tryz.zeroValue21
  t31 := Tryz.underlying34
  a31 := Tryz.isAgg34
  z31 := Tryz.sizeOf34
  v31 := Tryz.zeroValue34
  t46 := Tryz.underlying157
  a46 := Tryz.isAgg157
  z46 := Tryz.sizeOf157
  v46 := Tryz.zeroValue157
  t51 := Tryz.underlying262
  a51 := Tryz.isAgg262
  z51 := Tryz.sizeOf262
  v51 := Tryz.zeroValue262
  t105 := Tryz.underlying254
  a105 := Tryz.isAgg254
  z105 := Tryz.sizeOf254
  v105 := Tryz.zeroValue254
  t119 := Tryz.underlying258
  a119 := Tryz.isAgg258
  z119 := Tryz.sizeOf258
  t138 := Tryz.underlying260
  a138 := Tryz.isAgg260
  z138 := Tryz.sizeOf260
  v138 := Tryz.zeroValue260
  t139 := Tryz.underlying261
  a139 := Tryz.isAgg261
  z139 := Tryz.sizeOf261
  v139 := Tryz.zeroValue261
  t146 := Tryz.underlying263
  a146 := Tryz.isAgg263
  z146 := Tryz.sizeOf263
  v146 := Tryz.zeroValue263
  g1 := by kernel_rfl
  g3 := by kernel_rfl
  g4 := by kernel_rfl }
end Go.Proofs
namespace Go.Proofs.YtaaajjinpppgeaaGreatDoor
open Go Go.Abs
theorem splitOk : OrcOk Tryz.prog 181 splitO := split_orc Tryz.func181 rfl rfl (split_one Tryz.lays146 (by kernel_rfl))
end Go.Proofs.YtaaajjinpppgeaaGreatDoor
namespace Go.Proofs.YtaaajjinpppgeaaGreatDoor
open Go Go.Abs
def pures : List FuncId := (List.range 600).filter fun k => !([29, 42, 65, 66, 84, 97, 99, 103, 104, 105, 138, 139, 140, 147, 148, 149, 186, 187, 188, 190, 218, 219, 224, 238] : List Nat).contains k
def hints : Hints := [(3, [(12, [.tidy [3, 6, 7, 8] [(3, none), (6, none), (7, none), (8, none)]]), (23, [.tidy [3, 6, 7, 8, 11, 12, 13] [(3, none), (6, none), (7, none), (8, none), (11, none), (12, none), (13, none)]])]),
  (9, [(16, [.opn 16 (some 2) (some (13, -1)) 2 1])]),
  (10, [(3, [.tidy [2, 3, 4] [(2, none), (3, none), (4, none)]]), (6, [.tidy [2, 3, 4, 5] [(2, none), (3, none), (4, none), (5, none)]])]),
  (11, [(4, [.tidy [3, 4, 5] [(3, none), (4, none), (5, none)]])]),
  (12, [(5, [.tidy [3, 4, 5] [(3, none), (4, none), (5, none)]])]),
  (18, [(3, [.tidy [2, 3, 9] [(2, none), (3, none), (9, none)]])]),
  (19, [(2, [.tidy [0, 1, 4, 6] [(0, none), (1, none), (4, none), (6, none)]])]),
  (23, [(2, [.tidy [1, 2, 5] [(1, none), (2, none), (5, none)]])]),
  (24, [(4, [.tidy [1, 28, 29, 30] [(1, none), (28, none), (29, none), (30, none)]])]),
  (27, [(18, [.opn 10 none none 5 11])]),
  (31, [(5, [.opn 4 none none 0 1, .tidy [1, 2, 4, 5] [(1, none), (2, none), (4, none), (5, none), (4, some 0)]]), (9, [.opn 4 none none 0 1])]),
  (32, [(3, [.opn 1 none none 2 3, .tidy [0, 1, 2] [(0, none), (1, none), (2, none), (1, some 2)]]), (9, [.opn 1 none none 0 1, .opn 1 none none 1 1, .opn 1 none none 2 3, .opn 1 none none 3 3])]),
  (34, [(3, [.opn 3 none none 4 1, .opn 3 none none 5 11, .tidy [1, 2, 3, 4] [(1, none), (2, none), (3, none), (4, none), (3, some 5)]]), (7, [.opn 5 none none 10 1]), (9, [.opn 3 none none 0 1, .opn 3 none none 1 1, .opn 3 none none 2 3, .opn 3 none none 3 3, .opn 3 none none 4 1, .opn 3 none none 5 11])]),
  (35, [(6, [.tidy [5, 7, 8] [(5, none), (7, none), (8, none)]])]),
  (36, [(4, [.tidy [1, 3] [(1, none), (3, none)]])]),
  (37, [(6, [.tidy [2, 5, 7, 8] [(2, none), (5, none), (7, none), (8, none)]])]),
  (38, [(2, [.tidy [1, 2, 3, 7] [(1, none), (2, none), (3, none), (7, none)]])]),
  (39, [(4, [.opn 4 none none 0 1, .opn 4 none none 1 1, .opn 4 none none 2 3, .opn 4 none none 3 3, .opn 4 none none 4 1, .opn 4 none none 5 11]), (5, [.opn 4 none none 1 1]), (6, [.opn 4 none none 4 1]), (7, [.opn 4 none none 0 1, .opn 4 none none 1 1, .opn 4 none none 2 3, .opn 4 none none 3 3, .opn 4 none none 4 1, .opn 4 none none 5 11])]),
  (44, [(5, [.tidy [0, 1, 2, 3, 9, 10, 11, 12] [(0, none), (1, none), (2, none), (3, none), (9, none), (10, none), (11, none), (12, none)]]), (9, [.tidy [0, 1, 2, 3, 9, 10, 11, 12, 13, 14, 15] [(0, none), (1, none), (2, none), (3, none), (9, none), (10, none), (11, none), (12, none), (13, none), (14, none), (15, none)]]), (18, [.tidy [0, 1, 2, 3, 9, 11, 16] [(0, none), (1, none), (2, none), (3, none), (9, none), (11, none), (16, none)]])]),
  (45, [(8, [.lay 4 1, .tidy [0, 4, 5, 6] [(0, none), (4, none), (5, none), (6, none)]])]),
  (47, [(4, [.opn 4 none none 0 1, .opn 4 none none 1 1, .opn 4 none none 2 3, .opn 4 none none 3 3, .opn 4 none none 4 1, .opn 4 none none 5 11]), (5, [.opn 4 none none 0 1]), (6, [.opn 4 none none 4 1]), (7, [.opn 4 none none 0 1, .opn 4 none none 1 1, .opn 4 none none 2 3, .opn 4 none none 3 3, .opn 4 none none 4 1, .opn 4 none none 5 11])]),
  (48, [(3, [.opn 6 none none 0 1, .opn 6 none none 1 1, .opn 6 none none 2 3, .opn 6 none none 3 3, .opn 6 none none 4 1, .opn 6 none none 5 11]), (6, [.opn 6 none none 5 11, .opn 3 none none 10 1]), (8, [.opn 6 none none 0 1, .opn 6 none none 1 1, .opn 6 none none 2 3, .opn 6 none none 3 3, .opn 6 none none 4 1, .opn 6 none none 5 11])]),
  (52, [(3, [.tidy [0, 3, 4] [(0, none), (3, none), (4, none)]])]),
  (58, [(5, [.tidy [2, 5, 14, 15, 16] [(2, none), (5, none), (14, none), (15, none), (16, none)]])]),
  (61, [(2, [.tidy [1, 2, 11, 12] [(1, none), (2, none), (11, none), (12, none)]])]),
  (64, [(5, [.tidy [2, 3, 19, 20, 21] [(2, none), (3, none), (19, none), (20, none), (21, none)]])]),
  (67, [(5, [.opn 6 none none 2 3, .tidy [1, 2, 6, 22] [(1, none), (2, none), (6, none), (22, none), (6, some 2)]]), (11, [.opn 6 none none 3 3, .tidy [1, 2, 6, 35] [(1, none), (2, none), (6, none), (35, none), (6, some 3)]]), (16, [.opn 6 none none 0 1, .opn 6 none none 1 1, .opn 6 none none 2 3, .opn 6 none none 3 3])]),
  (72, [(6, [.tidy [1, 4, 5, 25, 26, 27] [(1, none), (4, none), (5, none), (25, none), (26, none), (27, none)]])]),
  (73, [(4, [.tidy [1, 3] [(1, none), (3, none)]]), (10, [.tidy [1, 4] [(1, none), (4, none)]])]),
  (74, [(3, [.tidy [3, 4] [(3, none), (4, none)]]), (6, [.tidy [3, 4, 5] [(3, none), (4, none), (5, none)]])]),
  (75, [(7, [.tidy [1, 2, 3, 4, 9, 10, 11, 12] [(1, none), (2, none), (3, none), (4, none), (9, none), (10, none), (11, none), (12, none)]]), (11, [.tidy [1, 2, 3, 4, 9, 10, 11, 12, 13, 14] [(1, none), (2, none), (3, none), (4, none), (9, none), (10, none), (11, none), (12, none), (13, none), (14, none)]])]),
  (76, [(6, [.tidy [1, 2, 3, 4, 5] [(1, none), (2, none), (3, none), (4, none), (5, none)]]), (17, [.tidy [2, 3, 6, 7] [(2, none), (3, none), (6, none), (7, none)]])]),
  (77, [(7, [.tidy [2, 3, 4, 5, 6] [(2, none), (3, none), (4, none), (5, none), (6, none)]]), (12, [.tidy [2, 3, 4, 5, 6, 7, 8, 9] [(2, none), (3, none), (4, none), (5, none), (6, none), (7, none), (8, none), (9, none)]]), (18, [.tidy [2, 3, 4, 5, 6, 7, 8, 9, 10, 12] [(2, none), (3, none), (4, none), (5, none), (6, none), (7, none), (8, none), (9, none), (10, none), (12, none)]])]),
  (78, [(8, [.lay 4 1, .tidy [2, 3, 4, 5] [(2, none), (3, none), (4, none), (5, none), (3, some 2)]]), (10, [.opn 3 (some 2) (some (5, 0)) 2 1]), (12, [.tidy [2, 3, 4, 5, 6, 7] [(2, none), (3, none), (4, none), (5, none), (6, none), (7, none), (3, some 2), (6, some 2)]]), (14, [.opn 3 none none 0 1, .opn 3 none none 1 1, .opn 3 none none 3 3]), (21, [.opn 3 none none 0 1, .opn 3 none none 1 1, .opn 3 none none 2 3, .opn 3 none none 3 3])]),
  (79, [(8, [.tidy [1, 2, 4, 5, 7] [(1, none), (2, none), (4, none), (5, none), (7, none)]]), (13, [.tidy [1, 2, 4, 5, 8] [(1, none), (2, none), (4, none), (5, none), (8, none)]]), (19, [.tidy [1, 2, 4, 9] [(1, none), (2, none), (4, none), (9, none)]]), (30, [.tidy [1, 2, 4, 14] [(1, none), (2, none), (4, none), (14, none)]])]),
  (80, [(2, [.tidy [0, 1, 7, 8] [(0, none), (1, none), (7, none), (8, none)]])]),
  (82, [(6, [.tidy [2, 5, 20, 21, 22] [(2, none), (5, none), (20, none), (21, none), (22, none)]]), (10, [.tidy [2, 5, 20, 21, 22, 29, 30, 31] [(2, none), (5, none), (20, none), (21, none), (22, none), (29, none), (30, none), (31, none)]])]),
  (83, [(2, [.tidy [5, 6, 7] [(5, none), (6, none), (7, none)]])]),
  (86, [(2, [.tidy [1, 8, 9, 10] [(1, none), (8, none), (9, none), (10, none)]]), (9, [.tidy [1, 19, 20, 21] [(1, none), (19, none), (20, none), (21, none)]])]),
  (88, [(2, [.tidy [2, 3, 10, 11, 12] [(2, none), (3, none), (10, none), (11, none), (12, none)]])]),
  (92, [(5, [.tidy [0, 1, 5] [(0, none), (1, none), (5, none)]])]),
  (94, [(3, [.tidy [0, 3, 4] [(0, none), (3, none), (4, none)]])]),
  (95, [(3, [.tidy [0, 3, 4] [(0, none), (3, none), (4, none)]])]),
  (96, [(8, [.tidy [6, 20, 21, 22] [(6, none), (20, none), (21, none), (22, none)]])]),
  (99, [(3, [.opn 0 (some 2) (some (1, -1)) 2 1])]),
  (101, [(4, [.tidy [0, 1, 5] [(0, none), (1, none), (5, none)]])]),
  (102, [(4, [.tidy [0, 1, 5] [(0, none), (1, none), (5, none)]])]),
  (104, [(2, [.tidy [0, 1, 5] [(0, none), (1, none), (5, none)]])]),
  (105, [(2, [.tidy [0, 1, 5] [(0, none), (1, none), (5, none)]]), (24, [.opn 0 none (some (5, 0)) 10 1])]),
  (107, [(2, [.tidy [0, 1, 5] [(0, none), (1, none), (5, none)]])]),
  (108, [(2, [.tidy [0, 1, 5] [(0, none), (1, none), (5, none)]])]),
  (111, [(3, [.opn 3 none none 2 3, .tidy [1, 2, 3, 4] [(1, none), (2, none), (3, none), (4, none), (3, some 2)]]), (8, [.opn 3 none none 3 3, .tidy [1, 2, 3, 5] [(1, none), (2, none), (3, none), (5, none), (3, some 3)]]), (12, [.opn 3 none none 0 1, .opn 3 none none 1 1, .opn 3 none none 2 3, .opn 3 none none 3 3])]),
  (112, [(5, [.tidy [1, 2, 5, 6] [(1, none), (2, none), (5, none), (6, none)]]), (11, [.tidy [1, 2, 5, 7] [(1, none), (2, none), (5, none), (7, none)]])]),
  (113, [(5, [.tidy [2, 3, 9, 10] [(2, none), (3, none), (9, none), (10, none)]])]),
  (114, [(2, [.tidy [0, 1, 5] [(0, none), (1, none), (5, none)]])]),
  (115, [(2, [.tidy [0, 3] [(0, none), (3, none)]])]),
  (117, [(2, [.tidy [1, 2, 3, 7] [(1, none), (2, none), (3, none), (7, none)]])]),
  (119, [(2, [.tidy [0, 3] [(0, none), (3, none)]])]),
  (120, [(5, [.opn 6 none none 2 3, .tidy [1, 2, 6, 7] [(1, none), (2, none), (6, none), (7, none), (6, some 2)]]), (10, [.opn 6 none none 3 3, .tidy [1, 2, 6, 8] [(1, none), (2, none), (6, none), (8, none), (6, some 3)]]), (14, [.opn 6 none none 0 1, .opn 6 none none 1 1, .opn 6 none none 2 3, .opn 6 none none 3 3])]),
  (123, [(8, [.tidy [1, 4, 5, 6, 7] [(1, none), (4, none), (5, none), (6, none), (7, none)]])]),
  (124, [(3, [.opn 3 none none 2 3, .tidy [1, 2, 3, 13, 14, 15] [(1, none), (2, none), (3, none), (13, none), (14, none), (15, none), (3, some 2)]]), (9, [.opn 3 none none 3 3, .tidy [2, 3, 28, 29, 30] [(2, none), (3, none), (28, none), (29, none), (30, none), (3, some 3)]]), (14, [.opn 3 none none 0 1, .opn 3 none none 1 1, .opn 3 none none 2 3, .opn 3 none none 3 3])]),
  (126, [(3, [.lay 3 11, .tidy [3, 7, 8, 9] [(3, none), (7, none), (8, none), (9, none)]])]),
  (130, [(2, [.tidy [1, 2, 6, 11, 12, 13] [(1, none), (2, none), (6, none), (11, none), (12, none), (13, none)]])]),
  (132, [(2, [.tidy [2, 14, 15, 16] [(2, none), (14, none), (15, none), (16, none)]]), (6, [.tidy [2, 7, 14, 15, 16, 24, 25, 26] [(2, none), (7, none), (14, none), (15, none), (16, none), (24, none), (25, none), (26, none)]])]),
  (135, [(2, [.tidy [0, 1, 7, 8] [(0, none), (1, none), (7, none), (8, none)]])]),
  (139, [(2, [.tidy [0, 1, 2, 14, 15, 16] [(0, none), (1, none), (2, none), (14, none), (15, none), (16, none)]])]),
  (140, [(8, [.tidy [0, 3, 4, 5, 62, 63, 64] [(0, none), (3, none), (4, none), (5, none), (62, none), (63, none), (64, none)]])]),
  (142, [(5, [.opn 5 none none 2 1, .tidy [1, 4, 5, 25, 26, 27] [(1, none), (4, none), (5, none), (25, none), (26, none), (27, none), (5, some 2)]])]),
  (143, [(3, [.opn 5 none none 1 2, .tidy [1, 4, 5, 14, 15, 16] [(1, none), (4, none), (5, none), (14, none), (15, none), (16, none), (5, some 1)]])]),
  (145, [(2, [.tidy [1, 6, 7, 8] [(1, none), (6, none), (7, none), (8, none)]])]),
  (149, [(2, [.tidy [0, 2, 11, 12, 13] [(0, none), (2, none), (11, none), (12, none), (13, none)]]), (9, [.tidy [0, 2, 28, 29, 30] [(0, none), (2, none), (28, none), (29, none), (30, none)]])]),
  (151, [(4, [.tidy [1, 3] [(1, none), (3, none)]])]),
  (152, [(6, [.tidy [1, 3] [(1, none), (3, none)]]), (13, [.tidy [1, 3, 4, 5] [(1, none), (3, none), (4, none), (5, none)]])]),
  (153, [(6, [.tidy [2, 5, 6, 7] [(2, none), (5, none), (6, none), (7, none)]]), (10, [.tidy [2, 5, 6, 7, 8, 10] [(2, none), (5, none), (6, none), (7, none), (8, none), (10, none)]])]),
  (155, [(6, [.tidy [1, 3, 4] [(1, none), (3, none), (4, none)]]), (9, [.tidy [1, 3, 4, 5] [(1, none), (3, none), (4, none), (5, none)]]), (13, [.tidy [1, 3, 4, 5, 6, 7] [(1, none), (3, none), (4, none), (5, none), (6, none), (7, none)]]), (23, [.lay 9 1, .tidy [3, 9, 10] [(3, none), (9, none), (10, none)]])]),
  (156, [(4, [.tidy [1, 2, 5, 6, 7] [(1, none), (2, none), (5, none), (6, none), (7, none)]]), (8, [.tidy [1, 2, 5, 6, 7, 8, 9] [(1, none), (2, none), (5, none), (6, none), (7, none), (8, none), (9, none)]])]),
  (157, [(4, [.lay 3 1, .tidy [1, 3, 4, 5] [(1, none), (3, none), (4, none), (5, none)]]), (8, [.tidy [1, 3, 4, 5, 6, 7] [(1, none), (3, none), (4, none), (5, none), (6, none), (7, none)]])]),
  (158, [(4, [.tidy [2, 5, 9] [(2, none), (5, none), (9, none)]])]),
  (159, [(2, [.tidy [1, 3] [(1, none), (3, none)]])]),
  (160, [(5, [.tidy [0, 2, 4, 5] [(0, none), (2, none), (4, none), (5, none)]]), (9, [.tidy [0, 2, 4, 5, 6, 7] [(0, none), (2, none), (4, none), (5, none), (6, none), (7, none)]])]),
  (162, [(8, [.tidy [0, 2, 4, 5, 6] [(0, none), (2, none), (4, none), (5, none), (6, none)]])]),
  (163, [(2, [.tidy [1, 6, 7, 8] [(1, none), (6, none), (7, none), (8, none)]])]),
  (164, [(4, [.tidy [1, 19, 20, 21] [(1, none), (19, none), (20, none), (21, none)]])]),
  (169, [(2, [.tidy [0, 5, 6] [(0, none), (5, none), (6, none)]])]),
  (170, [(2, [.tidy [0, 1, 7, 8] [(0, none), (1, none), (7, none), (8, none)]])]),
  (173, [(5, [.tidy [0, 1, 5] [(0, none), (1, none), (5, none)]])]),
  (174, [(5, [.tidy [0, 1, 5] [(0, none), (1, none), (5, none)]])]),
  (177, [(3, [.tidy [0, 3, 4] [(0, none), (3, none), (4, none)]])]),
  (178, [(3, [.tidy [0, 3, 4] [(0, none), (3, none), (4, none)]])]),
  (183, [(4, [.tidy [0, 1, 5] [(0, none), (1, none), (5, none)]])]),
  (184, [(4, [.tidy [0, 1, 5] [(0, none), (1, none), (5, none)]])]),
  (187, [(2, [.tidy [0, 1, 5] [(0, none), (1, none), (5, none)]]), (8, [.opn 0 none (some (5, 0)) 2 1])]),
  (188, [(2, [.tidy [0, 1, 5] [(0, none), (1, none), (5, none)]]), (6, [.opn 0 none (some (5, 0)) 1 2])]),
  (189, [(4, [.tidy [0, 3] [(0, none), (3, none)]])]),
  (190, [(2, [.tidy [0, 1, 5] [(0, none), (1, none), (5, none)]])]),
  (192, [(2, [.tidy [0, 1, 5] [(0, none), (1, none), (5, none)]])]),
  (193, [(2, [.tidy [0, 1, 5] [(0, none), (1, none), (5, none)]])]),
  (194, [(2, [.tidy [0, 1, 5] [(0, none), (1, none), (5, none)]])]),
  (197, [(7, [.tidy [1, 4, 5] [(1, none), (4, none), (5, none)]])]),
  (202, [(5, [.opn 5 none none 2 1, .tidy [1, 2, 4, 5, 6] [(1, none), (2, none), (4, none), (5, none), (6, none), (5, some 2)]])]),
  (203, [(5, [.opn 5 none none 1 2, .tidy [1, 2, 4, 5, 6] [(1, none), (2, none), (4, none), (5, none), (6, none), (5, some 1)]])]),
  (205, [(1, [.tidy [0, 1, 4] [(0, none), (1, none), (4, none)]])]),
  (206, [(4, [.lay 6 11, .tidy [1, 4, 5, 6, 7] [(1, none), (4, none), (5, none), (6, none), (7, none), (5, some 5)]]), (7, [.opn 5 (some 5) (some (7, 0)) 10 1]), (8, [.fgt 5 (some 5) (some (7, 0)) 10]), (10, [.opn 5 none none 0 1, .opn 5 none none 1 1, .opn 5 none none 2 3, .opn 5 none none 3 3, .opn 5 none none 4 1, .opn 5 none none 5 11])]),
  (207, [(3, [.tidy [0, 3, 4] [(0, none), (3, none), (4, none)]]), (11, [.tidy [0, 3, 5, 6] [(0, none), (3, none), (5, none), (6, none)]])]),
  (208, [(2, [.tidy [0, 1, 2, 6] [(0, none), (1, none), (2, none), (6, none)]])]),
  (209, [(9, [.tidy [0, 1, 4, 5, 6] [(0, none), (1, none), (4, none), (5, none), (6, none)]]), (18, [.tidy [0, 1, 4, 8, 9] [(0, none), (1, none), (4, none), (8, none), (9, none)]])]),
  (210, [(3, [.tidy [0, 2, 3, 4] [(0, none), (2, none), (3, none), (4, none)]])]),
  (215, [(2, [.tidy [0, 1, 7, 8] [(0, none), (1, none), (7, none), (8, none)]])]),
  (219, [(5, [.tidy [0, 1, 5, 6] [(0, none), (1, none), (5, none), (6, none)]]), (7, [.opn 0 none (some (6, 0)) 10 1]), (11, [.fgt 0 none (some (6, 0)) 10])]),
  (222, [(7, [.tidy [4, 19, 20, 21] [(4, none), (19, none), (20, none), (21, none)]])]),
  (224, [(2, [.tidy [0, 3, 9, 10, 11] [(0, none), (3, none), (9, none), (10, none), (11, none)]]), (11, [.tidy [0, 3, 45, 46, 47] [(0, none), (3, none), (45, none), (46, none), (47, none)]])]),
  (225, [(5, [.lay 5 2, .tidy [1, 2, 5, 6] [(1, none), (2, none), (5, none), (6, none)]]), (9, [.lay 5 2, .tidy [1, 2, 5, 6, 7, 9] [(1, none), (2, none), (5, none), (6, none), (7, none), (9, none)]])]),
  (232, [(3, [.tidy [0, 3, 4] [(0, none), (3, none), (4, none)]])]),
  (234, [(11, [.tidy [0, 1, 2, 3, 9, 10] [(0, none), (1, none), (2, none), (3, none), (9, none), (10, none)]])]),
  (237, [(4, [.tidy [0, 1, 5] [(0, none), (1, none), (5, none)]])]),
  (238, [(2, [.tidy [0, 1, 5] [(0, none), (1, none), (5, none)]])]),
  (239, [(2, [.tidy [0, 1, 5] [(0, none), (1, none), (5, none)]])]),
  (240, [(4, [.tidy [0, 3, 4, 5] [(0, none), (3, none), (4, none), (5, none)]])]),
  (241, [(2, [.lay 3 1, .tidy [0, 3] [(0, none), (3, none)]])]),
  (242, [(2, [.tidy [0, 1, 5] [(0, none), (1, none), (5, none)]])]),
  (245, [(3, [.lay 3 1, .tidy [3, 7, 8, 9] [(3, none), (7, none), (8, none), (9, none)]])]),
  (246, [(3, [.tidy [3, 6, 7, 8] [(3, none), (6, none), (7, none), (8, none)]])]),
  (248, [(6, [.tidy [0, 1, 7, 8, 9] [(0, none), (1, none), (7, none), (8, none), (9, none)]])]),
  (249, [(5, [.tidy [0, 1, 5] [(0, none), (1, none), (5, none)]])]),
  (250, [(3, [.tidy [0, 3, 4] [(0, none), (3, none), (4, none)]])]),
  (252, [(6, [.tidy [0, 1, 6, 7] [(0, none), (1, none), (6, none), (7, none)]])]),
  (253, [(6, [.tidy [0, 1, 5] [(0, none), (1, none), (5, none)]])]),
  (255, [(4, [.tidy [0, 1, 5] [(0, none), (1, none), (5, none)]])]),
  (256, [(4, [.lay 4 1, .tidy [0, 4] [(0, none), (4, none)]])]),
  (268, [(5, [.tidy [0, 1, 5, 6, 7, 8, 9] [(0, none), (1, none), (5, none), (6, none), (7, none), (8, none), (9, none)]]), (12, [.tidy [0, 1, 5, 6, 7, 8, 10] [(0, none), (1, none), (5, none), (6, none), (7, none), (8, none), (10, none)]])]),
  (270, [(3, [.tidy [0, 4, 5] [(0, none), (4, none), (5, none)]]), (9, [.tidy [4, 6, 7, 8] [(4, none), (6, none), (7, none), (8, none)]])])]
def wids : Wids := [(9, (.agg [(.agg [.one, .one, .one, .row 3 (.agg [.one, .row 2 .one, .one]), .one, .one, .one]), .one])), (15, (.row 4 .one)), (27, (.agg [(.agg [.one, .one, .one, .row 3 (.agg [.one, .row 2 .one, .one]), .one, .one, .one]), .one])), (31, (.agg [(.agg [.row 1 .one]), .one])), (32, (.agg [.row 1 .one, .row 1 .one, .row 3 .one, .row 3 (.agg [.one, .row 2 .one, .one])])), (33, (.agg [.one, .one, .one, .one, .one, .row 11 .one, .one])), (34, (.agg [.one, .one, .one, .one, .one, .row 11 .one, .one])), (45, (.agg [.row 1 .one, .one])), (59, (.agg [.one, .one, .rrow 1])), (74, (.row 4 .one)), (75, (.row 4 .one)), (96, (.agg [.row 1 .one, .one])), (116, (.agg [(.agg [.one, .rrow 2, .one]), .one])), (125, (.row 1 .one)), (126, (.row 11 .one)), (134, (.agg [.one, .rrow 2, .one])), (141, (.agg [.row 1 .one, .row 1 .one])), (153, (.row 1 .one)), (155, (.row 1 .one)), (157, (.row 1 .one)), (198, (.agg [.row 1 .one, .row 1 .one])), (199, (.agg [.one, .one, .row 1 .one])), (200, (.agg [.one, .row 2 .one, .one])), (203, (.agg [.one, .row 2 .one, .one])), (206, (.agg [.one, .one, .one, .one, .one, .row 11 .one, .one])), (211, (.agg [.one, .one, .row 1 .one])), (212, (.agg [.one, .row 2 .one, .one])), (225, (.row 2 .one)), (243, (.row 1 .one))]
def orcs : List (Nat × (List AV → Mem → Option (AV × Mem))) := [(181, splitO)]
noncomputable def T : FuncId → Option EF := orcT (tableOf Tryz.prog tt pures hints wids) orcs
theorem tab {f : FuncId} {fn : Func} {F : EF} (hf : Tryz.prog.funcs[f]? = some fn) (h : (match compileF Tryz.prog tt pures fn with | some A => annF (hintOf hints f) (widOf wids f) A | none => none) = some F) (ho : (orcs.all fun p => !(p.1 == f)) = true) : T f = some F := orcT_at (table_at' hf h) ho
theorem hTT : ∀ t U, tt.get t = some U → tyOf Tryz.prog t = some U := Types.ok tt_rows
theorem calls {f : FuncId} {args : List AV} {res : AV} (h : E T f args [] = some (res, [])) : ACalls Tryz.prog f args res := E_calls mixed hTT (orcT_ok (table_ok _ _ _ _ _) (fun p hp => by cases List.mem_singleton.1 hp; exact splitOk)) h
theorem get_at {α : Type} {l : List α} {i : Nat} (h : i < l.length) : ∃ x, l[i]? = some x := Go.Abs.get_at h
theorem t181 : T 181 = some ⟨.ret, [], 0, .one, some splitO⟩ := rfl
end Go.Proofs.YtaaajjinpppgeaaGreatDoor
