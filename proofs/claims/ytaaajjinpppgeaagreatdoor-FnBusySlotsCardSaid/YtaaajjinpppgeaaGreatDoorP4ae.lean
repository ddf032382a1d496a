/- Part 5 of the texts of a claim, joined by a program of ours (Ty, Ev). No condition. -/
import Derived.Test.YtaaajjinpppgeaaGreatDoorP4ad
import Derived.Test.YtaaajjinpppgeaaGreatDoorProg
import Derived.KernelRfl
set_option linter.unusedVariables false
set_option linter.unusedSimpArgs false
set_option linter.unusedSectionVars false
namespace Go.Proofs.YtaaajjinpppgeaaGreatDoor
open Go Go.Abs
def tt : Types := [
  (1, ⟨.func, 1, 8, .undef⟩),
  (2, ⟨(.int .i64), 1, 8, (.int .i64 0)⟩),
  (3, ⟨(.int .i64), 1, 8, (.int .i64 0)⟩),
  (4, ⟨.bool, 1, 1, (.bool false)⟩),
  (5, ⟨(.int .u8), 1, 1, (.int .u8 0)⟩),
  (6, ⟨(.int .u8), 1, 1, (.int .u8 0)⟩),
  (7, ⟨(.struct [(0, 2), (1, 3), (2, 4), (3, 6)]), 4, 24, (.agg [(.int .i64 0), (.int .i64 0), (.bool false), (.int .u8 0)])⟩),
  (8, ⟨(.struct [(0, 2), (1, 3), (2, 4), (3, 6)]), 4, 24, (.agg [(.int .i64 0), (.int .i64 0), (.bool false), (.int .u8 0)])⟩),
  (9, ⟨.str, 1, 16, (.str ⟨#[]⟩)⟩),
  (10, ⟨.str, 1, 16, (.str ⟨#[]⟩)⟩),
  (11, ⟨.str, 1, 16, (.str ⟨#[]⟩)⟩),
  (12, ⟨(.int .u64), 1, 8, (.int .u64 0)⟩),
  (13, ⟨(.struct [(0, 9), (1, 12)]), 2, 24, (.agg [(.str ⟨#[]⟩), (.int .u64 0)])⟩),
  (14, ⟨(.struct [(0, 9), (1, 12)]), 2, 24, (.agg [(.str ⟨#[]⟩), (.int .u64 0)])⟩),
  (15, ⟨.ptr, 1, 8, .undef⟩),
  (16, ⟨.ptr, 1, 8, .undef⟩),
  (17, ⟨.ptr, 1, 8, .undef⟩),
  (18, ⟨(.struct [(0, 17)]), 1, 8, (.agg [.undef])⟩),
  (19, ⟨(.struct [(0, 17)]), 1, 8, (.agg [.undef])⟩),
  (21, ⟨(.int .i32), 1, 4, (.int .i32 0)⟩),
  (22, ⟨(.slice 5), 1, 24, .nil⟩),
  (23, ⟨.func, 1, 8, .undef⟩),
  (24, ⟨(.slice 4), 1, 24, .nil⟩),
  (25, ⟨(.struct [(0, 24), (1, 24)]), 2, 48, (.agg [.nil, .nil])⟩),
  (26, ⟨(.struct [(0, 24), (1, 24)]), 2, 48, (.agg [.nil, .nil])⟩),
  (27, ⟨(.slice 60), 1, 24, .nil⟩),
  (28, ⟨(.slice 64), 1, 24, .nil⟩),
  (29, ⟨(.struct [(0, 26), (2, 27), (3, 28)]), 4, 96, (.agg [.nil, .nil, .nil, .nil])⟩),
  (30, ⟨(.struct [(0, 26), (2, 27), (3, 28)]), 4, 96, (.agg [.nil, .nil, .nil, .nil])⟩),
  (31, ⟨(.slice 99), 1, 24, .nil⟩),
  (32, ⟨(.struct [(0, 30), (4, 24), (5, 31), (6, 3)]), 7, 152, (.agg [.nil, .nil, .nil, .nil, .nil, .nil, (.int .i64 0)])⟩),
  (33, ⟨(.struct [(0, 30), (4, 24), (5, 31), (6, 3)]), 7, 152, (.agg [.nil, .nil, .nil, .nil, .nil, .nil, (.int .i64 0)])⟩),
  (34, ⟨(.slice 9), 1, 24, .nil⟩),
  (35, ⟨(.struct [(0, 34)]), 1, 24, (.agg [.nil])⟩),
  (36, ⟨(.struct [(0, 34)]), 1, 24, (.agg [.nil])⟩),
  (37, ⟨(.struct [(0, 33), (7, 36)]), 8, 176, (.agg [.nil, .nil, .nil, .nil, .nil, .nil, (.int .i64 0), .nil])⟩),
  (38, ⟨(.struct [(0, 33), (7, 36)]), 8, 176, (.agg [.nil, .nil, .nil, .nil, .nil, .nil, (.int .i64 0), .nil])⟩),
  (39, ⟨.func, 1, 8, .undef⟩),
  (41, ⟨.func, 1, 8, .undef⟩),
  (42, ⟨.func, 1, 8, .undef⟩),
  (43, ⟨.func, 1, 8, .undef⟩),
  (44, ⟨(.slice 3), 1, 24, .nil⟩),
  (45, ⟨.func, 1, 8, .undef⟩),
  (46, ⟨.func, 1, 8, .undef⟩),
  (48, ⟨.func, 1, 8, .undef⟩),
  (49, ⟨(.slice 54), 1, 24, .nil⟩),
  (50, ⟨.func, 1, 8, .undef⟩),
  (51, ⟨.func, 1, 8, .undef⟩),
  (52, ⟨.func, 1, 8, .undef⟩),
  (53, ⟨(.struct [(0, 9), (1, 4), (2, 9), (3, 9)]), 4, 56, (.agg [(.str ⟨#[]⟩), (.bool false), (.str ⟨#[]⟩), (.str ⟨#[]⟩)])⟩),
  (54, ⟨(.struct [(0, 9), (1, 4), (2, 9), (3, 9)]), 4, 56, (.agg [(.str ⟨#[]⟩), (.bool false), (.str ⟨#[]⟩), (.str ⟨#[]⟩)])⟩),
  (56, ⟨.func, 1, 8, .undef⟩),
  (57, ⟨.func, 1, 8, .undef⟩),
  (58, ⟨.func, 1, 8, .undef⟩),
  (59, ⟨(.struct [(0, 3), (1, 3), (2, 44)]), 3, 40, (.agg [(.int .i64 0), (.int .i64 0), .nil])⟩),
  (60, ⟨(.struct [(0, 3), (1, 3), (2, 44)]), 3, 40, (.agg [(.int .i64 0), (.int .i64 0), .nil])⟩),
  (61, ⟨.func, 1, 8, .undef⟩),
  (62, ⟨(.slice 130), 1, 24, .nil⟩),
  (63, ⟨(.struct [(0, 4), (1, 62), (2, 9)]), 3, 48, (.agg [(.bool false), .nil, (.str ⟨#[]⟩)])⟩),
  (64, ⟨(.struct [(0, 4), (1, 62), (2, 9)]), 3, 48, (.agg [(.bool false), .nil, (.str ⟨#[]⟩)])⟩),
  (65, ⟨(.struct [(0, 24), (1, 24)]), 2, 48, (.agg [.nil, .nil])⟩),
  (66, ⟨(.slice 224), 1, 24, .nil⟩),
  (67, ⟨(.slice 228), 1, 24, .nil⟩),
  (68, ⟨(.struct [(0, 65), (2, 66), (3, 67)]), 4, 96, (.agg [.nil, .nil, .nil, .nil])⟩),
  (69, ⟨(.struct [(0, 65), (2, 66), (3, 67)]), 4, 96, (.agg [.nil, .nil, .nil, .nil])⟩),
  (70, ⟨(.slice 192), 1, 24, .nil⟩),
  (71, ⟨(.struct [(0, 69), (4, 24), (5, 70), (6, 3)]), 7, 152, (.agg [.nil, .nil, .nil, .nil, .nil, .nil, (.int .i64 0)])⟩),
  (72, ⟨(.struct [(0, 69), (4, 24), (5, 70), (6, 3)]), 7, 152, (.agg [.nil, .nil, .nil, .nil, .nil, .nil, (.int .i64 0)])⟩),
  (73, ⟨.func, 1, 8, .undef⟩),
  (74, ⟨.func, 1, 8, .undef⟩),
  (75, ⟨.func, 1, 8, .undef⟩),
  (76, ⟨.func, 1, 8, .undef⟩),
  (77, ⟨.func, 1, 8, .undef⟩),
  (79, ⟨.func, 1, 8, .undef⟩),
  (80, ⟨.func, 1, 8, .undef⟩),
  (81, ⟨.func, 1, 8, .undef⟩),
  (82, ⟨.func, 1, 8, .undef⟩),
  (84, ⟨.func, 1, 8, .undef⟩),
  (85, ⟨.func, 1, 8, .undef⟩),
  (86, ⟨.func, 1, 8, .undef⟩),
  (87, ⟨.func, 1, 8, .undef⟩),
  (88, ⟨.func, 1, 8, .undef⟩),
  (89, ⟨.ptr, 1, 8, .undef⟩),
  (90, ⟨.func, 1, 8, .undef⟩),
  (91, ⟨.func, 1, 8, .undef⟩),
  (92, ⟨.func, 1, 8, .undef⟩),
  (93, ⟨.func, 1, 8, .undef⟩),
  (95, ⟨.func, 1, 8, .undef⟩),
  (96, ⟨.func, 1, 8, .undef⟩),
  (97, ⟨.func, 1, 8, .undef⟩),
  (98, ⟨(.struct [(0, 3), (1, 3), (2, 3), (3, 3), (4, 3), (5, 3), (6, 9), (7, 4), (8, 4), (9, 3), (10, 44)]), 11, 104, (.agg [(.int .i64 0), (.int .i64 0), (.int .i64 0), (.int .i64 0), (.int .i64 0), (.int .i64 0), (.str ⟨#[]⟩), (.bool false), (.bool false), (.int .i64 0), .nil])⟩),
  (99, ⟨(.struct [(0, 3), (1, 3), (2, 3), (3, 3), (4, 3), (5, 3), (6, 9), (7, 4), (8, 4), (9, 3), (10, 44)]), 11, 104, (.agg [(.int .i64 0), (.int .i64 0), (.int .i64 0), (.int .i64 0), (.int .i64 0), (.int .i64 0), (.str ⟨#[]⟩), (.bool false), (.bool false), (.int .i64 0), .nil])⟩),
  (100, ⟨.ptr, 1, 8, .undef⟩),
  (101, ⟨.func, 1, 8, .undef⟩),
  (102, ⟨.func, 1, 8, .undef⟩),
  (103, ⟨.func, 1, 8, .undef⟩),
  (105, ⟨.func, 1, 8, .undef⟩),
  (106, ⟨.func, 1, 8, .undef⟩),
  (107, ⟨.func, 1, 8, .undef⟩),
  (108, ⟨.func, 1, 8, .undef⟩),
  (109, ⟨.func, 1, 8, .undef⟩),
  (111, ⟨.func, 1, 8, .undef⟩),
  (112, ⟨.func, 1, 8, .undef⟩),
  (113, ⟨.func, 1, 8, .undef⟩),
  (115, ⟨.func, 1, 8, .undef⟩),
  (116, ⟨.func, 1, 8, .undef⟩),
  (117, ⟨.func, 1, 8, .undef⟩),
  (118, ⟨.func, 1, 8, .undef⟩),
  (119, ⟨.func, 1, 8, .undef⟩),
  (120, ⟨.func, 1, 8, .undef⟩),
  (121, ⟨.func, 1, 8, .undef⟩),
  (122, ⟨.func, 1, 8, .undef⟩),
  (124, ⟨.func, 1, 8, .undef⟩),
  (125, ⟨.func, 1, 8, .undef⟩),
  (126, ⟨.func, 1, 8, .undef⟩),
  (127, ⟨.func, 1, 8, .undef⟩),
  (128, ⟨.func, 1, 8, .undef⟩),
  (129, ⟨(.struct [(0, 9), (1, 3)]), 2, 24, (.agg [(.str ⟨#[]⟩), (.int .i64 0)])⟩),
  (130, ⟨(.struct [(0, 9), (1, 3)]), 2, 24, (.agg [(.str ⟨#[]⟩), (.int .i64 0)])⟩),
  (131, ⟨.func, 1, 8, .undef⟩),
  (132, ⟨.func, 1, 8, .undef⟩),
  (133, ⟨.func, 1, 8, .undef⟩),
  (134, ⟨.func, 1, 8, .undef⟩),
  (135, ⟨.func, 1, 8, .undef⟩),
  (136, ⟨.func, 1, 8, .undef⟩),
  (137, ⟨.func, 1, 8, .undef⟩),
  (138, ⟨.func, 1, 8, .undef⟩),
  (139, ⟨.func, 1, 8, .undef⟩),
  (140, ⟨.func, 1, 8, .undef⟩),
  (141, ⟨.func, 1, 8, .undef⟩),
  (142, ⟨.func, 1, 8, .undef⟩),
  (143, ⟨.func, 1, 8, .undef⟩),
  (144, ⟨.func, 1, 8, .undef⟩),
  (145, ⟨.func, 1, 8, .undef⟩),
  (146, ⟨.func, 1, 8, .undef⟩),
  (148, ⟨.func, 1, 8, .undef⟩),
  (149, ⟨.func, 1, 8, .undef⟩),
  (151, ⟨.func, 1, 8, .undef⟩),
  (152, ⟨.func, 1, 8, .undef⟩),
  (153, ⟨.func, 1, 8, .undef⟩),
  (154, ⟨.func, 1, 8, .undef⟩),
  (155, ⟨(.struct [(0, 22), (1, 3), (2, 3)]), 3, 40, (.agg [.nil, (.int .i64 0), (.int .i64 0)])⟩),
  (156, ⟨(.struct [(0, 22), (1, 3), (2, 3)]), 3, 40, (.agg [.nil, (.int .i64 0), (.int .i64 0)])⟩),
  (157, ⟨(.int .u64), 1, 8, (.int .u64 0)⟩),
  (158, ⟨.func, 1, 8, .undef⟩),
  (159, ⟨.func, 1, 8, .undef⟩),
  (160, ⟨.func, 1, 8, .undef⟩),
  (162, ⟨.func, 1, 8, .undef⟩),
  (163, ⟨.func, 1, 8, .undef⟩),
  (164, ⟨.func, 1, 8, .undef⟩),
  (165, ⟨.func, 1, 8, .undef⟩),
  (166, ⟨.func, 1, 8, .undef⟩),
  (167, ⟨.func, 1, 8, .undef⟩),
  (168, ⟨.func, 1, 8, .undef⟩),
  (169, ⟨.func, 1, 8, .undef⟩),
  (170, ⟨.func, 1, 8, .undef⟩),
  (171, ⟨.func, 1, 8, .undef⟩),
  (172, ⟨.func, 1, 8, .undef⟩),
  (173, ⟨.func, 1, 8, .undef⟩),
  (174, ⟨.func, 1, 8, .undef⟩),
  (175, ⟨.func, 1, 8, .undef⟩),
  (176, ⟨.func, 1, 8, .undef⟩),
  (177, ⟨.func, 1, 8, .undef⟩),
  (179, ⟨.func, 1, 8, .undef⟩),
  (180, ⟨.func, 1, 8, .undef⟩),
  (181, ⟨.func, 1, 8, .undef⟩),
  (183, ⟨.func, 1, 8, .undef⟩),
  (185, ⟨.func, 1, 8, .undef⟩),
  (186, ⟨.func, 1, 8, .undef⟩),
  (187, ⟨.func, 1, 8, .undef⟩),
  (188, ⟨.func, 1, 8, .undef⟩),
  (189, ⟨.func, 1, 8, .undef⟩),
  (190, ⟨.func, 1, 8, .undef⟩),
  (191, ⟨.func, 1, 8, .undef⟩),
  (192, ⟨(.struct [(0, 3), (1, 3), (2, 3), (3, 3), (4, 3), (5, 3), (6, 9), (7, 4), (8, 4), (9, 3), (10, 44)]), 11, 104, (.agg [(.int .i64 0), (.int .i64 0), (.int .i64 0), (.int .i64 0), (.int .i64 0), (.int .i64 0), (.str ⟨#[]⟩), (.bool false), (.bool false), (.int .i64 0), .nil])⟩),
  (193, ⟨.func, 1, 8, .undef⟩),
  (194, ⟨.func, 1, 8, .undef⟩),
  (195, ⟨.func, 1, 8, .undef⟩),
  (196, ⟨.func, 1, 8, .undef⟩),
  (197, ⟨.func, 1, 8, .undef⟩),
  (198, ⟨.func, 1, 8, .undef⟩),
  (199, ⟨.func, 1, 8, .undef⟩),
  (200, ⟨.func, 1, 8, .undef⟩),
  (201, ⟨.func, 1, 8, .undef⟩),
  (202, ⟨.func, 1, 8, .undef⟩),
  (203, ⟨.func, 1, 8, .undef⟩),
  (204, ⟨.func, 1, 8, .undef⟩),
  (205, ⟨.func, 1, 8, .undef⟩),
  (206, ⟨.func, 1, 8, .undef⟩),
  (207, ⟨.func, 1, 8, .undef⟩),
  (208, ⟨.func, 1, 8, .undef⟩),
  (209, ⟨.func, 1, 8, .undef⟩),
  (210, ⟨.func, 1, 8, .undef⟩),
  (211, ⟨.func, 1, 8, .undef⟩),
  (212, ⟨.func, 1, 8, .undef⟩),
  (213, ⟨.func, 1, 8, .undef⟩),
  (214, ⟨.func, 1, 8, .undef⟩),
  (215, ⟨.func, 1, 8, .undef⟩),
  (216, ⟨.func, 1, 8, .undef⟩),
  (217, ⟨.func, 1, 8, .undef⟩),
  (218, ⟨.ptr, 1, 8, .undef⟩),
  (219, ⟨.func, 1, 8, .undef⟩),
  (220, ⟨.func, 1, 8, .undef⟩),
  (222, ⟨.func, 1, 8, .undef⟩),
  (223, ⟨.func, 1, 8, .undef⟩),
  (224, ⟨(.struct [(0, 3), (1, 3), (2, 44)]), 3, 40, (.agg [(.int .i64 0), (.int .i64 0), .nil])⟩),
  (225, ⟨.func, 1, 8, .undef⟩),
  (226, ⟨(.slice 251), 1, 24, .nil⟩),
  (227, ⟨(.struct [(0, 4), (1, 226), (2, 9)]), 3, 48, (.agg [(.bool false), .nil, (.str ⟨#[]⟩)])⟩),
  (228, ⟨(.struct [(0, 4), (1, 226), (2, 9)]), 3, 48, (.agg [(.bool false), .nil, (.str ⟨#[]⟩)])⟩),
  (229, ⟨.func, 1, 8, .undef⟩),
  (230, ⟨.func, 1, 8, .undef⟩),
  (231, ⟨.func, 1, 8, .undef⟩),
  (232, ⟨.func, 1, 8, .undef⟩),
  (233, ⟨.func, 1, 8, .undef⟩),
  (234, ⟨.func, 1, 8, .undef⟩),
  (235, ⟨.func, 1, 8, .undef⟩),
  (236, ⟨.func, 1, 8, .undef⟩),
  (237, ⟨.func, 1, 8, .undef⟩),
  (238, ⟨.func, 1, 8, .undef⟩),
  (239, ⟨.func, 1, 8, .undef⟩),
  (240, ⟨.func, 1, 8, .undef⟩),
  (242, ⟨.func, 1, 8, .undef⟩),
  (243, ⟨.func, 1, 8, .undef⟩),
  (244, ⟨.func, 1, 8, .undef⟩),
  (245, ⟨.func, 1, 8, .undef⟩),
  (246, ⟨.func, 1, 8, .undef⟩),
  (247, ⟨.func, 1, 8, .undef⟩),
  (248, ⟨.func, 1, 8, .undef⟩),
  (249, ⟨.func, 1, 8, .undef⟩),
  (250, ⟨.func, 1, 8, .undef⟩),
  (251, ⟨(.struct [(0, 9), (1, 3)]), 2, 24, (.agg [(.str ⟨#[]⟩), (.int .i64 0)])⟩),
  (252, ⟨.func, 1, 8, .undef⟩),
  (253, ⟨.func, 1, 8, .undef⟩),
  (255, ⟨.func, 1, 8, .undef⟩),
  (256, ⟨.func, 1, 8, .undef⟩),
  (257, ⟨.func, 1, 8, .undef⟩),
  (259, ⟨(.struct [(0, 5), (1, 5)]), 2, 2, (.agg [(.int .u8 0), (.int .u8 0)])⟩),
  (260, ⟨(.struct [(0, 5), (1, 5)]), 2, 2, (.agg [(.int .u8 0), (.int .u8 0)])⟩),
  (262, ⟨(.int .u32), 1, 4, (.int .u32 0)⟩),
  (264, ⟨.func, 1, 8, .undef⟩),
  (265, ⟨.func, 1, 8, .undef⟩),
  (266, ⟨(.struct [(0, 17), (1, 17), (2, 17), (3, 9)]), 4, 40, (.agg [.undef, .undef, .undef, (.str ⟨#[]⟩)])⟩),
  (267, ⟨(.struct [(0, 17), (1, 17), (2, 17), (3, 9)]), 4, 40, (.agg [.undef, .undef, .undef, (.str ⟨#[]⟩)])⟩),
  (269, ⟨(.struct [(0, 268)]), 0, 0, (.agg [])⟩),
  (270, ⟨(.struct [(0, 268)]), 0, 0, (.agg [])⟩),
  (271, ⟨.func, 1, 8, .undef⟩),
  (272, ⟨(.int .u8), 1, 1, (.int .u8 0)⟩),
  (273, ⟨(.int .u8), 1, 1, (.int .u8 0)⟩),
  (274, ⟨.func, 1, 8, .undef⟩),
  (275, ⟨.ptr, 1, 8, .undef⟩),
  (276, ⟨(.int .i32), 1, 4, (.int .i32 0)⟩),
  (277, ⟨(.int .i32), 1, 4, (.int .i32 0)⟩),
  (278, ⟨(.struct [(0, 12), (1, 12), (2, 262), (3, 272), (4, 5), (5, 5), (6, 273), (7, 274), (8, 275), (9, 276), (10, 277)]), 11, 48, (.agg [(.int .u64 0), (.int .u64 0), (.int .u32 0), (.int .u8 0), (.int .u8 0), (.int .u8 0), (.int .u8 0), .undef, .undef, (.int .i32 0), (.int .i32 0)])⟩),
  (279, ⟨(.struct [(0, 12), (1, 12), (2, 262), (3, 272), (4, 5), (5, 5), (6, 273), (7, 274), (8, 275), (9, 276), (10, 277)]), 11, 48, (.agg [(.int .u64 0), (.int .u64 0), (.int .u32 0), (.int .u8 0), (.int .u8 0), (.int .u8 0), (.int .u8 0), .undef, .undef, (.int .i32 0), (.int .i32 0)])⟩)]
theorem tt_rows : tt.map (fun r => tyOf Tryz.prog r.1) = tt.map (fun r => some r.2) := by kernel_rfl
theorem mixed : Tryz.prog.follows .mixedOrders = true := by kernel_rfl
end Go.Proofs.YtaaajjinpppgeaaGreatDoor
namespace Go.Abs
open Go Go.RowKit
inductive Tr where
  | lf
  | nd (l : Tr) (v : AV) (r : Tr)
def Tr.get : Tr → Nat → AV
  | .lf, _ => .undef
  | .nd l v r, n => match n with
    | 0 => v
    | n + 1 => cond (Nat.beq (n % 2) 0) (l.get (n / 2)) (r.get (n / 2))
def Tr.ndL (x : AV) (r : Tr) : Tr → Tr
  | .lf => .nd .lf x r
  | .nd a b c => .nd (.nd a b c) x r
def Tr.ndR (l : Tr) (x : AV) : Tr → Tr
  | .lf => .nd l x .lf
  | .nd a b c => .nd l x (.nd a b c)
theorem Tr.ndL_eq (x : AV) (r l : Tr) : Tr.ndL x r l = .nd l x r := by cases l <;> rfl
theorem Tr.ndR_eq (l : Tr) (x : AV) (r : Tr) : Tr.ndR l x r = .nd l x r := by cases r <;> rfl
def Tr.set : Nat → Tr → Nat → AV → Tr
  | 0, t, _, _ => t
  | f + 1, .lf, n, v => match n with
    | 0 => .nd .lf v .lf
    | n + 1 => cond (Nat.beq (n % 2) 0) (Tr.ndL .undef .lf (Tr.set f .lf (n / 2) v)) (Tr.ndR .lf .undef (Tr.set f .lf (n / 2) v))
  | f + 1, .nd l x r, n, v => match n with
    | 0 => .nd l v r
    | n + 1 => cond (Nat.beq (n % 2) 0) (Tr.ndL x r (Tr.set f l (n / 2) v)) (Tr.ndR l x (Tr.set f r (n / 2) v))
theorem Tr.get_set : ∀ (f : Nat) (t : Tr) (n : Nat) (v : AV) (m : Nat), n + 1 < 2 ^ f → (Tr.set f t n v).get m = if m = n then v else t.get m := by
  intro f
  induction f with
  | zero => intro t n v m h; simp at h
  | succ f ih =>
    intro t n v m h
    have hl : ∀ k, k + 1 + 1 < 2 ^ (f + 1) → k / 2 + 1 < 2 ^ f := fun k hk => by rw [Nat.pow_succ] at hk; omega
    cases n with
    | zero => cases t <;> cases m <;> simp [Tr.set, Tr.get]
    | succ n =>
      have h' := hl n h
      cases t with
      | lf =>
        cases e : Nat.beq (n % 2) 0 with
        | true =>
          have e' : n % 2 = 0 := Nat.eq_of_beq_eq_true e
          simp only [Tr.set, e, cond_true, Tr.ndL_eq]
          cases m with
          | zero => simp [Tr.get]
          | succ m =>
            simp only [Tr.get]
            cases e2 : Nat.beq (m % 2) 0 with
            | true =>
              have e2' : m % 2 = 0 := Nat.eq_of_beq_eq_true e2
              simp only [cond_true, ih _ _ _ _ h', Tr.get]
              by_cases hmn : m = n
              · simp [hmn]
              · rw [if_neg (by omega), if_neg (by omega)]
            | false =>
              have e2' : m % 2 ≠ 0 := fun hh => by rw [hh] at e2; simp at e2
              simp only [cond_false, Tr.get]
              rw [if_neg (by intro hh; apply e2'; omega)]
        | false =>
          have e' : n % 2 ≠ 0 := fun hh => by rw [hh] at e; simp at e
          simp only [Tr.set, e, cond_false, Tr.ndR_eq]
          cases m with
          | zero => simp [Tr.get]
          | succ m =>
            simp only [Tr.get]
            cases e2 : Nat.beq (m % 2) 0 with
            | true =>
              have e2' : m % 2 = 0 := Nat.eq_of_beq_eq_true e2
              simp only [cond_true, Tr.get]
              rw [if_neg (by intro hh; apply e'; omega)]
            | false =>
              have e2' : m % 2 ≠ 0 := fun hh => by rw [hh] at e2; simp at e2
              simp only [cond_false, ih _ _ _ _ h', Tr.get]
              by_cases hmn : m = n
              · simp [hmn]
              · rw [if_neg (by omega), if_neg (by omega)]
      | nd l x r =>
        cases e : Nat.beq (n % 2) 0 with
        | true =>
          have e' : n % 2 = 0 := Nat.eq_of_beq_eq_true e
          simp only [Tr.set, e, cond_true, Tr.ndL_eq]
          cases m with
          | zero => simp [Tr.get]
          | succ m =>
            simp only [Tr.get]
            cases e2 : Nat.beq (m % 2) 0 with
            | true =>
              have e2' : m % 2 = 0 := Nat.eq_of_beq_eq_true e2
              simp only [cond_true, ih _ _ _ _ h']
              by_cases hmn : m = n
              · simp [hmn]
              · rw [if_neg (by omega), if_neg (by omega)]
            | false =>
              have e2' : m % 2 ≠ 0 := fun hh => by rw [hh] at e2; simp at e2
              simp only [cond_false]
              rw [if_neg (by intro hh; apply e2'; omega)]
        | false =>
          have e' : n % 2 ≠ 0 := fun hh => by rw [hh] at e; simp at e
          simp only [Tr.set, e, cond_false, Tr.ndR_eq]
          cases m with
          | zero => simp [Tr.get]
          | succ m =>
            simp only [Tr.get]
            cases e2 : Nat.beq (m % 2) 0 with
            | true =>
              have e2' : m % 2 = 0 := Nat.eq_of_beq_eq_true e2
              simp only [cond_true]
              rw [if_neg (by intro hh; apply e'; omega)]
            | false =>
              have e2' : m % 2 ≠ 0 := fun hh => by rw [hh] at e2; simp at e2
              simp only [cond_false, ih _ _ _ _ h']
              by_cases hmn : m = n
              · simp [hmn]
              · rw [if_neg (by omega), if_neg (by omega)]
def Agree (env : List (Nat × AV)) (tr : Tr) : Prop := ∀ t, lookA env t = tr.get t
def nthO : List AV → Nat → Option AV
  | [], _ => none
  | x :: r, n => match n with
    | 0 => some x
    | n + 1 => nthO r n
theorem nthO_eq : ∀ (l : List AV) (i : Nat), nthO l i = l[i]?
  | [], _ => rfl
  | x :: r, 0 => rfl
  | x :: r, i + 1 => by rw [nthO]; rw [nthO_eq r i]; rfl
theorem nthO_some {l : List AV} {i : Nat} {x : AV} (h : nthO l i = some x) : i < l.length ∧ l.getD i .undef = x := by
  rw [nthO_eq] at h
  exact ⟨(List.getElem?_eq_some_iff.1 h).1, by simp [List.getD, h]⟩
def nthM : Mem → Nat → Option (Nat × List AV)
  | [], _ => none
  | x :: r, n => match n with
    | 0 => x
    | n + 1 => nthM r n
theorem nthM_eq : ∀ (m : Mem) (i : Nat), nthM m i = liveOf m i
  | [], _ => rfl
  | x :: r, 0 => rfl
  | x :: r, i + 1 => by rw [nthM]; rw [nthM_eq r i]; rfl
theorem nthM_fun (m : Mem) : nthM m = liveOf m := funext (nthM_eq m)
def gdE (c : Bool) (e : Eff) : Option Eff := cond c (some e) none
theorem gdE_some {c : Bool} {e e' : Eff} (h : gdE c e = some e') : c = true ∧ e' = e := by
  cases c with
  | true => cases h; exact ⟨rfl, rfl⟩
  | false => cases h
def inI (i : Int) (n : Nat) : Bool := match i with
  | .ofNat m => Nat.blt m n
  | .negSucc _ => false
theorem inI_iff {i : Int} {n : Nat} : inI i n = true ↔ 0 ≤ i ∧ i < (n : Int) := by
  cases i with
  | ofNat m => simp only [inI, Nat.blt_eq, Int.ofNat_eq_natCast]; omega
  | negSucc m => simp only [inI]; constructor
                 · intro h; cases h
                 · rintro ⟨h, _⟩; exact absurd h (by omega)
def ltI (a b : Int) : Bool := match a, b with
  | .ofNat m, .ofNat n => Nat.blt m n
  | .ofNat _, .negSucc _ => false
  | .negSucc _, .ofNat _ => true
  | .negSucc m, .negSucc n => Nat.blt n m
theorem ltI_eq (a b : Int) : ltI a b = decide (a < b) := by
  rw [Bool.eq_iff_iff, decide_eq_true_eq]
  cases a with
  | ofNat m => cases b with
    | ofNat n => simp only [ltI, Nat.blt_eq, Int.ofNat_eq_natCast]; omega
    | negSucc n => simp only [ltI, Bool.false_eq_true, Int.ofNat_eq_natCast, false_iff]; omega
  | negSucc m => cases b with
    | ofNat n => simp only [ltI, Int.ofNat_eq_natCast, true_iff]; omega
    | negSucc n => simp only [ltI, Nat.blt_eq]; omega
def eqI (a b : Int) : Bool := match a, b with
  | .ofNat m, .ofNat n => Nat.beq m n
  | .ofNat _, .negSucc _ => false
  | .negSucc _, .ofNat _ => false
  | .negSucc m, .negSucc n => Nat.beq m n
theorem eqI_eq (a b : Int) : eqI a b = (a == b) := by
  rw [Bool.eq_iff_iff, beq_iff_eq]
  cases a with
  | ofNat m => cases b with
    | ofNat n => simp only [eqI, Nat.beq_eq, Int.ofNat.injEq]
    | negSucc n => simp [eqI]
  | negSucc m => cases b with
    | ofNat n => simp [eqI]
    | negSucc n => simp only [eqI, Nat.beq_eq, Int.negSucc.injEq]
def fitsI : Int → Bool
  | .ofNat m => Nat.blt m 9223372036854775808
  | .negSucc m => Nat.blt m 9223372036854775808
def wrapC : IntKind → Int → Int
  | .i64, n => cond (fitsI n) n (IntKind.wrap .i64 n)
  | k, n => k.wrap n
theorem wrapC_eq (k : IntKind) (n : Int) : wrapC k n = k.wrap n := by
  unfold wrapC
  split
  · cases h : fitsI n with
    | false => rfl
    | true =>
      have : -9223372036854775808 ≤ n ∧ n ≤ 9223372036854775807 := by
        cases n <;> simp only [fitsI, Nat.blt_eq, Int.ofNat_eq_natCast] at h ⊢ <;> omega
      exact (w_i64 n this).symm
  · rfl
def strBinC (op : BinOp) (a b : ByteArray) : Option AV :=
  match op with
  | .add => if ((a.size + b.size : Nat) : Int) > IntKind.i64.max then none else some (.str (a ++ b))
  | .eql => some (.bool (a.data.toList == b.data.toList))
  | .neq => some (.bool (!(a.data.toList == b.data.toList)))
  | .lss => some (.bool (Op.bytesLess a.data.toList b.data.toList))
  | .leq => some (.bool (Op.bytesLess a.data.toList b.data.toList || a.data.toList == b.data.toList))
  | .gtr => some (.bool (!(Op.bytesLess a.data.toList b.data.toList || a.data.toList == b.data.toList)))
  | .geq => some (.bool (!Op.bytesLess a.data.toList b.data.toList))
  | _ => none
theorem strBinC_eq (op : BinOp) (a b : ByteArray) : strBinC op a b = strBin op a b := by
  unfold strBinC strBin
  simp only [ByteArray.toList_eq]
  cases op <;> rfl
def intBinC (op : BinOp) (k : IntKind) (a b : Int) : Option AV :=
  match op with
  | .add => some (.int k (wrapC k (a + b)))
  | .sub => some (.int k (wrapC k (a - b)))
  | .mul => some (.int k (wrapC k (a * b)))
  | .eql => some (.bool (eqI a b))
  | .neq => some (.bool (!eqI a b))
  | .lss => some (.bool (ltI a b))
  | .leq => some (.bool (!ltI b a))
  | .gtr => some (.bool (ltI b a))
  | .geq => some (.bool (!ltI a b))
  | op => intBin op k a b
theorem intBinC_eq (op : BinOp) (k : IntKind) (a b : Int) : intBinC op k a b = intBin op k a b := by
  have h1 : ∀ a b : Int, (!decide (a < b)) = decide (b ≤ a) := fun a b => by
    rw [← decide_not]; exact decide_eq_decide.2 Int.not_lt
  unfold intBinC
  split <;> simp only [wrapC_eq, eqI_eq, ltI_eq, h1, intBin] <;> rfl
def binVC (op : BinOp) : AV → AV → Option AV
  | .int k a, .int k' b =>
    match op with
    | .shl => binV .shl (.int k a) (.int k' b)
    | .shr => binV .shr (.int k a) (.int k' b)
    | _ => if k = k' then intBinC op k a b else none
  | .str a, .str b => strBinC op a b
  | _, _ => none
theorem binVC_eq (op : BinOp) (x y : AV) : binVC op x y = binV op x y := by
  cases x with
  | int k a => cases y with
    | int k' b =>
      have e : binVC op (.int k a) (.int k' b) = binV op (.int k a) (.int k' b) := by
        cases op <;> simp only [binVC, intBinC_eq] <;> rfl
      exact e
    | _ => rfl
  | str a => cases y with
    | str b => simp only [binVC, strBinC_eq]; rfl
    | _ => rfl
  | _ => cases y <;> rfl
def eqCellC : Nat → AV → AV → Option Bool
  | 0, .bool a, .bool b => some (a == b)
  | 1, .int k a, .int k' b => if k = k' then some (eqI a b) else none
  | 2, .str a, .str b => some (a.data.toList == b.data.toList)
  | _, _, _ => none
theorem eqCellC_eq (n : Nat) (a b : AV) : eqCellC n a b = eqCell n a b := by
  cases n with
  | zero => cases a <;> cases b <;> rfl
  | succ n => cases n with
    | zero => cases a <;> cases b <;> first | rfl | simp only [eqCellC, eqCell, eqI_eq]
    | succ n => cases n with
      | zero => cases a <;> cases b <;> first | rfl | simp only [eqCellC, eqCell, ByteArray.toList_eq]
      | succ n => cases a <;> cases b <;> rfl
def eqCellsC : List Nat → List AV → List AV → Option Bool
  | [], [], [] => some true
  | k :: ks, a :: us, b :: bs => match eqCellC k a b with
    | some e => match eqCellsC ks us bs with
      | some r => some (e && r)
      | none => none
    | none => none
  | _, _, _ => none
theorem eqCellsC_eq : ∀ (ks : List Nat) (us bs : List AV), eqCellsC ks us bs = eqCells ks us bs := by
  intro ks
  induction ks with
  | nil => intro us bs; cases us <;> cases bs <;> rfl
  | cons k ks ih =>
    intro us bs
    cases us with
    | nil => cases bs <;> rfl
    | cons a us => cases bs with
      | nil => rfl
      | cons b bs =>
        simp only [eqCellsC, eqCells, eqCellC_eq, ih]
        cases eqCell k a b with
        | none => rfl
        | some e => cases eqCells ks us bs <;> rfl
end Go.Abs
namespace Go.Abs
open Go Go.RowKit
section
variable (live : Live)
def cLoad1 (i j : Nat) : Option (Nat × List AV) → Option Eff
  | some (_, xs) => match nthO xs i with
    | some x => match nthO x.cells j with
      | some v => gdE (noOwnC v) (.val v)
      | none => none
    | none => none
  | none => none
def cLoadN (n i j : Nat) : Option (Nat × List AV) → Option Eff
  | some (_, xs) => match nthO xs i with
    | some x => gdE (Nat.ble (j + n) x.cells.length && ((x.cells.drop j).take n).all noOwnC) (.val (.agg ((x.cells.drop j).take n)))
    | none => none
  | none => none
def cStore1 (id i j : Nat) (v : AV) : Option (Nat × List AV) → Option Eff
  | some (s, xs) => match nthO xs i with
    | some x => gdE (Nat.blt j x.cells.length && okC live v) (.upd id s (xs.set i (x.setCell j v)))
    | none => none
  | none => none
def cStoreN (n id i j : Nat) (vs : List AV) : Option (Nat × List AV) → Option Eff
  | some (s, xs) => match nthO xs i with
    | some x => gdE (Nat.beq vs.length n && Nat.ble (j + n) x.cells.length && vs.all (okC live)) (.upd id s (xs.set i (x.setCells j vs)))
    | none => none
  | none => none
def cIaddr (s id off n : Nat) (i : Int) : Option (Nat × List AV) → Option Eff
  | some (s', _) => gdE (Nat.beq s' s && inI i n) (.val (.ptr id (off + i.toNat) 0))
  | none => none
def cRoAt (s' s : Nat) (i : Int) : Option AV → Option Eff
  | some x => gdE (Nat.beq s' s && inI i (i.toNat + 1)) (.val (.rop x.cells))
  | none => none
def cBuild (z : List AV) (parts : List (Nat × Nat)) (xs : List AV) : Option (List AV) → Option Eff
  | some cs => gdE (Nat.beq parts.length xs.length && xs.all (okV live)) (.val (.agg cs))
  | none => none
def cBslice (s n : Nat) (z : AV) (idx : List Nat) (xs : List AV) : Option Eff :=
  gdE (Nat.beq idx.length xs.length && xs.all (fun x => Nat.beq x.cells.length s && okV live x) && idx.all (fun i => Nat.blt i n) && Nat.ble (n * s) 16777216)
    (match n with
      | 0 => .val .nil
      | n + 1 => .newSl s ((idx.zip xs).foldl (fun r p => r.set p.1 p.2) (List.replicate (n + 1) z)))
def cApp (s bytes : Nat) : AV → Option (List AV) → Option Eff
  | .nil, some [] => some (.val .nil)
  | .nil, some (y :: ys) => gdE (Nat.ble ((y :: ys).length * bytes) 140737488355328) (.newSl s (y :: ys))
  | .sl id off n, some es => match live id with
    | some (s', xs) => gdE (Nat.beq s' s && Nat.beq off 0 && Nat.ble n xs.length && Nat.ble ((n + es.length) * bytes) 140737488355328 && es.all (fun x => x.cells.all (okC live))) (.app id s (xs.take n ++ es))
    | none => none
  | _, _ => none
def optE : Option AV → Option Eff
  | some v => some (.val v)
  | none => none
def cClear (s : Nat) (z : AV) (id off n : Nat) : Option (Nat × List AV) → Option Eff
  | some (s', xs) => gdE (Nat.beq s' s && Nat.ble (off + n) xs.length && Nat.beq z.cells.length s && z.cells.all (okC live)) (.upd id s (xs.take off ++ List.replicate n z ++ xs.drop (off + n)))
  | none => none
def cCopy (id off n : Nat) : Option (Nat × List AV) → Option (List AV) → Option Eff
  | some (s', xs), some es => gdE (Nat.beq s' 1 && Nat.ble (off + n) xs.length && Nat.blt 0 n && Nat.blt 0 es.length && (es.take n).all (okC live)) (.updv id 1 (xs.take off ++ es.take n ++ xs.drop (off + (es.take n).length)) ((es.take n).length : Nat))
  | _, _ => none
def cB2s : Option (List AV) → Option Eff
  | some es => match bytesOf es with
    | some l => some (.val (.str ⟨l.toArray⟩))
    | none => none
  | none => none
def cStr (s : ByteArray) : Bool → Bool → List AV → Option Eff
  | true, true, [.int _ l, .int _ h] => gdE (!ltI l 0 && !ltI h l && !ltI (s.size : Int) h) (.val (.str (s.extract l.toNat h.toNat)))
  | true, false, [.int _ l] => gdE (!ltI l 0 && !ltI (s.size : Int) l) (.val (.str (s.extract l.toNat s.size)))
  | false, true, [.int _ h] => gdE (!ltI h 0 && !ltI (s.size : Int) h) (.val (.str (s.extract 0 h.toNat)))
  | _, _, _ => none
def cSlR (s : Nat) (xs : List AV) : Bool → Bool → List AV → Option Eff
  | true, true, [.int _ l, .int _ h] => gdE (!ltI l 0 && !ltI h l && !ltI (xs.length : Int) h) (.val (.ro s ((xs.take h.toNat).drop l.toNat)))
  | true, false, [.int _ l] => gdE (!ltI l 0 && !ltI (xs.length : Int) l) (.val (.ro s (xs.drop l.toNat)))
  | false, true, [.int _ h] => gdE (!ltI h 0 && !ltI (xs.length : Int) h) (.val (.ro s (xs.take h.toNat)))
  | _, _, _ => none
def cSlS (id off n : Nat) : Bool → Bool → List AV → Option Eff
  | true, true, [.int _ l, .int _ h] => gdE (!ltI l 0 && !ltI h l && !ltI (n : Int) h) (.val (.sl id (off + l.toNat) (h.toNat - l.toNat)))
  | true, false, [.int _ l] => gdE (!ltI l 0 && !ltI (n : Int) l) (.val (.sl id (off + l.toNat) (n - l.toNat)))
  | false, true, [.int _ h] => gdE (!ltI h 0 && !ltI (n : Int) h) (.val (.sl id off h.toNat))
  | _, _, _ => none
def cSlI (s : Nat) (lo hi : Bool) (id off n : Nat) (r : List AV) : Option (Nat × List AV) → Option Eff
  | some (s', _) => cond (Nat.beq s' s) (cSlS id off n lo hi r) none
  | none => none
def effC : K → List AV → Option Eff
  | .mv, [x] => some (.val x)
  | .pick, [.bool c, a, b] => some (.val (cond c a b))
  | .box s, [x] => gdE (Nat.beq x.cells.length s && okV live x) (.newPtr s x)
  | .alloc z, [] => some (.newPtr z.cells.length z)
  | .build z parts, xs => cBuild live z parts xs (fillA z (parts.zipWith (fun p x => (p.1, p.2, x)) xs))
  | .bslice s n z idx, xs => cBslice live s n z idx xs
  | .load1, [.ptr id i j] => cLoad1 i j (live id)
  | .load1, [.rop cs] => match cs with
    | c :: _ => some (.val c)
    | [] => none
  | .loadN n, [.ptr id i j] => cLoadN n i j (live id)
  | .loadN n, [.rop cs] => gdE (Nat.ble n cs.length) (.val (.agg (cs.take n)))
  | .store1, [.ptr id i j, v] => cStore1 live id i j v (live id)
  | .storeN n, [.ptr id i j, .agg vs] => cStoreN live n id i j vs (live id)
  | .faddr off, [.ptr id i j] => gdE (live id).isSome (.val (.ptr id i (j + off)))
  | .faddr off, [.rop cs] => some (.val (.rop (cs.drop off)))
  | .iaddr s, [.sl id off n, .int _ i] => cIaddr s id off n i (live id)
  | .iaddr s, [.ro s' xs, .int _ i] => cRoAt s' s i (nthO xs i.toNat)
  | .field1 off, [.agg cs] => optE (nthO cs off)
  | .fieldN off n, [.agg cs] => gdE (Nat.ble (off + n) cs.length) (.val (.agg ((cs.drop off).take n)))
  | .idxStr, [.str s, .int _ i] => gdE (inI i s.size) (.val (.int .u8 ((s.data.toList.getD i.toNat 0).toNat : Nat)))
  | .len, [.nil] => some (.val (.int .i64 0))
  | .len, [.ro _ xs] => some (.val (.int .i64 (xs.length : Nat)))
  | .len, [.sl id _ n] => gdE (live id).isSome (.val (.int .i64 (n : Nat)))
  | .lenStr, [.str s] => some (.val (.int .i64 (s.size : Nat)))
  | .append s bytes, [base, x] => cApp live s bytes base (elems live s x)
  | .mkslice s bytes z, [.int _ l, .int _ c] => gdE (decide (0 ≤ l ∧ l = c ∧ (bytes : Int) * c ≤ 140737488355328 ∧ l ≤ 9223372036854775807)) (.newSl s (List.replicate l.toNat z))
  | .bin op, [x, y] => optE (binVC op x y)
  | .binB neg, [.bool a, .bool b] => some (.val (.bool (if neg then !(a == b) else a == b)))
  | .eqs neg ks, [.agg cs, .agg ds] => match eqCellsC ks cs ds with
    | some e => some (.val (.bool (if neg then !e else e)))
    | none => none
  | .not, [.bool b] => some (.val (.bool (!b)))
  | .conv k, [.int _ n] => some (.val (.int k (wrapC k n)))
  | .mkfn f, xs => some (.val (.fn f xs))
  | .ext i, [.tup vs] => optE (nthO vs i)
  | .b2s, [x] => cB2s (elems live 1 x)
  | .nilck, [.ptr id i j] => gdE (live id).isSome (.val (.ptr id i j))
  | .clear s z, [.sl id off n] => cClear live s z id off n (live id)
  | .copy, [.sl id off n, y] => cCopy live id off n (live id) (elems live 1 y)
  | .sliceStr lo hi, .str s :: r => cStr s lo hi r
  | .slice s lo hi, .ro s' xs :: r => cond (Nat.beq s' s) (cSlR s xs lo hi r) none
  | .slice s lo hi, .sl id off n :: r => cSlI s lo hi id off n r (live id)
  | .max, [.int k a, .int _ b] => some (.val (.int k (cond (ltI a b) b a)))
  | .min, [.int k a, .int _ b] => some (.val (.int k (cond (ltI b a) b a)))
  | .nilck, [.rop cs] => some (.val (.rop cs))
  | _, _ => none
end
def EffIs (live : Live) (k : K) (args : List AV) (e : Eff) : Prop := weff live k args (fun e' => e' = e) ∧ e = effOf live k args
theorem nlt_iff (a b : Int) : (!ltI a b) = true ↔ b ≤ a := by
  rw [ltI_eq]; simp
theorem effC_ok {live : Live} {k : K} {args : List AV} {e : Eff} (h : effC live k args = some e) : EffIs live k args e := by
  unfold effC at h
  split at h
  case h_1 => cases h; exact ⟨rfl, rfl⟩
  case h_2 => cases h; exact ⟨rfl, rfl⟩
  case h_3 =>
    obtain ⟨h1, rfl⟩ := gdE_some h
    simp only [Bool.and_eq_true, Nat.beq_eq] at h1
    exact ⟨⟨h1.1, h1.2, rfl⟩, rfl⟩
  case h_4 => cases h; exact ⟨rfl, rfl⟩
  case h_5 =>
    rename_i z parts xs
    unfold cBuild at h
    split at h
    · rename_i cs hcs
      obtain ⟨h1, rfl⟩ := gdE_some h
      simp only [Bool.and_eq_true, Nat.beq_eq, List.all_eq_true] at h1
      refine ⟨?_, ?_⟩
      · simp only [weff, hcs]; exact ⟨h1.1, h1.2, trivial⟩
      · simp only [effOf, hcs]; rfl
    · cases h
  case h_6 =>
    rename_i s n z idx
    unfold cBslice at h
    obtain ⟨h1, rfl⟩ := gdE_some h
    simp only [Bool.and_eq_true, Nat.beq_eq, List.all_eq_true, Nat.blt_eq, Nat.ble_eq] at h1
    obtain ⟨⟨⟨h1, h2⟩, h3⟩, h4⟩ := h1
    refine ⟨?_, ?_⟩
    · simp only [weff]
      refine ⟨h1, h2, h3, h4, ?_⟩
      cases n <;> rfl
    · cases n <;> rfl
  case h_7 =>
    rename_i id i j
    unfold cLoad1 at h
    split at h
    · rename_i s xs hl
      split at h
      · rename_i x hx
        split at h
        · rename_i v hv
          obtain ⟨h1, rfl⟩ := gdE_some h
          obtain ⟨a1, a2⟩ := nthO_some hx
          obtain ⟨b1, b2⟩ := nthO_some hv
          refine ⟨?_, ?_⟩
          · simp only [weff, hl, a2, b2]; exact ⟨a1, b1, h1, trivial⟩
          · simp only [effOf, hl, Option.getD_some, a2, b2]
        · cases h
      · cases h
    · cases h
  case h_8 =>
    split at h
    · cases h; exact ⟨⟨by simp, rfl⟩, rfl⟩
    · cases h
  case h_9 =>
    rename_i n id i j
    unfold cLoadN at h
    split at h
    · rename_i s xs hl
      split at h
      · rename_i x hx
        obtain ⟨h1, rfl⟩ := gdE_some h
        obtain ⟨a1, a2⟩ := nthO_some hx
        simp only [Bool.and_eq_true, Nat.ble_eq] at h1
        refine ⟨?_, ?_⟩
        · simp only [weff, hl, a2]; exact ⟨a1, h1.1, h1.2, trivial⟩
        · simp only [effOf, hl, Option.getD_some, a2]
      · cases h
    · cases h
  case h_10 =>
    obtain ⟨h1, rfl⟩ := gdE_some h
    exact ⟨⟨Nat.le_of_ble_eq_true h1, rfl⟩, rfl⟩
  case h_11 =>
    rename_i id i j v
    unfold cStore1 at h
    split at h
    · rename_i s xs hl
      split at h
      · rename_i x hx
        obtain ⟨h1, rfl⟩ := gdE_some h
        obtain ⟨a1, a2⟩ := nthO_some hx
        simp only [Bool.and_eq_true, Nat.blt_eq] at h1
        refine ⟨?_, ?_⟩
        · simp only [weff, hl, a2]; exact ⟨a1, h1.1, h1.2, trivial⟩
        · simp only [effOf, hl, Option.getD_some, a2]
      · cases h
    · cases h
  case h_12 =>
    rename_i n id i j vs
    unfold cStoreN at h
    split at h
    · rename_i s xs hl
      split at h
      · rename_i x hx
        obtain ⟨h1, rfl⟩ := gdE_some h
        obtain ⟨a1, a2⟩ := nthO_some hx
        simp only [Bool.and_eq_true, Nat.ble_eq, Nat.beq_eq, List.all_eq_true] at h1
        refine ⟨?_, ?_⟩
        · simp only [weff, hl, a2]; exact ⟨a1, h1.1.1, h1.1.2, h1.2, trivial⟩
        · simp only [effOf, hl, Option.getD_some, a2]
      · cases h
    · cases h
  case h_13 =>
    obtain ⟨h1, rfl⟩ := gdE_some h
    exact ⟨⟨h1, rfl⟩, rfl⟩
  case h_14 => cases h; exact ⟨rfl, rfl⟩
  case h_15 =>
    rename_i s id off n k i
    unfold cIaddr at h
    split at h
    · rename_i s' xs hl
      obtain ⟨h1, rfl⟩ := gdE_some h
      simp only [Bool.and_eq_true, Nat.beq_eq, inI_iff] at h1
      refine ⟨?_, rfl⟩
      simp only [weff, hl]; exact ⟨h1.1, h1.2.1, h1.2.2, trivial⟩
    · cases h
  case h_16 =>
    rename_i s s' xs k i
    unfold cRoAt at h
    split at h
    · rename_i x hx
      obtain ⟨h1, rfl⟩ := gdE_some h
      obtain ⟨a1, a2⟩ := nthO_some hx
      simp only [Bool.and_eq_true, Nat.beq_eq, inI_iff] at h1
      refine ⟨?_, ?_⟩
      · simp only [weff, a2]; exact ⟨h1.1, h1.2.1, by omega, trivial⟩
      · simp only [effOf, a2]
    · cases h
  case h_17 =>
    rename_i off cs
    cases hv : nthO cs off with
    | none => rw [hv] at h; cases h
    | some v =>
      rw [hv] at h; cases h
      obtain ⟨a1, a2⟩ := nthO_some hv
      exact ⟨⟨a1, by rw [a2]⟩, by simp only [effOf, a2]⟩
  case h_18 =>
    obtain ⟨h1, rfl⟩ := gdE_some h
    exact ⟨⟨Nat.le_of_ble_eq_true h1, rfl⟩, rfl⟩
  case h_19 =>
    obtain ⟨h1, rfl⟩ := gdE_some h
    rw [inI_iff] at h1
    exact ⟨⟨h1.1, h1.2, rfl⟩, rfl⟩
  case h_20 => cases h; exact ⟨rfl, rfl⟩
  case h_21 => cases h; exact ⟨rfl, rfl⟩
  case h_22 =>
    obtain ⟨h1, rfl⟩ := gdE_some h
    exact ⟨⟨h1, rfl⟩, rfl⟩
  case h_23 => cases h; exact ⟨rfl, rfl⟩
  case h_24 =>
    rename_i s bytes base x
    cases he : elems live s x with
    | none => rw [he] at h; cases base <;> cases h
    | some es =>
      rw [he] at h
      cases base with
      | nil =>
        cases es with
        | nil =>
          cases h
          exact ⟨by simp only [weff, he, weffAppend], by simp only [effOf, he, Option.getD_some]⟩
        | cons y ys =>
          simp only [cApp] at h
          obtain ⟨h1, rfl⟩ := gdE_some h
          rw [Nat.ble_eq] at h1
          exact ⟨by simp only [weff, he, weffAppend]; exact ⟨h1, trivial⟩, by simp only [effOf, he, Option.getD_some]⟩
      | sl id off n =>
        simp only [cApp] at h
        split at h
        · rename_i s' xs hl
          obtain ⟨h1, rfl⟩ := gdE_some h
          simp only [Bool.and_eq_true, Nat.beq_eq, Nat.ble_eq] at h1
          obtain ⟨⟨⟨⟨h1, h2⟩, h3⟩, h4⟩, h5⟩ := h1
          refine ⟨?_, ?_⟩
          · simp only [weff, he, weffAppend, hl]; exact ⟨h1, h2, h3, h4, h5, trivial⟩
          · simp only [effOf, he, hl, Option.getD_some]
        · cases h
      | _ => cases h
  case h_25 =>
    obtain ⟨h1, rfl⟩ := gdE_some h
    have h1 := of_decide_eq_true h1
    exact ⟨⟨h1.1, h1.2.1, h1.2.2.1, h1.2.2.2, rfl⟩, rfl⟩
  case h_26 =>
    rename_i op x y
    rw [binVC_eq] at h
    cases hv : binV op x y with
    | none => rw [hv] at h; cases h
    | some v =>
      rw [hv] at h; cases h
      exact ⟨by simp only [weff, hv], by simp only [effOf, hv, Option.getD_some]⟩
  case h_27 => cases h; exact ⟨rfl, rfl⟩
  case h_28 =>
    rename_i neg ks cs ds
    rw [eqCellsC_eq] at h
    cases hv : eqCells ks cs ds with
    | none => rw [hv] at h; cases h
    | some v =>
      rw [hv] at h; cases h
      exact ⟨by simp only [weff, hv], by simp only [effOf, hv, Option.getD_some]⟩
  case h_29 => cases h; exact ⟨rfl, rfl⟩
  case h_30 => cases h; exact ⟨by simp only [weff, wrapC_eq], by simp only [effOf, wrapC_eq]⟩
  case h_31 => cases h; exact ⟨rfl, rfl⟩
  case h_32 =>
    rename_i i vs
    cases hv : nthO vs i with
    | none => rw [hv] at h; cases h
    | some v =>
      rw [hv] at h; cases h
      obtain ⟨a1, a2⟩ := nthO_some hv
      exact ⟨⟨a1, by rw [a2]⟩, by simp only [effOf, a2]⟩
  case h_33 =>
    rename_i x
    cases he : elems live 1 x with
    | none => rw [he] at h; cases h
    | some es =>
      rw [he] at h
      simp only [cB2s] at h
      cases hb : bytesOf es with
      | none => rw [hb] at h; cases h
      | some l =>
        rw [hb] at h; cases h
        exact ⟨by simp only [weff, he, hb], by simp only [effOf, he, hb, Option.getD_some]⟩
  case h_34 =>
    obtain ⟨h1, rfl⟩ := gdE_some h
    exact ⟨⟨h1, rfl⟩, rfl⟩
  case h_35 =>
    rename_i s z id off n
    unfold cClear at h
    split at h
    · rename_i s' xs hl
      obtain ⟨h1, rfl⟩ := gdE_some h
      simp only [Bool.and_eq_true, Nat.beq_eq, Nat.ble_eq] at h1
      obtain ⟨⟨⟨h1, h2⟩, h3⟩, h4⟩ := h1
      refine ⟨?_, ?_⟩
      · simp only [weff, hl]; exact ⟨h1, h2, h3, h4, trivial⟩
      · simp only [effOf, hl, Option.getD_some]
    · cases h
  case h_36 =>
    rename_i id off n y
    unfold cCopy at h
    split at h
    · rename_i s' xs es hl he
      obtain ⟨h1, rfl⟩ := gdE_some h
      simp only [Bool.and_eq_true, Nat.beq_eq, Nat.ble_eq, Nat.blt_eq] at h1
      obtain ⟨⟨⟨⟨h1, h2⟩, h3⟩, h4⟩, h5⟩ := h1
      refine ⟨?_, ?_⟩
      · simp only [weff, hl, he]; exact ⟨h1, h2, h3, h4, h5, trivial⟩
      · simp only [effOf, hl, he, Option.getD_some]
    · cases h
  case h_37 =>
    rename_i lo hi s r
    unfold cStr at h
    split at h
    · obtain ⟨h1, rfl⟩ := gdE_some h
      simp only [Bool.and_eq_true, nlt_iff] at h1
      exact ⟨⟨h1.1.1, h1.1.2, h1.2, rfl⟩, rfl⟩
    · obtain ⟨h1, rfl⟩ := gdE_some h
      simp only [Bool.and_eq_true, nlt_iff] at h1
      exact ⟨⟨h1.1, h1.2, rfl⟩, rfl⟩
    · obtain ⟨h1, rfl⟩ := gdE_some h
      simp only [Bool.and_eq_true, nlt_iff] at h1
      exact ⟨⟨h1.1, h1.2, rfl⟩, rfl⟩
    · cases h
  case h_38 =>
    rename_i s lo hi s' xs r
    cases hs : Nat.beq s' s with
    | false => rw [hs] at h; cases h
    | true =>
      rw [hs, cond_true] at h
      have hs := Nat.eq_of_beq_eq_true hs
      subst hs
      unfold cSlR at h
      split at h
      · obtain ⟨h1, rfl⟩ := gdE_some h
        simp only [Bool.and_eq_true, nlt_iff] at h1
        exact ⟨⟨rfl, h1.1.1, h1.1.2, h1.2, rfl⟩, rfl⟩
      · obtain ⟨h1, rfl⟩ := gdE_some h
        simp only [Bool.and_eq_true, nlt_iff] at h1
        exact ⟨⟨rfl, h1.1, h1.2, rfl⟩, rfl⟩
      · obtain ⟨h1, rfl⟩ := gdE_some h
        simp only [Bool.and_eq_true, nlt_iff] at h1
        exact ⟨⟨rfl, h1.1, h1.2, rfl⟩, rfl⟩
      · cases h
  case h_39 =>
    rename_i s lo hi id off n r
    unfold cSlI at h
    split at h
    · rename_i s' xs hl
      cases hs : Nat.beq s' s with
      | false => rw [hs] at h; cases h
      | true =>
        rw [hs, cond_true] at h
        have hs := Nat.eq_of_beq_eq_true hs
        subst hs
        unfold cSlS at h
        split at h
        · obtain ⟨h1, rfl⟩ := gdE_some h
          simp only [Bool.and_eq_true, nlt_iff] at h1
          exact ⟨by simp only [weff, hl]; exact ⟨trivial, h1.1.1, h1.1.2, h1.2, trivial⟩, rfl⟩
        · obtain ⟨h1, rfl⟩ := gdE_some h
          simp only [Bool.and_eq_true, nlt_iff] at h1
          exact ⟨by simp only [weff, hl]; exact ⟨trivial, h1.1, h1.2, trivial⟩, rfl⟩
        · obtain ⟨h1, rfl⟩ := gdE_some h
          simp only [Bool.and_eq_true, nlt_iff] at h1
          exact ⟨by simp only [weff, hl]; exact ⟨trivial, h1.1, h1.2, trivial⟩, rfl⟩
        · cases h
    · cases h
  case h_40 =>
    cases h
    rename_i k a k' b
    have e : cond (ltI a b) b a = if b > a then b else a := by
      rw [ltI_eq]; by_cases hh : a < b <;> simp [hh]
    rw [e]
    exact ⟨rfl, rfl⟩
  case h_41 =>
    cases h
    rename_i k a k' b
    have e : cond (ltI b a) b a = if b < a then b else a := by
      rw [ltI_eq]; by_cases hh : b < a <;> simp [hh]
    rw [e]
    exact ⟨rfl, rfl⟩
  case h_42 => cases h; exact ⟨rfl, rfl⟩
  case h_43 => cases h
def opEC (mem : Mem) (solo : Bool) (k : K) (args : List AV) : Option (AV × Option Mem) := match effC (nthM mem) k args with
  | some e => cond ((e.quiet || solo) && args.all isDef) (some (outE mem e)) none
  | none => none
def opXC (mem : Mem) (solo : Bool) (k : K) (args : List AV) : Option (AV × Option Mem) := cond (isUmv k args) (some (.undef, none)) (opEC mem solo k args)
theorem opEC_ok {mem : Mem} {solo : Bool} {k : K} {args : List AV} {r : AV × Option Mem} (h : opEC mem solo k args = some r) : opE mem solo k args = some r := by
  unfold opEC at h
  rw [nthM_fun] at h
  split at h
  · rename_i e he
    cases hc : (e.quiet || solo) && args.all isDef with
    | false => rw [hc] at h; cases h
    | true =>
      rw [hc] at h; cases h
      rw [Bool.and_eq_true] at hc
      obtain ⟨h1, h2⟩ := effC_ok he
      unfold opE
      rw [if_pos ⟨weff_mono h1 (fun e' he' => by subst he'; exact ⟨hc.1, h2⟩), hc.2⟩, ← h2]
  · cases h
theorem opXC_ok {mem : Mem} {solo : Bool} {k : K} {args : List AV} {r : AV × Option Mem} (h : opXC mem solo k args = some r) : opX mem solo k args = some r := by
  unfold opXC at h
  unfold opX
  cases hu : isUmv k args with
  | true => rw [hu, cond_true] at h; rw [if_pos rfl]; exact h
  | false => rw [hu, cond_false] at h; rw [if_neg (by simp)]; exact opEC_ok h
end Go.Abs
namespace Go.Abs
open Go Go.RowKit
structure CS where
  tr : Tr
  mem : Mem
def CS.put (s : CS) (dst : Option Nat) (v : AV) (mem : Mem) : Option CS := match dst with
  | none => some ⟨s.tr, mem⟩
  | some k => cond (Nat.blt k 4094) (some ⟨Tr.set 12 s.tr k v, mem⟩) none
def getC (tr : Tr) : Opd → AV
  | .const v => v
  | .tmp t => tr.get t
def stpC (q : Bool) (s : CS) (dst : Option Nat) : AV × Option Mem → Option CS
  | (v, none) => s.put dst v s.mem
  | (v, some mem) => cond q none (s.put dst v mem)
def undC : List Nat → Tr → Option Tr
  | [], tr => some tr
  | k :: ks, tr => cond (Nat.blt k 4094) (undC ks (Tr.set 12 tr k .undef)) none
def hideC (s : CS) (ks : List Nat) (dst : Nat) (b : Bool) : Option CS := match undC ks s.tr with
  | some tr => cond (Nat.blt dst 4094) (some ⟨Tr.set 12 tr dst (.bool b), s.mem⟩) none
  | none => none
mutual
def cvI (call : CallF) (q : Bool) : EI → CS → Option CS
  | .op k os dst solo, s => bnd (opXC s.mem solo k (os.map (getC s.tr))) (stpC q s dst)
  | .pc g os dst solo, s => bnd (pcE call s.mem (os.map (getC s.tr)) (getC s.tr g)) (stpC q s dst)
  | .sc g os dst solo, s => bnd (cond solo (scE call s.mem (os.map (getC s.tr)) (getC s.tr g)) (qcE call s.mem (os.map (getC s.tr)) (getC s.tr g))) (stpC q s dst)
  | .grp t want G x dst _, s => bnd (isBool (s.tr.get t)) fun b =>
      bnd (cond (b == want) (bnd (cvR call true G s) (fun s1 => boolOf (s1.tr.get x))) (some (!want))) fun v => hideC s (dstsL none G) dst v
  | .grw t want G x dst _, s => bnd (isBool (s.tr.get t)) fun b =>
      cond (b == want) (bnd (cvR call q G s) (fun s1 => bnd (boolOf (s1.tr.get x)) fun v => hideC ⟨s.tr, s1.mem⟩ (dstsL none G) dst v)) (hideC s (dstsL none G) dst (!want))
def cvR (call : CallF) (q : Bool) : List EI → CS → Option CS
  | [], s => some s
  | x :: xs, s => bnd (cvI call q x s) (cvR call q xs)
end
def nxtC (f : CS → Option (AX × CS)) : AX × CS → Option (AX × CS)
  | (.normal, s) => f s
  | (.exit i, s) => some (.exit i, s)
  | (.ret, s) => some (.ret, s)
def outBC (id : Nat) : AX × CS → AX × CS
  | (.exit i, s) => if i = id then (.normal, s) else (.exit i, s)
  | (.normal, s) => (.normal, s)
  | (.ret, s) => (.ret, s)
def iterC (g : CS → Option (AX × CS)) : Nat → CS → Option (AX × CS)
  | 0, _ => none
  | n + 1, s => bnd (g s) (nxtC (iterC g n))
def cndC (t : Option Bool) (x y : Option (AX × CS)) : Option (AX × CS) := match t with
  | some b => cond b x y
  | none => none
def lkC (n : Nat) (js is : List Nat) (s : CS) : Option (AX × CS) := cond ((js.map s.tr.get).all (lkJ n (is.map s.tr.get))) (some (.normal, s)) none
def vwC : List Vw → CS → Option CS
  | [], s => some s
  | v :: vs, s => match v with
    | .all n => vwC vs ⟨s.tr, allM n s.mem⟩
    | .wide => vwC vs s
    | _ => none
theorem vwC_ok {b : Nat} {env : List (Nat × AV)} : ∀ {vs : List Vw} {s s' : CS}, vwC vs s = some s' → s'.tr = s.tr ∧ vwL b vs ⟨env, s.mem⟩ = some ⟨env, s'.mem⟩ := by
  intro vs
  induction vs with
  | nil => intro s s' h; cases h; exact ⟨rfl, rfl⟩
  | cons v vs ih =>
    intro s s' h
    cases v <;> simp only [vwC] at h <;> first | (cases h; done) | skip
    all_goals
      obtain ⟨h1, h2⟩ := ih h
      exact ⟨h1, by simp only [vwL, vwE, bnd_some]; exact h2⟩
def cvC (call : CallF) (fuel : Nat) : EC → CS → Option (AX × CS)
  | .skip, s => some (.normal, s)
  | .region l _, s => bnd (cvR call false l s) fun s => some (.normal, s)
  | .regL l js is, s => bnd (cvR call false l s) (lkC s.mem.length js is)
  | .seq x y, s => bnd (cvC call fuel x s) (nxtC (cvC call fuel y))
  | .cond c x y, s => cndC (isBool (getC s.tr c)) (cvC call fuel x s) (cvC call fuel y s)
  | .block id x, s => bnd (cvC call fuel x s) fun r => some (outBC id r)
  | .loop hd x, s => match hd with
    | [] => iterC (cvC call fuel x) fuel s
    | _ :: _ => none
  | .exit id, s => some (.exit id, s)
  | .ret, s => some (.ret, s)
  | .view v x, s => bnd (vwC v s) (cvC call fuel x)
def resC (s : CS) : List RV → Option (List AV)
  | [] => some []
  | .tmp t :: r => bnd (resC s r) fun vs => some (s.tr.get t :: vs)
  | .cell a k :: r => bnd (opEC s.mem false k [s.tr.get a]) fun v => match v with
    | (v, none) => bnd (resC s r) fun vs => some (v :: vs)
    | _ => none
def finC (b : Nat) (rs : List RV) : AX × CS → Option (AV × Mem)
  | (.exit _, _) => none
  | (.normal, s) => bnd (resC s rs) fun vs => finP b s.mem (oneRes vs)
  | (.ret, s) => bnd (resC s rs) fun vs => finP b s.mem (oneRes vs)
def trA : Nat → List AV → Tr → Tr
  | _, [], tr => tr
  | n, v :: vs, tr => trA (n + 1) vs (Tr.set 12 tr n v)
def runC (call : CallF) (n : Nat) (F : EF) (args : List AV) (mem : Mem) : Option (AV × Mem) :=
  cond (Nat.ble args.length F.ntmps && Nat.blt args.length 4000) (bnd (cvC call n F.body ⟨trA 0 args .lf, mem⟩) (finC mem.length F.results)) none
inductive CF where
  | own (F : EF)
  | orc (g : List AV → Mem → Option (AV × Mem))
def lookF : List (Nat × CF) → Nat → Option CF
  | [], _ => none
  | (k, c) :: r, f => cond (Nat.beq k f) (some c) (lookF r f)
def crun (tbl : List (Nat × CF)) (fuel : Nat) : Nat → CallF
  | 0 => fun _ _ _ => none
  | n + 1 => fun f args mem => match lookF tbl f with
    | some (.own F) => finW F.ful (runC (crun tbl fuel n) fuel F args mem)
    | some (.orc g) => g args mem
    | none => none
theorem getC_eq {env : List (Nat × AV)} {tr : Tr} (h : Agree env tr) {mem : Mem} (o : Opd) : getOpd (St.get ⟨env, mem⟩) o = getC tr o := by
  cases o with
  | const v => rfl
  | tmp t => exact h t
theorem getsC_eq {env : List (Nat × AV)} {tr : Tr} (h : Agree env tr) {mem : Mem} (os : List Opd) : os.map (getOpd (St.get ⟨env, mem⟩)) = os.map (getC tr) :=
  List.map_congr_left fun o _ => getC_eq h o
theorem agree_set {env : List (Nat × AV)} {tr : Tr} (h : Agree env tr) {k : Nat} {v : AV} (hk : k < 4094) : Agree ((k, v) :: env) (Tr.set 12 tr k v) := by
  intro t
  rw [Tr.get_set 12 tr k v t (by omega)]
  show (if k = t then v else lookA env t) = _
  by_cases e : t = k
  · rw [if_pos e, if_pos e.symm]
  · rw [if_neg e, if_neg (fun hh => e hh.symm)]; exact h t
theorem put_ok {env : List (Nat × AV)} {s s' : CS} (h : Agree env s.tr) {dst : Option Nat} {v : AV} {mem : Mem} (hp : s.put dst v mem = some s') :
    ∃ env', (⟨env, s.mem⟩ : St).put dst v mem = ⟨env', s'.mem⟩ ∧ Agree env' s'.tr := by
  cases dst with
  | none => cases hp; exact ⟨env, rfl, h⟩
  | some k =>
    simp only [CS.put] at hp
    cases hk : Nat.blt k 4094 with
    | false => rw [hk] at hp; cases hp
    | true =>
      rw [hk] at hp; cases hp
      exact ⟨_, rfl, agree_set h (by simpa using hk)⟩
theorem stpC_ok {env : List (Nat × AV)} {q : Bool} {s s' : CS} (h : Agree env s.tr) {dst : Option Nat} {r : AV × Option Mem} (hp : stpC q s dst r = some s') :
    ∃ env', stp q ⟨env, s.mem⟩ dst r = some ⟨env', s'.mem⟩ ∧ Agree env' s'.tr := by
  obtain ⟨v, om⟩ := r
  cases om with
  | none =>
    obtain ⟨env', h1, h2⟩ := put_ok h (show s.put dst v s.mem = some s' from hp)
    exact ⟨env', by simp only [stp, h1], h2⟩
  | some mem =>
    cases q with
    | true => cases hp
    | false =>
      obtain ⟨env', h1, h2⟩ := put_ok h (show s.put dst v mem = some s' from hp)
      exact ⟨env', by simp only [stp, h1, Bool.false_eq_true, if_false], h2⟩
theorem und_ok : ∀ {ks : List Nat} {tr tr' : Tr} {env : List (Nat × AV)}, Agree env tr → undC ks tr = some tr' → ∀ t, tr'.get t = lookA (ks.map (fun k => (k, AV.undef)) ++ env) t := by
  intro ks
  induction ks with
  | nil => intro tr tr' env h hu t; cases hu; exact (h t).symm
  | cons k ks ih =>
    intro tr tr' env h hu t
    simp only [undC] at hu
    cases hk : Nat.blt k 4094 with
    | false => rw [hk] at hu; cases hu
    | true =>
      rw [hk, cond_true] at hu
      have := ih (agree_set (v := .undef) h (show k < 4094 by simpa using hk)) hu t
      rw [this]
      have key : ∀ (l : List Nat) (e : List (Nat × AV)), lookA (l.map (fun k => (k, AV.undef)) ++ e) t = if t ∈ l then .undef else lookA e t := by
        intro l e
        induction l with
        | nil => simp
        | cons x l ih2 =>
          show (if x = t then AV.undef else lookA (l.map (fun k => (k, AV.undef)) ++ e) t) = _
          rw [ih2]
          by_cases e1 : x = t
          · simp [e1]
          · have : t ≠ x := fun hh => e1 hh.symm
            simp [e1, this]
      rw [key, key]
      show (if t ∈ ks then AV.undef else if k = t then AV.undef else lookA env t) = _
      by_cases e1 : t ∈ ks
      · simp [e1]
      · by_cases e2 : k = t
        · simp [e2]
        · have : t ≠ k := fun hh => e2 hh.symm
          simp [e1, e2, this]
theorem hide_ok {env : List (Nat × AV)} {s s' : CS} (h : Agree env s.tr) {ks : List Nat} {dst : Nat} {b : Bool} (hh : hideC s ks dst b = some s') :
    ∃ env', hide ⟨env, s.mem⟩ ks dst b = ⟨env', s'.mem⟩ ∧ Agree env' s'.tr := by
  unfold hideC at hh
  split at hh
  · rename_i tr hu
    cases hk : Nat.blt dst 4094 with
    | false => rw [hk] at hh; cases hh
    | true =>
      rw [hk] at hh; cases hh
      refine ⟨_, rfl, ?_⟩
      exact agree_set (env := ks.map (fun k => (k, AV.undef)) ++ env) (fun t => (und_ok h hu t).symm) (by simpa using hk)
  · cases hh
section
variable {T : FuncId → Option EF}
theorem runF_le {n k : Nat} (h : n ≤ k) : CLe (runF T n) (runF T k) := by
  obtain ⟨j, rfl⟩ : ∃ j, k = n + j := ⟨k - n, by omega⟩
  clear h
  induction j with
  | zero => exact fun f a m v h => h
  | succ j ih => exact fun f a m v h => runF_mono T (n + j) f a m v (ih f a m v h)
def Comes (T : FuncId → Option EF) (call : CallF) : Prop := ∀ f a m v, call f a m = some v → ∃ N, runF T N f a m = some v
theorem pcE_one {c : CallF} {mem : Mem} {args : List AV} {g : AV} {v : AV × Option Mem} (h : pcE c mem args g = some v) :
    ∃ f a m r, c f a m = some r ∧ ∀ c' : CallF, c' f a m = some r → pcE c' mem args g = some v := by
  cases g with
  | fn f caps =>
    simp only [pcE] at h ⊢
    split at h
    · rename_i hd
      simp only [pcF] at h ⊢
      split at h
      · rename_i hc
        cases hr : c f (args ++ caps) [] with
        | none => rw [hr] at h; cases h
        | some r => exact ⟨f, _, _, r, hr, fun c' h' => by rw [if_pos hd, if_pos hc, h', ← hr]; exact h⟩
      · rename_i hc
        split at h
        · rename_i hl
          cases hr : c f ((args ++ caps).map (frz (liveOf mem))) [] with
          | none => rw [hr] at h; cases h
          | some r => exact ⟨f, _, _, r, hr, fun c' h' => by rw [if_pos hd, if_neg hc, if_pos hl, h', ← hr]; exact h⟩
        · cases h
    · cases h
  | _ => cases h
theorem scE_one {c : CallF} {mem : Mem} {args : List AV} {g : AV} {v : AV × Option Mem} (h : scE c mem args g = some v) :
    ∃ f a m r, c f a m = some r ∧ ∀ c' : CallF, c' f a m = some r → scE c' mem args g = some v := by
  cases g with
  | fn f caps =>
    simp only [scE] at h ⊢
    split at h
    · rename_i hd
      simp only [scF, scK] at h ⊢
      split at h
      · rename_i hn
        cases hl : lendR mem (dedupN [] (idsL idU (args ++ caps))) with
        | none =>
          rw [hl] at h
          simp only [scS] at h
          cases hr : c f (args ++ caps) mem with
          | none => rw [hr] at h; cases h
          | some r => exact ⟨f, _, _, r, hr, fun c' h' => by rw [if_pos hd, if_pos hn]; simp only [scS]; rw [h', ← hr]; exact h⟩
        | some small =>
          rw [hl] at h
          simp only [scS] at h
          cases hr : c f (mapIdL (gp (idx (dedupN [] (idsL idU (args ++ caps)))) (liveOf mem) 0) (args ++ caps)) small with
          | none => rw [hr] at h; cases h
          | some r => exact ⟨f, _, _, r, hr, fun c' h' => by rw [if_pos hd, if_pos hn]; simp only [scS]; rw [h', ← hr]; exact h⟩
      · cases h
    · cases h
  | _ => cases h
theorem qcE_one {c : CallF} {mem : Mem} {args : List AV} {g : AV} {v : AV × Option Mem} (h : qcE c mem args g = some v) :
    ∃ f a m r, c f a m = some r ∧ ∀ c' : CallF, c' f a m = some r → qcE c' mem args g = some v := by
  cases g with
  | fn f caps =>
    simp only [qcE] at h ⊢
    split at h
    · rename_i hd
      cases hr : c f (args ++ caps) (none :: mem) with
      | none => rw [hr] at h; cases h
      | some r => exact ⟨f, _, _, r, hr, fun c' h' => by rw [if_pos hd, h', ← hr]; exact h⟩
    · cases h
  | _ => cases h
mutual
theorem cvI_ok {call : CallF} (hcall : Comes T call) {q : Bool} : ∀ (x : EI) {s s' : CS} {env : List (Nat × AV)}, cvI call q x s = some s' → Agree env s.tr →
    ∃ N env', evI (runF T N) q x ⟨env, s.mem⟩ = some ⟨env', s'.mem⟩ ∧ Agree env' s'.tr := by
  intro x s s' env h ha
  match x with
  | .op k os dst solo =>
    simp only [cvI] at h
    obtain ⟨r, h1, h2⟩ := bnd_eq h
    obtain ⟨env', h3, h4⟩ := stpC_ok ha h2
    refine ⟨0, env', ?_, h4⟩
    simp only [evI]
    rw [getsC_eq ha, opXC_ok h1]; exact h3
  | .pc g os dst solo =>
    simp only [cvI] at h
    obtain ⟨r, h1, h2⟩ := bnd_eq h
    obtain ⟨env', h3, h4⟩ := stpC_ok ha h2
    obtain ⟨f, a, m, v, h5, h6⟩ := pcE_one h1
    obtain ⟨N, hN⟩ := hcall f a m v h5
    refine ⟨N, env', ?_, h4⟩
    simp only [evI]
    rw [getsC_eq ha, getC_eq ha, h6 _ hN]; exact h3
  | .sc g os dst solo =>
    simp only [cvI] at h
    obtain ⟨r, h1, h2⟩ := bnd_eq h
    obtain ⟨env', h3, h4⟩ := stpC_ok ha h2
    cases solo with
    | false =>
      obtain ⟨f, a, m, v, h5, h6⟩ := qcE_one (show qcE call s.mem (os.map (getC s.tr)) (getC s.tr g) = some r from h1)
      obtain ⟨N, hN⟩ := hcall f a m v h5
      refine ⟨N, env', ?_, h4⟩
      simp only [evI]
      rw [if_neg (by simp), getsC_eq ha, getC_eq ha, h6 _ hN]; exact h3
    | true =>
      obtain ⟨f, a, m, v, h5, h6⟩ := scE_one (show scE call s.mem (os.map (getC s.tr)) (getC s.tr g) = some r from h1)
      obtain ⟨N, hN⟩ := hcall f a m v h5
      refine ⟨N, env', ?_, h4⟩
      simp only [evI]
      rw [if_pos trivial, getsC_eq ha, getC_eq ha, h6 _ hN]; exact h3
  | .grp t want G x dst solo =>
    simp only [cvI] at h
    obtain ⟨b, h1, h2⟩ := bnd_eq h
    obtain ⟨v, h3, h4⟩ := bnd_eq h2
    obtain ⟨env', h5, h6⟩ := hide_ok ha h4
    cases hb : b == want with
    | true =>
      rw [hb, cond_true] at h3
      obtain ⟨s1, h7, h8⟩ := bnd_eq h3
      obtain ⟨N, e1, h9, h10⟩ := cvR_ok hcall G h7 ha
      refine ⟨N, env', ?_, h6⟩
      simp only [evI]
      rw [show St.get ⟨env, s.mem⟩ t = s.tr.get t from ha t, h1, bnd_some, if_pos (by simpa using hb), h9, bnd_some, show St.get ⟨e1, s1.mem⟩ x = s1.tr.get x from h10 x, h8, bnd_some, h5]
    | false =>
      rw [hb, cond_false] at h3
      refine ⟨0, env', ?_, h6⟩
      simp only [evI]
      rw [show St.get ⟨env, s.mem⟩ t = s.tr.get t from ha t, h1, bnd_some, if_neg (by simpa using hb), h3, bnd_some, h5]
  | .grw t want G x dst solo =>
    simp only [cvI] at h
    obtain ⟨b, h1, h2⟩ := bnd_eq h
    cases hb : b == want with
    | true =>
      rw [hb, cond_true] at h2
      obtain ⟨s1, h7, h3⟩ := bnd_eq h2
      obtain ⟨v, h8, h4⟩ := bnd_eq h3
      obtain ⟨env', h5, h6⟩ := hide_ok (s := ⟨s.tr, s1.mem⟩) ha h4
      obtain ⟨N, e1, h9, h10⟩ := cvR_ok hcall G h7 ha
      refine ⟨N, env', ?_, h6⟩
      simp only [evI]
      rw [show St.get ⟨env, s.mem⟩ t = s.tr.get t from ha t, h1, bnd_some, if_pos (by simpa using hb), h9, bnd_some, show St.get ⟨e1, s1.mem⟩ x = s1.tr.get x from h10 x, h8, bnd_some, h5]
    | false =>
      rw [hb, cond_false] at h2
      obtain ⟨env', h5, h6⟩ := hide_ok ha h2
      refine ⟨0, env', ?_, h6⟩
      simp only [evI]
      rw [show St.get ⟨env, s.mem⟩ t = s.tr.get t from ha t, h1, bnd_some, if_neg (by simpa using hb), h5]
theorem cvR_ok {call : CallF} (hcall : Comes T call) {q : Bool} : ∀ (l : List EI) {s s' : CS} {env : List (Nat × AV)}, cvR call q l s = some s' → Agree env s.tr →
    ∃ N env', evR (runF T N) q l ⟨env, s.mem⟩ = some ⟨env', s'.mem⟩ ∧ Agree env' s'.tr := by
  intro l s s' env h ha
  match l with
  | [] => simp only [cvR] at h; cases h; exact ⟨0, env, by simp only [evR], ha⟩
  | x :: xs =>
    simp only [cvR] at h
    obtain ⟨s1, h1, h2⟩ := bnd_eq h
    obtain ⟨N1, e1, h3, h4⟩ := cvI_ok hcall x h1 ha
    obtain ⟨N2, e2, h5, h6⟩ := cvR_ok hcall xs h2 h4
    refine ⟨max N1 N2, e2, ?_, h6⟩
    simp only [evR]
    rw [evI_mono (runF_le (Nat.le_max_left N1 N2)) x h3, bnd_some]
    exact evR_mono (runF_le (Nat.le_max_right N1 N2)) xs h5
end
theorem evC_up {n k b : Nat} (h : n ≤ k) {ec : EC} {s : St} {v : AX × St} (hv : evC (runF T n) b n ec s = some v) : evC (runF T k) b k ec s = some v := evC_mono (runF_le h) h ec hv
theorem nxt_some {f : CS → Option (AX × CS)} {r r' : AX × CS} (h : nxtC f r = some r') : (r.1 = .normal ∧ f r.2 = some r') ∨ (r.1 ≠ .normal ∧ r' = r) := by
  obtain ⟨x, s⟩ := r
  cases x with
  | normal => exact .inl ⟨rfl, h⟩
  | exit i => cases h; exact .inr ⟨by simp, rfl⟩
  | ret => cases h; exact .inr ⟨by simp, rfl⟩
theorem nxt_other {f : St → Option (AX × St)} {x : AX} {s : St} (h : x ≠ .normal) : nxt f (x, s) = some (x, s) := by
  cases x with
  | normal => exact absurd rfl h
  | _ => rfl
theorem iter_ok {call : CallF} (hcall : Comes T call) {fuel b : Nat} {x : EC} (ih : ∀ {s s' : CS} {y : AX} {env : List (Nat × AV)}, cvC call fuel x s = some (y, s') → Agree env s.tr →
      ∃ N env', evC (runF T N) b N x ⟨env, s.mem⟩ = some (y, ⟨env', s'.mem⟩) ∧ Agree env' s'.tr) : ∀ (n : Nat) {s s' : CS} {y : AX} {env : List (Nat × AV)}, iterC (cvC call fuel x) n s = some (y, s') → Agree env s.tr →
      ∃ N env', n ≤ N ∧ iterL (fun s => bnd (evC (runF T N) b N x s) (nxt fun s => bnd (vwL b [] s) fun s => some (.normal, s))) n ⟨env, s.mem⟩ = some (y, ⟨env', s'.mem⟩) ∧ Agree env' s'.tr := by
  intro n
  induction n with
  | zero => intro s s' y env h ha; cases h
  | succ n ihn =>
    intro s s' y env h ha
    simp only [iterC] at h
    obtain ⟨r, h1, h2⟩ := bnd_eq h
    obtain ⟨y1, s1⟩ := r
    obtain ⟨N1, e1, h3, h4⟩ := ih h1 ha
    rcases nxt_some h2 with ⟨h5, h6⟩ | ⟨h5, h6⟩
    · simp only at h5 h6
      subst h5
      obtain ⟨N2, e2, hn, h7, h8⟩ := ihn h6 h4
      refine ⟨max N1 (N2 + 1), e2, by omega, ?_, h8⟩
      simp only [iterL]
      rw [evC_up (Nat.le_max_left N1 (N2 + 1)) h3]
      show nxt _ (AX.normal, _) = _
      refine iterL_mono (fun s v hv => ?_) (Nat.le_refl n) h7
      exact bnd_mono (fun v hv => evC_up (by omega) hv) (fun _ _ h => h) hv
    · simp only at h5
      cases h6
      refine ⟨max N1 (n + 1), e1, by omega, ?_, h4⟩
      simp only [iterL]
      rw [evC_up (Nat.le_max_left N1 (n + 1)) h3]
      simp only [bnd_some, nxt_other h5]
theorem cvC_ok {call : CallF} (hcall : Comes T call) {fuel b : Nat} : ∀ (ec : EC) {s s' : CS} {y : AX} {env : List (Nat × AV)}, cvC call fuel ec s = some (y, s') → Agree env s.tr →
    ∃ N env', evC (runF T N) b N ec ⟨env, s.mem⟩ = some (y, ⟨env', s'.mem⟩) ∧ Agree env' s'.tr := by
  intro ec
  induction ec with
  | skip => intro s s' y env h ha; cases h; exact ⟨0, env, rfl, ha⟩
  | exit id => intro s s' y env h ha; cases h; exact ⟨0, env, rfl, ha⟩
  | ret => intro s s' y env h ha; cases h; exact ⟨0, env, rfl, ha⟩
  | view v x ih =>
    intro s s' y env h ha
    simp only [cvC] at h
    obtain ⟨s1, h1, h2⟩ := bnd_eq h
    obtain ⟨h3, h4⟩ := vwC_ok (b := b) (env := env) h1
    obtain ⟨N, e1, h5, h6⟩ := ih h2 (by rw [h3]; exact ha)
    exact ⟨N, e1, by simp only [evC]; rw [h4, bnd_some]; exact h5, h6⟩
  | region l d =>
    intro s s' y env h ha
    simp only [cvC] at h
    obtain ⟨s1, h1, h2⟩ := bnd_eq h
    cases h2
    obtain ⟨N, e1, h3, h4⟩ := cvR_ok hcall l h1 ha
    exact ⟨N, e1, by simp only [evC]; rw [h3]; rfl, h4⟩
  | regL l js is =>
    intro s s' y env h ha
    simp only [cvC] at h
    obtain ⟨s1, h1, h2⟩ := bnd_eq h
    obtain ⟨N, e1, h3, h4⟩ := cvR_ok hcall l h1 ha
    have g : ∀ ks : List Nat, ks.map (St.get ⟨e1, s1.mem⟩) = ks.map s1.tr.get := fun ks => List.map_congr_left fun t _ => h4 t
    unfold lkC at h2
    cases hk : ((js.map s1.tr.get).all (lkJ s.mem.length (is.map s1.tr.get))) with
    | false => rw [hk] at h2; cases h2
    | true =>
      rw [hk] at h2
      cases h2
      refine ⟨N, e1, ?_, h4⟩
      simp only [evC]
      rw [h3, bnd_some]
      unfold lkE lkOk
      rw [g, g, hk]; rfl
  | seq x1 x2 ih1 ih2 =>
    intro s s' y env h ha
    simp only [cvC] at h
    obtain ⟨⟨y1, s1⟩, h1, h2⟩ := bnd_eq h
    obtain ⟨N1, e1, h3, h4⟩ := ih1 h1 ha
    rcases nxt_some h2 with ⟨h5, h6⟩ | ⟨h5, h6⟩
    · simp only at h5 h6
      subst h5
      obtain ⟨N2, e2, h7, h8⟩ := ih2 h6 h4
      refine ⟨max N1 N2, e2, ?_, h8⟩
      simp only [evC]
      rw [evC_up (Nat.le_max_left N1 N2) h3]
      exact evC_up (Nat.le_max_right N1 N2) h7
    · simp only at h5
      cases h6
      refine ⟨N1, e1, ?_, h4⟩
      simp only [evC]
      rw [h3, bnd_some, nxt_other h5]
  | cond c x1 x2 ih1 ih2 =>
    intro s s' y env h ha
    simp only [cvC] at h
    cases hb : isBool (getC s.tr c) with
    | none => rw [hb] at h; cases h
    | some t =>
      rw [hb] at h
      cases t with
      | true =>
        obtain ⟨N, e1, h3, h4⟩ := ih1 (show cvC call fuel x1 s = some (y, s') from h) ha
        exact ⟨N, e1, by simp only [evC]; rw [getC_eq ha, hb, h3]; rfl, h4⟩
      | false =>
        obtain ⟨N, e1, h3, h4⟩ := ih2 (show cvC call fuel x2 s = some (y, s') from h) ha
        exact ⟨N, e1, by simp only [evC]; rw [getC_eq ha, hb, h3]; rfl, h4⟩
  | block id x ih =>
    intro s s' y env h ha
    simp only [cvC] at h
    obtain ⟨⟨y1, s1⟩, h1, h2⟩ := bnd_eq h
    obtain ⟨N, e1, h3, h4⟩ := ih h1 ha
    have h2 := Option.some.inj h2
    refine ⟨N, e1, ?_, ?_⟩
    · simp only [evC]
      rw [h3, bnd_some]
      cases y1 with
      | normal => cases h2; rfl
      | ret => cases h2; rfl
      | exit i =>
        simp only [outBC] at h2
        simp only [outB]
        by_cases e : i = id
        · rw [if_pos e] at h2 ⊢; cases h2; rfl
        · rw [if_neg e] at h2 ⊢; cases h2; rfl
    · have : s' = s1 := by
        cases y1 with
        | normal => cases h2; rfl
        | ret => cases h2; rfl
        | exit i =>
          simp only [outBC] at h2
          split at h2 <;> (cases h2; rfl)
      rw [this]; exact h4
  | loop hd x ih =>
    intro s s' y env h ha
    simp only [cvC] at h
    cases hd with
    | cons v vs => cases h
    | nil =>
      obtain ⟨N, e1, hn, h3, h4⟩ := iter_ok (b := b) hcall (fun h ha => ih h ha) fuel h ha
      refine ⟨N, e1, ?_, h4⟩
      simp only [evC]
      show bnd (some _) _ = _
      rw [bnd_some]
      exact iterL_mono (fun s v hv => hv) hn h3
theorem resC_ok {env : List (Nat × AV)} {s : CS} (ha : Agree env s.tr) : ∀ {rs : List RV} {vs : List AV}, resC s rs = some vs → resE ⟨env, s.mem⟩ rs = some vs := by
  intro rs
  induction rs with
  | nil => intro vs h; exact h
  | cons r rs ih =>
    intro vs h
    cases r with
    | tmp t =>
      simp only [resC] at h
      obtain ⟨us, h1, h2⟩ := bnd_eq h
      simp only [resE]
      rw [ih h1, bnd_some, show St.get ⟨env, s.mem⟩ t = s.tr.get t from ha t]; exact h2
    | cell a k =>
      simp only [resC] at h
      obtain ⟨v, h1, h2⟩ := bnd_eq h
      obtain ⟨v, om⟩ := v
      simp only [resE]
      rw [show St.get ⟨env, s.mem⟩ a = s.tr.get a from ha a, opEC_ok h1, bnd_some]
      cases om with
      | some m => cases h2
      | none =>
        obtain ⟨us, h3, h4⟩ := bnd_eq h2
        simp only [ih h3, bnd_some]; exact h4
theorem finC_ok {env : List (Nat × AV)} {s : CS} (ha : Agree env s.tr) {b : Nat} {rs : List RV} {y : AX} {r : AV × Mem} (h : finC b rs (y, s) = some r) : finE b rs (y, ⟨env, s.mem⟩) = some r := by
  cases y with
  | exit i => cases h
  | normal =>
    simp only [finC] at h
    obtain ⟨us, h1, h2⟩ := bnd_eq h
    simp only [finE]
    rw [resC_ok ha h1]; exact h2
  | ret =>
    simp only [finC] at h
    obtain ⟨us, h1, h2⟩ := bnd_eq h
    simp only [finE]
    rw [resC_ok ha h1]; exact h2
theorem trA_ok : ∀ (vs : List AV) (n : Nat) (tr : Tr) (env : List (Nat × AV)), n + vs.length < 4094 → (∀ t, lookA env t = tr.get t) → (∀ t, n ≤ t → lookA env t = .undef) → ∀ t, lookA (enumA n vs) t = (if t < n then .undef else (trA n vs tr).get t) ∧ (t < n → (trA n vs tr).get t = tr.get t) := by
  intro vs
  induction vs with
  | nil =>
    intro n tr env hn h1 h2 t
    refine ⟨?_, fun _ => rfl⟩
    show AV.undef = _
    split
    · rfl
    · rename_i hc
      show AV.undef = tr.get t
      rw [← h1, h2 t (by omega)]
  | cons v vs ih =>
    intro n tr env hn h1 h2 t
    rw [List.length_cons] at hn
    have hs := Tr.get_set 12 tr n v
    have h1' : ∀ t, lookA ((n, v) :: env) t = (Tr.set 12 tr n v).get t := fun t => agree_set h1 (show n < 4094 by omega) t
    have h2' : ∀ t, n + 1 ≤ t → lookA ((n, v) :: env) t = .undef := fun t ht => by
      show (if n = t then v else lookA env t) = _
      rw [if_neg (by omega)]; exact h2 t (by omega)
    obtain ⟨k1, k2⟩ := ih (n + 1) (Tr.set 12 tr n v) ((n, v) :: env) (by omega) h1' h2' t
    refine ⟨?_, fun ht => ?_⟩
    · show (if n = t then v else lookA (enumA (n + 1) vs) t) = _
      by_cases e : n = t
      · subst e
        rw [if_pos rfl, if_neg (by omega)]
        show v = (trA (n + 1) vs (Tr.set 12 tr n v)).get n
        rw [k2 (by omega), hs n (by omega), if_pos rfl]
      · rw [if_neg e, k1]
        by_cases e2 : t < n
        · rw [if_pos e2, if_pos (by omega)]
        · rw [if_neg e2, if_neg (by omega)]; rfl
    · show (trA (n + 1) vs (Tr.set 12 tr n v)).get t = _
      rw [k2 (by omega), hs t (by omega), if_neg (by omega)]
theorem trA_agree {args : List AV} (h : args.length < 4000) : Agree (enumA 0 args) (trA 0 args .lf) := fun t => by
  have := (trA_ok args 0 .lf [] (by omega) (fun t => rfl) (fun t _ => rfl) t).1
  rw [this, if_neg (by omega)]
theorem runC_ok {call : CallF} (hcall : Comes T call) {n : Nat} {F : EF} {args : List AV} {mem : Mem} {r : AV × Mem} (h : runC call n F args mem = some r) : ∃ N, runB (runF T N) N F args mem = some r := by
  unfold runC at h
  cases hc : (Nat.ble args.length F.ntmps && Nat.blt args.length 4000) with
  | false => rw [hc] at h; cases h
  | true =>
    rw [hc, cond_true] at h
    simp only [Bool.and_eq_true, Nat.ble_eq, Nat.blt_eq] at hc
    obtain ⟨⟨y, s⟩, h1, h2⟩ := bnd_eq h
    obtain ⟨N, env, h3, h4⟩ := cvC_ok (b := mem.length) hcall F.body h1 (trA_agree hc.2)
    refine ⟨N, ?_⟩
    unfold runB
    rw [if_pos hc.1]
    show bnd (evC (runF T N) mem.length N F.body ⟨enumA 0 args, mem⟩) _ = _
    rw [h3, bnd_some]
    exact finC_ok h4 h2
def TblOk (T : FuncId → Option EF) : List (Nat × CF) → Prop
  | [] => True
  | (k, .own F) :: r => (T k = some F ∧ F.orc = none) ∧ TblOk T r
  | (k, .orc g) :: r => (∀ args mem v, g args mem = some v → E T k args mem = some v) ∧ TblOk T r
theorem look_ok : ∀ {tbl : List (Nat × CF)} {f : Nat} {c : CF}, TblOk T tbl → lookF tbl f = some c → TblOk T [(f, c)] := by
  intro tbl
  induction tbl with
  | nil => intro f c _ h; cases h
  | cons p tbl ih =>
    intro f c ht h
    obtain ⟨k, d⟩ := p
    simp only [lookF] at h
    have ht2 : TblOk T [(k, d)] ∧ TblOk T tbl := by
      cases d with
      | own F => exact ⟨⟨ht.1, trivial⟩, ht.2⟩
      | orc g => exact ⟨⟨ht.1, trivial⟩, ht.2⟩
    cases hk : Nat.beq k f with
    | true =>
      rw [hk] at h
      cases h
      have := Nat.eq_of_beq_eq_true hk
      subst this
      exact ht2.1
    | false =>
      rw [hk] at h
      exact ih ht2.2 h
theorem crun_comes {tbl : List (Nat × CF)} (ht : TblOk T tbl) (fuel : Nat) : ∀ n, Comes T (crun tbl fuel n) := by
  intro n
  induction n with
  | zero => intro f a m v h; cases h
  | succ n ih =>
    intro f a m v h
    simp only [crun] at h
    split at h
    · rename_i F hl
      obtain ⟨⟨h1, h2⟩, _⟩ := look_ok ht hl
      obtain ⟨u, mm, h3, h4⟩ : ∃ u mm, runC (crun tbl fuel n) fuel F a m = some (u, mm) ∧ v = (wid F.ful u, mm) := by
        cases hr : runC (crun tbl fuel n) fuel F a m with
        | none => rw [hr] at h; cases h
        | some p => obtain ⟨u, mm⟩ := p; rw [hr] at h; cases h; exact ⟨u, mm, rfl, rfl⟩
      obtain ⟨N, hN⟩ := runC_ok ih h3
      refine ⟨N + 1, ?_⟩
      simp only [runF, h1, h2, orcE, hN, finW, h4]
    · rename_i g hl
      obtain ⟨h1, _⟩ := look_ok ht hl
      exact lim_some (h1 a m v h)
    · cases h
theorem crun_ok {tbl : List (Nat × CF)} (ht : TblOk T tbl) {fuel n : Nat} {f : FuncId} {args : List AV} {mem : Mem} {r : AV × Mem} (h : crun tbl fuel n f args mem = some r) : E T f args mem = some r := by
  obtain ⟨N, hN⟩ := crun_comes ht fuel n f args mem r h
  exact lim_eq (E_mono T f args mem) hN
end
end Go.Abs
