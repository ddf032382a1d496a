/- Part 5 of the texts of a claim, joined by a program of ours (Ty, A5, So, Cf, Fd, Fq, Ft, Fr). No condition. -/
import Derived.Test.YtaaajjinpppgeaaGreatP5d
import Derived.Test.YtaaajjinpppgeaaGreatProg
import Derived.KernelRfl
import Derived.Shelf.Sort.Plain
import Derived.Shelf.Slices.In.SortNone
set_option linter.unusedVariables false
set_option linter.unusedSimpArgs false
set_option linter.unusedSectionVars false
namespace Go.Proofs.YtaaajjinpppgeaaGreat
open Go Go.Abs
def tt : Types := [
  (1, ⟨.func, 1, 8, .undef⟩),
  (2, ⟨(.int .i64), 1, 8, (.int .i64 0)⟩),
  (3, ⟨(.int .i64), 1, 8, (.int .i64 0)⟩),
  (4, ⟨.bool, 1, 1, (.bool false)⟩),
  (5, ⟨(.int .u8), 1, 1, (.int .u8 0)⟩),
  (6, ⟨(.int .u8), 1, 1, (.int .u8 0)⟩),
  (7, ⟨(.struct [(0, 2), (1, 3), (2, 4), (3, 6)]), 4, 24, (.agg [(.int .i64 0), (.int .i64 0), (.bool false), (.int .u8 0)])⟩),
  (8, ⟨(.struct [(0, 2), (1, 3), (2, 4), (3, 6)]), 4, 24, (.agg [(.int .i64 0), (.int .i64 0), (.bool false), (.int .u8 0)])⟩),
  (9, ⟨.str, 1, 16, (.str ⟨#[]⟩)⟩),
  (10, ⟨.str, 1, 16, (.str ⟨#[]⟩)⟩),
  (11, ⟨.str, 1, 16, (.str ⟨#[]⟩)⟩),
  (12, ⟨(.int .u64), 1, 8, (.int .u64 0)⟩),
  (13, ⟨(.struct [(0, 9), (1, 12)]), 2, 24, (.agg [(.str ⟨#[]⟩), (.int .u64 0)])⟩),
  (14, ⟨(.struct [(0, 9), (1, 12)]), 2, 24, (.agg [(.str ⟨#[]⟩), (.int .u64 0)])⟩),
  (15, ⟨.ptr, 1, 8, .undef⟩),
  (16, ⟨.ptr, 1, 8, .undef⟩),
  (17, ⟨.ptr, 1, 8, .undef⟩),
  (18, ⟨(.struct [(0, 17)]), 1, 8, (.agg [.undef])⟩),
  (19, ⟨(.struct [(0, 17)]), 1, 8, (.agg [.undef])⟩),
  (21, ⟨(.int .i32), 1, 4, (.int .i32 0)⟩),
  (22, ⟨(.slice 9), 1, 24, .nil⟩),
  (23, ⟨(.struct [(0, 22)]), 1, 24, (.agg [.nil])⟩),
  (24, ⟨(.struct [(0, 22)]), 1, 24, (.agg [.nil])⟩),
  (25, ⟨.func, 1, 8, .undef⟩),
  (26, ⟨(.slice 4), 1, 24, .nil⟩),
  (27, ⟨(.struct [(0, 26), (1, 26)]), 2, 48, (.agg [.nil, .nil])⟩),
  (28, ⟨(.struct [(0, 26), (1, 26)]), 2, 48, (.agg [.nil, .nil])⟩),
  (29, ⟨(.slice 63), 1, 24, .nil⟩),
  (30, ⟨(.slice 70), 1, 24, .nil⟩),
  (31, ⟨(.struct [(0, 28), (2, 29), (3, 30)]), 4, 96, (.agg [.nil, .nil, .nil, .nil])⟩),
  (32, ⟨(.struct [(0, 28), (2, 29), (3, 30)]), 4, 96, (.agg [.nil, .nil, .nil, .nil])⟩),
  (33, ⟨(.slice 67), 1, 24, .nil⟩),
  (34, ⟨(.struct [(0, 32), (4, 26), (5, 33), (6, 3)]), 7, 152, (.agg [.nil, .nil, .nil, .nil, .nil, .nil, (.int .i64 0)])⟩),
  (35, ⟨(.struct [(0, 32), (4, 26), (5, 33), (6, 3)]), 7, 152, (.agg [.nil, .nil, .nil, .nil, .nil, .nil, (.int .i64 0)])⟩),
  (36, ⟨(.struct [(0, 22)]), 1, 24, (.agg [.nil])⟩),
  (37, ⟨(.struct [(0, 35), (7, 36)]), 8, 176, (.agg [.nil, .nil, .nil, .nil, .nil, .nil, (.int .i64 0), .nil])⟩),
  (38, ⟨(.struct [(0, 35), (7, 36)]), 8, 176, (.agg [.nil, .nil, .nil, .nil, .nil, .nil, (.int .i64 0), .nil])⟩),
  (40, ⟨.func, 1, 8, .undef⟩),
  (41, ⟨.func, 1, 8, .undef⟩),
  (42, ⟨.func, 1, 8, .undef⟩),
  (43, ⟨.func, 1, 8, .undef⟩),
  (44, ⟨.func, 1, 8, .undef⟩),
  (45, ⟨.func, 1, 8, .undef⟩),
  (46, ⟨.func, 1, 8, .undef⟩),
  (47, ⟨(.struct [(0, 26), (1, 26)]), 2, 48, (.agg [.nil, .nil])⟩),
  (48, ⟨(.slice 170), 1, 24, .nil⟩),
  (49, ⟨(.slice 174), 1, 24, .nil⟩),
  (50, ⟨(.struct [(0, 47), (2, 48), (3, 49)]), 4, 96, (.agg [.nil, .nil, .nil, .nil])⟩),
  (51, ⟨(.struct [(0, 47), (2, 48), (3, 49)]), 4, 96, (.agg [.nil, .nil, .nil, .nil])⟩),
  (52, ⟨.func, 1, 8, .undef⟩),
  (53, ⟨.func, 1, 8, .undef⟩),
  (54, ⟨.func, 1, 8, .undef⟩),
  (55, ⟨.func, 1, 8, .undef⟩),
  (56, ⟨.func, 1, 8, .undef⟩),
  (57, ⟨.func, 1, 8, .undef⟩),
  (58, ⟨(.slice 5), 1, 24, .nil⟩),
  (59, ⟨.func, 1, 8, .undef⟩),
  (60, ⟨.func, 1, 8, .undef⟩),
  (61, ⟨(.slice 3), 1, 24, .nil⟩),
  (62, ⟨(.struct [(0, 3), (1, 3), (2, 61)]), 3, 40, (.agg [(.int .i64 0), (.int .i64 0), .nil])⟩),
  (63, ⟨(.struct [(0, 3), (1, 3), (2, 61)]), 3, 40, (.agg [(.int .i64 0), (.int .i64 0), .nil])⟩),
  (64, ⟨.func, 1, 8, .undef⟩),
  (65, ⟨.func, 1, 8, .undef⟩),
  (66, ⟨(.struct [(0, 3), (1, 3), (2, 3), (3, 3), (4, 3), (5, 3), (6, 9), (7, 4), (8, 4), (9, 3), (10, 61)]), 11, 104, (.agg [(.int .i64 0), (.int .i64 0), (.int .i64 0), (.int .i64 0), (.int .i64 0), (.int .i64 0), (.str ⟨#[]⟩), (.bool false), (.bool false), (.int .i64 0), .nil])⟩),
  (67, ⟨(.struct [(0, 3), (1, 3), (2, 3), (3, 3), (4, 3), (5, 3), (6, 9), (7, 4), (8, 4), (9, 3), (10, 61)]), 11, 104, (.agg [(.int .i64 0), (.int .i64 0), (.int .i64 0), (.int .i64 0), (.int .i64 0), (.int .i64 0), (.str ⟨#[]⟩), (.bool false), (.bool false), (.int .i64 0), .nil])⟩),
  (68, ⟨(.slice 75), 1, 24, .nil⟩),
  (69, ⟨(.struct [(0, 4), (1, 68), (2, 9)]), 3, 48, (.agg [(.bool false), .nil, (.str ⟨#[]⟩)])⟩),
  (70, ⟨(.struct [(0, 4), (1, 68), (2, 9)]), 3, 48, (.agg [(.bool false), .nil, (.str ⟨#[]⟩)])⟩),
  (71, ⟨.func, 1, 8, .undef⟩),
  (72, ⟨.func, 1, 8, .undef⟩),
  (73, ⟨.func, 1, 8, .undef⟩),
  (74, ⟨(.struct [(0, 9), (1, 3)]), 2, 24, (.agg [(.str ⟨#[]⟩), (.int .i64 0)])⟩),
  (75, ⟨(.struct [(0, 9), (1, 3)]), 2, 24, (.agg [(.str ⟨#[]⟩), (.int .i64 0)])⟩),
  (77, ⟨.func, 1, 8, .undef⟩),
  (79, ⟨.func, 1, 8, .undef⟩),
  (80, ⟨.func, 1, 8, .undef⟩),
  (82, ⟨.func, 1, 8, .undef⟩),
  (83, ⟨.func, 1, 8, .undef⟩),
  (84, ⟨.func, 1, 8, .undef⟩),
  (85, ⟨.func, 1, 8, .undef⟩),
  (86, ⟨.func, 1, 8, .undef⟩),
  (87, ⟨.func, 1, 8, .undef⟩),
  (88, ⟨.func, 1, 8, .undef⟩),
  (89, ⟨.func, 1, 8, .undef⟩),
  (90, ⟨.func, 1, 8, .undef⟩),
  (91, ⟨.func, 1, 8, .undef⟩),
  (92, ⟨.func, 1, 8, .undef⟩),
  (93, ⟨.func, 1, 8, .undef⟩),
  (94, ⟨.func, 1, 8, .undef⟩),
  (95, ⟨.func, 1, 8, .undef⟩),
  (97, ⟨.func, 1, 8, .undef⟩),
  (98, ⟨.func, 1, 8, .undef⟩),
  (99, ⟨.func, 1, 8, .undef⟩),
  (100, ⟨.func, 1, 8, .undef⟩),
  (101, ⟨.func, 1, 8, .undef⟩),
  (102, ⟨.func, 1, 8, .undef⟩),
  (103, ⟨.func, 1, 8, .undef⟩),
  (104, ⟨.func, 1, 8, .undef⟩),
  (105, ⟨.func, 1, 8, .undef⟩),
  (106, ⟨.func, 1, 8, .undef⟩),
  (107, ⟨.func, 1, 8, .undef⟩),
  (108, ⟨.func, 1, 8, .undef⟩),
  (109, ⟨.func, 1, 8, .undef⟩),
  (110, ⟨.func, 1, 8, .undef⟩),
  (111, ⟨.func, 1, 8, .undef⟩),
  (112, ⟨.func, 1, 8, .undef⟩),
  (113, ⟨.func, 1, 8, .undef⟩),
  (114, ⟨.func, 1, 8, .undef⟩),
  (115, ⟨.func, 1, 8, .undef⟩),
  (116, ⟨.func, 1, 8, .undef⟩),
  (117, ⟨.func, 1, 8, .undef⟩),
  (118, ⟨.func, 1, 8, .undef⟩),
  (119, ⟨.func, 1, 8, .undef⟩),
  (120, ⟨.ptr, 1, 8, .undef⟩),
  (121, ⟨.func, 1, 8, .undef⟩),
  (122, ⟨.func, 1, 8, .undef⟩),
  (123, ⟨.func, 1, 8, .undef⟩),
  (124, ⟨.func, 1, 8, .undef⟩),
  (125, ⟨.func, 1, 8, .undef⟩),
  (126, ⟨.func, 1, 8, .undef⟩),
  (127, ⟨.func, 1, 8, .undef⟩),
  (128, ⟨.func, 1, 8, .undef⟩),
  (129, ⟨.func, 1, 8, .undef⟩),
  (130, ⟨.func, 1, 8, .undef⟩),
  (131, ⟨.func, 1, 8, .undef⟩),
  (132, ⟨.func, 1, 8, .undef⟩),
  (133, ⟨.func, 1, 8, .undef⟩),
  (134, ⟨.func, 1, 8, .undef⟩),
  (135, ⟨.func, 1, 8, .undef⟩),
  (136, ⟨.func, 1, 8, .undef⟩),
  (138, ⟨.func, 1, 8, .undef⟩),
  (139, ⟨.func, 1, 8, .undef⟩),
  (140, ⟨.func, 1, 8, .undef⟩),
  (141, ⟨.ptr, 1, 8, .undef⟩),
  (142, ⟨.func, 1, 8, .undef⟩),
  (143, ⟨.func, 1, 8, .undef⟩),
  (144, ⟨.func, 1, 8, .undef⟩),
  (146, ⟨.func, 1, 8, .undef⟩),
  (147, ⟨.func, 1, 8, .undef⟩),
  (148, ⟨.func, 1, 8, .undef⟩),
  (150, ⟨.func, 1, 8, .undef⟩),
  (151, ⟨.func, 1, 8, .undef⟩),
  (152, ⟨.func, 1, 8, .undef⟩),
  (153, ⟨.func, 1, 8, .undef⟩),
  (154, ⟨.func, 1, 8, .undef⟩),
  (156, ⟨.func, 1, 8, .undef⟩),
  (157, ⟨.func, 1, 8, .undef⟩),
  (159, ⟨.func, 1, 8, .undef⟩),
  (161, ⟨.func, 1, 8, .undef⟩),
  (162, ⟨.func, 1, 8, .undef⟩),
  (163, ⟨.func, 1, 8, .undef⟩),
  (164, ⟨.func, 1, 8, .undef⟩),
  (165, ⟨.func, 1, 8, .undef⟩),
  (166, ⟨.func, 1, 8, .undef⟩),
  (167, ⟨.func, 1, 8, .undef⟩),
  (168, ⟨.func, 1, 8, .undef⟩),
  (169, ⟨.func, 1, 8, .undef⟩),
  (170, ⟨(.struct [(0, 3), (1, 3), (2, 61)]), 3, 40, (.agg [(.int .i64 0), (.int .i64 0), .nil])⟩),
  (171, ⟨.func, 1, 8, .undef⟩),
  (172, ⟨(.slice 251), 1, 24, .nil⟩),
  (173, ⟨(.struct [(0, 4), (1, 172), (2, 9)]), 3, 48, (.agg [(.bool false), .nil, (.str ⟨#[]⟩)])⟩),
  (174, ⟨(.struct [(0, 4), (1, 172), (2, 9)]), 3, 48, (.agg [(.bool false), .nil, (.str ⟨#[]⟩)])⟩),
  (175, ⟨.func, 1, 8, .undef⟩),
  (176, ⟨.func, 1, 8, .undef⟩),
  (177, ⟨.func, 1, 8, .undef⟩),
  (178, ⟨.func, 1, 8, .undef⟩),
  (179, ⟨.func, 1, 8, .undef⟩),
  (180, ⟨.func, 1, 8, .undef⟩),
  (181, ⟨.func, 1, 8, .undef⟩),
  (182, ⟨.func, 1, 8, .undef⟩),
  (183, ⟨.func, 1, 8, .undef⟩),
  (184, ⟨.func, 1, 8, .undef⟩),
  (185, ⟨.func, 1, 8, .undef⟩),
  (186, ⟨.func, 1, 8, .undef⟩),
  (187, ⟨.func, 1, 8, .undef⟩),
  (188, ⟨.func, 1, 8, .undef⟩),
  (189, ⟨.func, 1, 8, .undef⟩),
  (190, ⟨.func, 1, 8, .undef⟩),
  (191, ⟨.func, 1, 8, .undef⟩),
  (192, ⟨.func, 1, 8, .undef⟩),
  (193, ⟨(.struct [(0, 58), (1, 3), (2, 3)]), 3, 40, (.agg [.nil, (.int .i64 0), (.int .i64 0)])⟩),
  (194, ⟨(.struct [(0, 58), (1, 3), (2, 3)]), 3, 40, (.agg [.nil, (.int .i64 0), (.int .i64 0)])⟩),
  (195, ⟨.func, 1, 8, .undef⟩),
  (196, ⟨.func, 1, 8, .undef⟩),
  (197, ⟨.func, 1, 8, .undef⟩),
  (198, ⟨.func, 1, 8, .undef⟩),
  (199, ⟨.func, 1, 8, .undef⟩),
  (200, ⟨.func, 1, 8, .undef⟩),
  (201, ⟨.func, 1, 8, .undef⟩),
  (202, ⟨.func, 1, 8, .undef⟩),
  (203, ⟨.func, 1, 8, .undef⟩),
  (204, ⟨.func, 1, 8, .undef⟩),
  (205, ⟨.func, 1, 8, .undef⟩),
  (207, ⟨.func, 1, 8, .undef⟩),
  (208, ⟨.func, 1, 8, .undef⟩),
  (209, ⟨.func, 1, 8, .undef⟩),
  (210, ⟨.func, 1, 8, .undef⟩),
  (211, ⟨(.int .u64), 1, 8, (.int .u64 0)⟩),
  (212, ⟨.func, 1, 8, .undef⟩),
  (214, ⟨.func, 1, 8, .undef⟩),
  (215, ⟨.func, 1, 8, .undef⟩),
  (216, ⟨.func, 1, 8, .undef⟩),
  (218, ⟨.func, 1, 8, .undef⟩),
  (219, ⟨.func, 1, 8, .undef⟩),
  (220, ⟨.func, 1, 8, .undef⟩),
  (221, ⟨.func, 1, 8, .undef⟩),
  (222, ⟨.func, 1, 8, .undef⟩),
  (223, ⟨.func, 1, 8, .undef⟩),
  (224, ⟨.func, 1, 8, .undef⟩),
  (225, ⟨.func, 1, 8, .undef⟩),
  (226, ⟨(.slice 272), 1, 24, .nil⟩),
  (227, ⟨(.struct [(0, 38), (8, 226), (9, 61), (10, 226)]), 11, 248, (.agg [.nil, .nil, .nil, .nil, .nil, .nil, (.int .i64 0), .nil, .nil, .nil, .nil])⟩),
  (228, ⟨(.struct [(0, 38), (8, 226), (9, 61), (10, 226)]), 11, 248, (.agg [.nil, .nil, .nil, .nil, .nil, .nil, (.int .i64 0), .nil, .nil, .nil, .nil])⟩),
  (229, ⟨.func, 1, 8, .undef⟩),
  (230, ⟨.ptr, 1, 8, .undef⟩),
  (231, ⟨(.struct [(0, 3), (1, 9), (2, 9), (3, 3), (4, 9)]), 5, 64, (.agg [(.int .i64 0), (.str ⟨#[]⟩), (.str ⟨#[]⟩), (.int .i64 0), (.str ⟨#[]⟩)])⟩),
  (232, ⟨(.struct [(0, 3), (1, 9), (2, 9), (3, 3), (4, 9)]), 5, 64, (.agg [(.int .i64 0), (.str ⟨#[]⟩), (.str ⟨#[]⟩), (.int .i64 0), (.str ⟨#[]⟩)])⟩),
  (233, ⟨.func, 1, 8, .undef⟩),
  (234, ⟨.func, 1, 8, .undef⟩),
  (235, ⟨.func, 1, 8, .undef⟩),
  (236, ⟨.func, 1, 8, .undef⟩),
  (237, ⟨.func, 1, 8, .undef⟩),
  (238, ⟨.func, 1, 8, .undef⟩),
  (239, ⟨.func, 1, 8, .undef⟩),
  (240, ⟨.func, 1, 8, .undef⟩),
  (242, ⟨.func, 1, 8, .undef⟩),
  (243, ⟨(.int .u32), 1, 4, (.int .u32 0)⟩),
  (245, ⟨.func, 1, 8, .undef⟩),
  (246, ⟨(.int .u64), 1, 8, (.int .u64 0)⟩),
  (248, ⟨.func, 1, 8, .undef⟩),
  (249, ⟨.func, 1, 8, .undef⟩),
  (250, ⟨.func, 1, 8, .undef⟩),
  (251, ⟨(.struct [(0, 9), (1, 3)]), 2, 24, (.agg [(.str ⟨#[]⟩), (.int .i64 0)])⟩),
  (252, ⟨.func, 1, 8, .undef⟩),
  (253, ⟨.func, 1, 8, .undef⟩),
  (254, ⟨.func, 1, 8, .undef⟩),
  (255, ⟨.func, 1, 8, .undef⟩),
  (256, ⟨(.int .i64), 1, 8, (.int .i64 0)⟩),
  (258, ⟨.func, 1, 8, .undef⟩),
  (259, ⟨.func, 1, 8, .undef⟩),
  (260, ⟨.func, 1, 8, .undef⟩),
  (261, ⟨.func, 1, 8, .undef⟩),
  (263, ⟨.func, 1, 8, .undef⟩),
  (264, ⟨.func, 1, 8, .undef⟩),
  (265, ⟨.func, 1, 8, .undef⟩),
  (266, ⟨.func, 1, 8, .undef⟩),
  (268, ⟨.func, 1, 8, .undef⟩),
  (269, ⟨.func, 1, 8, .undef⟩),
  (270, ⟨.func, 1, 8, .undef⟩),
  (271, ⟨(.struct [(0, 9), (1, 4), (2, 9), (3, 9)]), 4, 56, (.agg [(.str ⟨#[]⟩), (.bool false), (.str ⟨#[]⟩), (.str ⟨#[]⟩)])⟩),
  (272, ⟨(.struct [(0, 9), (1, 4), (2, 9), (3, 9)]), 4, 56, (.agg [(.str ⟨#[]⟩), (.bool false), (.str ⟨#[]⟩), (.str ⟨#[]⟩)])⟩),
  (273, ⟨.func, 1, 8, .undef⟩),
  (274, ⟨.func, 1, 8, .undef⟩),
  (275, ⟨.func, 1, 8, .undef⟩),
  (276, ⟨.func, 1, 8, .undef⟩),
  (277, ⟨.func, 1, 8, .undef⟩),
  (278, ⟨.func, 1, 8, .undef⟩),
  (279, ⟨.func, 1, 8, .undef⟩),
  (280, ⟨(.int .u64), 1, 8, (.int .u64 0)⟩),
  (281, ⟨.func, 1, 8, .undef⟩),
  (282, ⟨.func, 1, 8, .undef⟩),
  (283, ⟨.func, 1, 8, .undef⟩),
  (284, ⟨.ptr, 1, 8, .undef⟩),
  (285, ⟨.func, 1, 8, .undef⟩),
  (286, ⟨.func, 1, 8, .undef⟩),
  (287, ⟨.func, 1, 8, .undef⟩),
  (288, ⟨.func, 1, 8, .undef⟩),
  (289, ⟨.func, 1, 8, .undef⟩),
  (290, ⟨.func, 1, 8, .undef⟩),
  (291, ⟨.ptr, 1, 8, .undef⟩),
  (293, ⟨.func, 1, 8, .undef⟩),
  (294, ⟨.func, 1, 8, .undef⟩),
  (295, ⟨.func, 1, 8, .undef⟩),
  (296, ⟨.func, 1, 8, .undef⟩),
  (298, ⟨.func, 1, 8, .undef⟩),
  (299, ⟨.func, 1, 8, .undef⟩),
  (300, ⟨.func, 1, 8, .undef⟩),
  (301, ⟨(.struct [(0, 17), (1, 17), (2, 17), (3, 9)]), 4, 40, (.agg [.undef, .undef, .undef, (.str ⟨#[]⟩)])⟩),
  (302, ⟨(.struct [(0, 17), (1, 17), (2, 17), (3, 9)]), 4, 40, (.agg [.undef, .undef, .undef, (.str ⟨#[]⟩)])⟩),
  (304, ⟨(.struct [(0, 303)]), 0, 0, (.agg [])⟩),
  (305, ⟨(.struct [(0, 303)]), 0, 0, (.agg [])⟩),
  (306, ⟨.func, 1, 8, .undef⟩),
  (307, ⟨(.int .u8), 1, 1, (.int .u8 0)⟩),
  (308, ⟨(.int .u8), 1, 1, (.int .u8 0)⟩),
  (309, ⟨.func, 1, 8, .undef⟩),
  (310, ⟨.ptr, 1, 8, .undef⟩),
  (311, ⟨(.int .i32), 1, 4, (.int .i32 0)⟩),
  (312, ⟨(.int .i32), 1, 4, (.int .i32 0)⟩),
  (313, ⟨(.struct [(0, 12), (1, 12), (2, 243), (3, 307), (4, 5), (5, 5), (6, 308), (7, 309), (8, 310), (9, 311), (10, 312)]), 11, 48, (.agg [(.int .u64 0), (.int .u64 0), (.int .u32 0), (.int .u8 0), (.int .u8 0), (.int .u8 0), (.int .u8 0), .undef, .undef, (.int .i32 0), (.int .i32 0)])⟩),
  (314, ⟨(.struct [(0, 12), (1, 12), (2, 243), (3, 307), (4, 5), (5, 5), (6, 308), (7, 309), (8, 310), (9, 311), (10, 312)]), 11, 48, (.agg [(.int .u64 0), (.int .u64 0), (.int .u32 0), (.int .u8 0), (.int .u8 0), (.int .u8 0), (.int .u8 0), .undef, .undef, (.int .i32 0), (.int .i32 0)])⟩),
  (315, ⟨.func, 1, 8, .undef⟩)]
theorem tt_rows : tt.map (fun r => tyOf Tryz.prog r.1) = tt.map (fun r => some r.2) := by kernel_rfl
theorem mixed : Tryz.prog.follows .mixedOrders = true := by kernel_rfl
end Go.Proofs.YtaaajjinpppgeaaGreat
namespace Go.Abs
open Go Go.RowKit Go.Sort
def intsOf : List AV → Option (List Int)
  | [] => some []
  | .int .i64 z :: r => (intsOf r).map (z :: ·)
  | _ => none
theorem intsOf_eq : ∀ {xs : List AV} {zs : List Int}, intsOf xs = some zs → xs = zs.map (AV.int .i64) := by
  intro xs
  induction xs with
  | nil => intro zs h; simp only [intsOf] at h; cases h; rfl
  | cons x xs ih =>
    intro zs h
    cases x with
    | int k z =>
      cases k with
      | i64 =>
        simp only [intsOf, Option.map_eq_some_iff] at h
        obtain ⟨ys, h1, rfl⟩ := h
        rw [ih h1]; rfl
      | _ => simp [intsOf] at h
    | _ => simp [intsOf] at h
theorem intsOf_map (zs : List Int) : intsOf (zs.map (AV.int .i64)) = some zs := by
  induction zs with
  | nil => rfl
  | cons z zs ih => rw [List.map_cons]; unfold intsOf; rw [ih]; rfl
def sortI (zs : List Int) : List Int := zs.mergeSort fun x y => decide (x ≤ y)
def sortO (args : List AV) (mem : Mem) : Option (AV × Mem) := match args, mem with
  | [.sl 0 0 n], [some (1, xs)] => match intsOf xs with
    | some zs => if n = zs.length ∧ zs.length < 4611686018427387904 then some (.tup [], [some (1, (sortI zs).map (AV.int .i64))]) else none
    | none => none
  | _, _ => none
theorem sortI_len (zs : List Int) : (sortI zs).length = zs.length := List.length_mergeSort zs
theorem rel_ints {w : World} {m : IdMap} {d X : Nat → Prop} : ∀ {zs : List Int} {us : List Value} {F : List Nat}, RelL w m d X (zs.map (AV.int .i64)) us F → us = zs.map (Value.int .i64) ∧ F = [] := by
  intro zs
  induction zs with
  | nil => intro us F h; cases h; exact ⟨rfl, rfl⟩
  | cons z zs ih =>
    intro us F h
    cases h with
    | cons h t =>
      cases h
      obtain ⟨h1, h2⟩ := ih t
      subst h1; subst h2
      exact ⟨rfl, rfl⟩
theorem ints_rel {w : World} {m : IdMap} {d X : Nat → Prop} (zs : List Int) : RelL w m d X (zs.map (AV.int .i64)) (zs.map (Value.int .i64)) [] := by
  induction zs with
  | nil => exact .nil
  | cons z zs ih => exact .cons (F := []) (.int .i64 z) ih
theorem flat_ints (zs : List Int) : flat (zs.map (AV.int .i64)) = zs.map (AV.int .i64) := by
  induction zs with
  | nil => rfl
  | cons z zs ih => show AV.cells (.int .i64 z) ++ flat (zs.map _) = _; rw [ih]; rfl
theorem even_ints (zs : List Int) : Even 1 (zs.map (AV.int .i64)) := by
  intro x hx
  obtain ⟨z, _, rfl⟩ := List.mem_map.1 hx
  rfl
theorem putCells_at (off : Nat) (ts : List Int) (c : Array Value) (h : off + ts.length ≤ c.size) : ∀ (j : Nat) (v : Value), (ts.map (Value.int .i64))[j]? = some v → (putCells (Value.int .i64) off ts.toArray c)[off + j]? = some v := by
  intro j v hv
  have hj : j < ts.length := by
    have := (List.getElem?_eq_some_iff.1 hv).1
    simpa using this
  have e : v = Value.int .i64 ts[j] := by
    rw [List.getElem?_map, List.getElem?_eq_getElem hj] at hv
    simpa using hv.symm
  subst e
  unfold putCells
  rw [Array.getElem?_mapIdx, Array.getElem?_eq_getElem (by omega)]
  simp only [Option.map_some]
  rw [if_pos ⟨by omega, by simp; omega⟩]
  congr 1
  have : off + j - off = j := by omega
  simp [this, hj]
theorem sort_wr {P : Program} {f : FuncId} {fn : Func} {c : Code} (hf : P.funcs[f]? = some fn) (hname : (fn.name == "runtime.NumGoroutine") = false) (hb : fn.body = some c)
    (hs : ∀ (blk off cap : Nat) (zs : List Int) (w : World), Holds (Value.int .i64) w blk off zs.toArray → blk < w.heap.size → zs.length < 4611686018427387904 →
      Calls P f #[.slice (some ⟨blk, off, none⟩) zs.length cap] w fun e w' => e = .returned (.tuple #[]) ∧ ∃ n os, w' = grow (putRow (Value.int .i64) (Sort.ahead w n) blk off (zs.mergeSort fun x y => decide (x ≤ y)).toArray) os)
    (hn : ∀ (p : Option Addr) (cap : Nat) (w : World), Calls P f #[.slice p 0 cap] w fun e w' => e = .returned (.tuple #[]) ∧ w' = w) :
    OrcOk P f sortO where
  fn := ⟨fn, c, hf, hname, hb⟩
  pure := by
    intro args res h
    unfold sortO at h
    split at h
    · rename_i e; cases e
    · cases h
  qt := by
    intro args mem res h
    unfold sortO at h
    split at h
    · rename_i e; cases e
    · cases h
  wr := by
    intro args mem res mem' h _ _
    unfold sortO at h
    split at h
    case h_2 => cases h
    rename_i n xs
    split at h
    case h_2 => cases h
    rename_i zs hz
    split at h
    case isFalse => cases h
    rename_i hlen
    cases h
    have hx := intsOf_eq hz
    subst hx
    obtain ⟨rfl, hlen⟩ := hlen
    intro Y w0 F0 d m Fs w vs hfr hr ha
    obtain ⟨v, rfl⟩ : ∃ v, vs = [v] := by
      have := ha.length
      match vs, this with
      | [v], _ => exact ⟨v, rfl⟩
    have hv := RelL.head ha
    obtain ⟨n0, hg⟩ : ∃ n0, n0 = zs.length := ⟨_, rfl⟩
    rw [← hg] at hv
    refine .of_calls hf hname hb ?_
    have hl0 : liveOf [some (1, zs.map (AV.int .i64))] 0 = some (1, zs.map (AV.int .i64)) := rfl
    cases hv with
    | sl hm hcap hc =>
      rename_i b o s cap
      subst hg
      obtain ⟨e1, he, us, hex, hrl⟩ := hr.cells 0 1 _ b o s hl0 hm
      subst e1
      rw [flat_ints] at hrl
      obtain ⟨e2, e3⟩ := rel_ints hrl
      subst e2
      have hbl := hex.lt
      obtain ⟨cc, ty, hh, hcc, hsz⟩ := hex
      have hold : Holds (Value.int .i64) w b (o + 0 * 1) zs.toArray := by
        intro j hj
        have hj' : j < zs.length := by simpa using hj
        have hv : (zs.map (Value.int .i64))[j]? = some (Value.int .i64 zs[j]) := by simp [hj']
        have h2 := hcc j _ hv
        refine ⟨?_, by simp [World.frozen?, hh]⟩
        simp only [World.cell?, hh, Option.isSome_none, Bool.false_eq_true, if_false]
        rw [show o + 0 * 1 + j = o + j by omega, h2]
        simp [hj']
      refine Calls.mono (hs b (o + 0 * 1) cap zs w hold hbl hlen) ?_
      rintro e w' ⟨rfl, n, os, rfl⟩
      have o0 : o + 0 * 1 = o := by omega
      rw [o0]
      rw [List.length_map] at hsz
      have hts : (sortI zs).length = zs.length := sortI_len zs
      have hW1 : (putRow (Value.int .i64) (Sort.ahead w n) b o (sortI zs).toArray).heap = w.heap.modify b (onCells (putCells (Value.int .i64) o (sortI zs).toArray)) := rfl
      have hR : Rewrite b w (putRow (Value.int .i64) (Sort.ahead w n) b o (sortI zs).toArray) :=
        { os := rfl, tape := rfl, output := rfl
          size := by rw [hW1]; simp
          block := fun b' hb' => by rw [hW1, Array.getElem?_modify, if_neg (fun e => hb' e.symm)]
          cells := fun c1 ty1 fr hc1 => by
            rw [hh] at hc1; cases hc1
            exact ⟨_, by rw [hW1, Array.getElem?_modify, if_pos rfl, hh]; rfl, by simp [putCells]⟩ }
      have hx2 : Excl (putRow (Value.int .i64) (Sort.ahead w n) b o (sortI zs).toArray) b o ((sortI zs).map (Value.int .i64)) (o + ((sortI zs).map (Value.int .i64)).length) :=
        ⟨putCells (Value.int .i64) o (sortI zs).toArray cc, ty, by rw [hW1, Array.getElem?_modify, if_pos rfl, hh]; rfl, putCells_at o (sortI zs) cc (by rw [hts]; omega), by rw [List.length_map, hts]; simp [putCells]; omega⟩
      obtain ⟨r1, c1⟩ := hr.rewrite hl0 hm hR (xs' := (sortI zs).map (AV.int .i64)) (vs' := (sortI zs).map (Value.int .i64)) (F' := []) (even_ints _) (fun x hx => by cases hx) List.nodup_nil hx2
        (fun _ => by rw [flat_ints]; exact ints_rel _)
      have hE : Evo (fun _ => False) (putRow (Value.int .i64) (Sort.ahead w n) b o (sortI zs).toArray) (grow (putRow (Value.int .i64) (Sort.ahead w n) b o (sortI zs).toArray) os) :=
        ⟨rfl, rfl, rfl, by simp [grow], fun k hk _ => by simp only [grow]; rw [Array.getElem?_append_left hk], fun k c2 ty2 fr hc2 => ⟨c2, by
          have hk := heap_lt hc2
          simp only [grow]; rw [Array.getElem?_append_left hk]; exact hc2, rfl⟩⟩
      obtain ⟨r2, c2⟩ := r1.aside hE
      refine ⟨d, m, _, r2.relive (fun t ht => ?_) (fun t ht => ?_), fun t ht => hfr t (by simpa using ht), c1.trans c2, .tup .nil⟩
      · by_cases h0 : t = 0
        · subst h0; simp [upd, liveOf]
        · have : liveOf [some (1, zs.map (AV.int .i64))] t ≠ none := hr.dom t ht
          exfalso; apply this
          cases t with
          | zero => exact absurd rfl h0
          | succ t => simp [liveOf]
      · have := r2.ddom t ht
        by_cases h0 : t = 0
        · subst h0; simp [upd] at this
        · cases t with
          | zero => exact absurd rfl h0
          | succ t => simp [liveOf]
    | sl0 A =>
      have : zs = [] := List.eq_nil_of_length_eq_zero hg.symm
      subst this
      refine Calls.mono (hn A 0 w) ?_
      rintro e w' ⟨rfl, rfl⟩
      have e : sortI [] = [] := List.eq_nil_of_length_eq_zero (sortI_len [])
      rw [e]
      exact ⟨d, m, Fs, hr, fun t ht => hfr t ht, .refl, .tup .nil⟩
    | slDead v hd => have := hr.ddom 0 hd; rw [hl0] at this; cases this
end Go.Abs
namespace Go.Proofs
open Go.Shelf
def Tryz.lays189_ren : Go.Shelf.Ren := ⟨fun | 189 => 184 | 125 => 237 | 257 => 236 | 128 => 273 | 129 => 274 | 294 => 264 | 295 => 265 | 296 => 266 | 297 => 267 | 298 => 268 | 299 => 269 | 216 => 270 | 300 => 271 | 301 => 272 | 328 => 286 | 329 => 287 | 330 => 288 | 331 => 289 | 332 => 290 | 215 => 291 | 343 => 297 | n => n, fun | 28 => 61 | 3 => 3 | 46 => 211 | 0 => 0 | 51 => 243 | 53 => 246 | 4 => 4 | 183 => 257 | 182 => 256 | 131 => 262 | 5 => 5 | 9 => 9 | 218 => 280 | 222 => 284 | 228 => 291 | 229 => 292 | n => n, fun | n => n⟩
theorem Tryz.lays189 : Go.Proofs.Lays.n189 Tryz.prog Tryz.lays189_ren := {
  mixed := by kernel_rfl
  f125 := Tryz.func237.trans (congrArg some (by kernel_rfl))
  f128 := Tryz.func273.trans (congrArg some (by kernel_rfl))
  f129 := Tryz.func274.trans (congrArg some (by kernel_rfl))
  f189 := Tryz.func184.trans (congrArg some (by kernel_rfl))
  f215 := Tryz.func291.trans (congrArg some (by kernel_rfl))
  f216 := Tryz.func270.trans (congrArg some (by kernel_rfl))
  f257 := Tryz.func236.trans (congrArg some (by kernel_rfl))
  f294 := Tryz.func264.trans (congrArg some (by kernel_rfl))
  f295 := Tryz.func265.trans (congrArg some (by kernel_rfl))
  f296 := Tryz.func266.trans (congrArg some (by kernel_rfl))
  f297 := Tryz.func267.trans (congrArg some (by kernel_rfl))
  f298 := Tryz.func268.trans (congrArg some (by kernel_rfl))
  f299 := Tryz.func269.trans (congrArg some (by kernel_rfl))
  f300 := Tryz.func271.trans (congrArg some (by kernel_rfl))
  f301 := Tryz.func272.trans (congrArg some (by kernel_rfl))
  f328 := Tryz.func286.trans (congrArg some (by kernel_rfl))
  f329 := Tryz.func287.trans (congrArg some (by kernel_rfl))
  f330 := Tryz.func288.trans (congrArg some (by kernel_rfl))
  f331 := Tryz.func289.trans (congrArg some (by kernel_rfl))
  f332 := Tryz.func290.trans (congrArg some (by kernel_rfl))
  f343 := Tryz.func297.trans (congrArg some (by kernel_rfl))
  t0 := Tryz.underlying0
  a0 := Tryz.isAgg0
  z0 := Tryz.sizeOf0
  v0 := Tryz.zeroValue0
  t3 := Tryz.underlying3
  a3 := Tryz.isAgg3
  z3 := Tryz.sizeOf3
  v3 := Tryz.zeroValue3
  t4 := Tryz.underlying4
  a4 := Tryz.isAgg4
  z4 := Tryz.sizeOf4
  v4 := Tryz.zeroValue4
  t5 := Tryz.underlying5
  a5 := Tryz.isAgg5
  z5 := Tryz.sizeOf5
  v5 := Tryz.zeroValue5
  t9 := Tryz.underlying9
  a9 := Tryz.isAgg9
  z9 := Tryz.sizeOf9
  v9 := Tryz.zeroValue9
  t28 := Tryz.underlying61
  a28 := Tryz.isAgg61
  z28 := Tryz.sizeOf61
  v28 := Tryz.zeroValue61
  t46 := Tryz.underlying211
  a46 := Tryz.isAgg211
  z46 := Tryz.sizeOf211
  v46 := Tryz.zeroValue211
  t51 := Tryz.underlying243
  a51 := Tryz.isAgg243
  z51 := Tryz.sizeOf243
  v51 := Tryz.zeroValue243
  t53 := Tryz.underlying246
  a53 := Tryz.isAgg246
  z53 := Tryz.sizeOf246
  v53 := Tryz.zeroValue246
  t131 := Tryz.underlying262
  a131 := Tryz.isAgg262
  z131 := Tryz.sizeOf262
  v131 := Tryz.zeroValue262
  t182 := Tryz.underlying256
  a182 := Tryz.isAgg256
  z182 := Tryz.sizeOf256
  v182 := Tryz.zeroValue256
  t183 := Tryz.underlying257
  a183 := Tryz.isAgg257
  z183 := Tryz.sizeOf257
  v183 := Tryz.zeroValue257
  t218 := Tryz.underlying280
  a218 := Tryz.isAgg280
  z218 := Tryz.sizeOf280
  v218 := Tryz.zeroValue280
  t222 := Tryz.underlying284
  a222 := Tryz.isAgg284
  z222 := Tryz.sizeOf284
  v222 := Tryz.zeroValue284
  t228 := Tryz.underlying291
  a228 := Tryz.isAgg291
  z228 := Tryz.sizeOf291
  v228 := Tryz.zeroValue291
  t229 := Tryz.underlying292
  a229 := Tryz.isAgg292
  z229 := Tryz.sizeOf292
  v229 := Tryz.zeroValue292 }
end Go.Proofs
namespace Go.Proofs.YtaaajjinpppgeaaGreat
open Go Go.Abs
theorem sortOk : OrcOk Tryz.prog 184 sortO :=
  sort_wr Tryz.func184 rfl rfl (fun blk off cap zs w h1 h2 h3 => Any.slices_Sort_int Tryz.lays189 blk off cap zs w h1 h2 h3) (fun p cap w => Any.slices_Sort_int_none Tryz.lays189 p cap w)
end Go.Proofs.YtaaajjinpppgeaaGreat
namespace Go.Proofs.YtaaajjinpppgeaaGreat
open Go Go.Abs
def pures : List FuncId := (List.range 600).filter fun k => !([16, 17, 24, 67, 68, 93, 94, 95, 122, 133, 163, 164, 184, 189, 190, 206, 236, 264, 265, 266, 267, 268, 269, 271, 272, 286, 288, 289, 297] : List Nat).contains k
def hints : Hints := [(6, [(5, [.tidy [3, 4] [(3, none), (4, none)]]), (12, [.tidy [3, 4, 5, 6, 7] [(3, none), (4, none), (5, none), (6, none), (7, none)]]), (16, [.tidy [3, 4, 5, 6, 7, 8, 9] [(3, none), (4, none), (5, none), (6, none), (7, none), (8, none), (9, none)]]), (25, [.tidy [3, 10] [(3, none), (10, none)]]), (31, [.tidy [3, 10, 11, 12] [(3, none), (10, none), (11, none), (12, none)]])]),
  (7, [(11, [.tidy [3, 4, 5, 6, 10] [(3, none), (4, none), (5, none), (6, none), (10, none)]])]),
  (8, [(9, [.tidy [3, 5, 6, 7, 8] [(3, none), (5, none), (6, none), (7, none), (8, none)]]), (15, [.tidy [3, 5, 6, 7, 9] [(3, none), (5, none), (6, none), (7, none), (9, none)]])]),
  (20, [(6, [.opn 3 none none 1 1, .opn 3 none none 2 3, .tidy [1, 2, 3, 4, 5] [(1, none), (2, none), (3, none), (4, none), (5, none), (3, some 1), (3, some 2)]]), (17, [.opn 3 none none 0 1, .tidy [2, 3, 6, 7] [(2, none), (3, none), (6, none), (7, none), (3, some 0)]]), (21, [.opn 3 none none 0 1, .opn 3 none none 1 1, .opn 3 none none 2 3, .opn 3 none none 3 3])]),
  (22, [(6, [.opn 3 none none 2 3, .tidy [1, 2, 3, 4, 5] [(1, none), (2, none), (3, none), (4, none), (5, none), (3, some 2)]]), (15, [.opn 3 none none 0 1, .opn 3 none none 1 1, .opn 3 none none 2 3, .opn 3 none none 3 3])]),
  (30, [(5, [.opn 5 none none 2 1, .tidy [1, 4, 5, 25, 26, 27] [(1, none), (4, none), (5, none), (25, none), (26, none), (27, none), (5, some 2)]])]),
  (32, [(5, [.opn 5 none none 2 1, .tidy [1, 2, 4, 5, 6] [(1, none), (2, none), (4, none), (5, none), (6, none), (5, some 2)]])]),
  (33, [(3, [.opn 5 none none 1 2, .tidy [1, 4, 5, 14, 15, 16] [(1, none), (4, none), (5, none), (14, none), (15, none), (16, none), (5, some 1)]])]),
  (34, [(4, [.tidy [2, 3, 5] [(2, none), (3, none), (5, none)]])]),
  (35, [(5, [.opn 5 none none 1 2, .tidy [1, 2, 4, 5, 6] [(1, none), (2, none), (4, none), (5, none), (6, none), (5, some 1)]])]),
  (36, [(2, [.tidy [1, 2, 3, 7] [(1, none), (2, none), (3, none), (7, none)]])]),
  (40, [(2, [.tidy [1, 6, 7, 8] [(1, none), (6, none), (7, none), (8, none)]])]),
  (41, [(2, [.tidy [1, 3] [(1, none), (3, none)]])]),
  (43, [(2, [.opn 4 none none 0 1, .opn 4 none none 4 1]), (3, [.opn 4 none none 0 1, .opn 4 none none 1 1, .opn 4 none none 2 3, .opn 4 none none 3 3, .opn 4 none none 4 1, .opn 4 none none 5 11])]),
  (44, [(2, [.opn 4 none none 1 1, .opn 4 none none 4 1]), (3, [.opn 4 none none 0 1, .opn 4 none none 1 1, .opn 4 none none 2 3, .opn 4 none none 3 3, .opn 4 none none 4 1, .opn 4 none none 5 11])]),
  (45, [(2, [.tidy [0, 3] [(0, none), (3, none)]])]),
  (46, [(4, [.tidy [1, 28, 29, 30] [(1, none), (28, none), (29, none), (30, none)]])]),
  (50, [(3, [.tidy [2, 3, 4] [(2, none), (3, none), (4, none)]]), (6, [.tidy [2, 3, 4, 5] [(2, none), (3, none), (4, none), (5, none)]])]),
  (52, [(6, [.tidy [2, 5, 7, 8] [(2, none), (5, none), (7, none), (8, none)]])]),
  (53, [(5, [.tidy [1, 3, 4] [(1, none), (3, none), (4, none)]]), (19, [.opn 7 none none 0 1, .opn 7 none none 1 1])]),
  (54, [(5, [.tidy [3, 4, 5] [(3, none), (4, none), (5, none)]])]),
  (58, [(5, [.tidy [0, 1, 5] [(0, none), (1, none), (5, none)]])]),
  (59, [(8, [.opn 5 none none 0 1, .opn 5 none none 1 1, .tidy [1, 2, 4, 5, 7] [(1, none), (2, none), (4, none), (5, none), (7, none), (5, some 0), (5, some 1)]]), (13, [.opn 5 none none 0 1, .opn 5 none none 1 1, .tidy [1, 2, 4, 5, 8] [(1, none), (2, none), (4, none), (5, none), (8, none), (5, some 0), (5, some 1)]]), (17, [.opn 5 none none 0 1, .opn 5 none none 1 1]), (19, [.opn 4 none none 2 3, .tidy [1, 2, 4, 9] [(1, none), (2, none), (4, none), (9, none), (4, some 2)]]), (26, [.opn 12 none none 2 1]), (27, [.opn 11 none none 2 1]), (30, [.opn 4 none none 3 3, .tidy [1, 2, 4, 14] [(1, none), (2, none), (4, none), (14, none), (4, some 3)]]), (33, [.opn 15 none none 1 2]), (35, [.opn 4 none none 0 1, .opn 4 none none 1 1, .opn 4 none none 2 3, .opn 4 none none 3 3])]),
  (61, [(3, [.tidy [0, 3, 4] [(0, none), (3, none), (4, none)]])]),
  (62, [(7, [.opn 5 none none 0 1, .opn 5 none none 1 1]), (9, [.opn 4 none none 2 3, .tidy [1, 2, 4, 37, 38, 39] [(1, none), (2, none), (4, none), (37, none), (38, none), (39, none), (4, some 2)]]), (17, [.opn 4 none none 3 3, .tidy [2, 4, 62, 63, 64] [(2, none), (4, none), (62, none), (63, none), (64, none), (4, some 3)]]), (21, [.opn 11 none none 1 2]), (23, [.opn 4 none none 0 1, .opn 4 none none 1 1, .opn 4 none none 2 3, .opn 4 none none 3 3])]),
  (66, [(4, [.tidy [0, 1, 5] [(0, none), (1, none), (5, none)]])]),
  (67, [(2, [.tidy [0, 1, 5] [(0, none), (1, none), (5, none)]])]),
  (72, [(5, [.tidy [0, 1, 5] [(0, none), (1, none), (5, none)]])]),
  (73, [(5, [.tidy [0, 1, 5] [(0, none), (1, none), (5, none)]])]),
  (74, [(3, [.opn 3 none none 2 3, .tidy [1, 2, 3, 4] [(1, none), (2, none), (3, none), (4, none), (3, some 2)]]), (8, [.opn 3 none none 3 3, .tidy [1, 2, 3, 5] [(1, none), (2, none), (3, none), (5, none), (3, some 3)]]), (12, [.opn 3 none none 0 1, .opn 3 none none 1 1, .opn 3 none none 2 3, .opn 3 none none 3 3])]),
  (75, [(4, [.tidy [1, 3] [(1, none), (3, none)]]), (10, [.tidy [1, 4] [(1, none), (4, none)]])]),
  (76, [(6, [.tidy [1, 3, 4] [(1, none), (3, none), (4, none)]]), (9, [.tidy [1, 3, 4, 5] [(1, none), (3, none), (4, none), (5, none)]]), (13, [.tidy [1, 3, 4, 5, 6, 7] [(1, none), (3, none), (4, none), (5, none), (6, none), (7, none)]]), (23, [.lay 9 1, .tidy [3, 9, 10] [(3, none), (9, none), (10, none)]])]),
  (77, [(2, [.tidy [0, 1, 5] [(0, none), (1, none), (5, none)]])]),
  (78, [(4, [.tidy [1, 2, 5, 6, 7] [(1, none), (2, none), (5, none), (6, none), (7, none)]]), (8, [.tidy [1, 2, 5, 6, 7, 8, 9] [(1, none), (2, none), (5, none), (6, none), (7, none), (8, none), (9, none)]])]),
  (79, [(4, [.lay 3 1, .tidy [1, 3, 4, 5] [(1, none), (3, none), (4, none), (5, none)]]), (8, [.tidy [1, 3, 4, 5, 6, 7] [(1, none), (3, none), (4, none), (5, none), (6, none), (7, none)]])]),
  (81, [(3, [.tidy [0, 3, 4] [(0, none), (3, none), (4, none)]])]),
  (82, [(3, [.tidy [0, 3, 4] [(0, none), (3, none), (4, none)]])]),
  (83, [(3, [.opn 3 none none 2 3, .tidy [1, 2, 3, 13, 14, 15] [(1, none), (2, none), (3, none), (13, none), (14, none), (15, none), (3, some 2)]]), (9, [.opn 3 none none 3 3, .tidy [2, 3, 28, 29, 30] [(2, none), (3, none), (28, none), (29, none), (30, none), (3, some 3)]]), (14, [.opn 3 none none 0 1, .opn 3 none none 1 1, .opn 3 none none 2 3, .opn 3 none none 3 3])]),
  (84, [(2, [.tidy [1, 8, 9, 10] [(1, none), (8, none), (9, none), (10, none)]]), (9, [.tidy [1, 19, 20, 21] [(1, none), (19, none), (20, none), (21, none)]])]),
  (85, [(5, [.lay 3 1, .tidy [1, 3, 4] [(1, none), (3, none), (4, none)]]), (8, [.tidy [1, 3, 4, 27, 28, 29] [(1, none), (3, none), (4, none), (27, none), (28, none), (29, none)]])]),
  (88, [(3, [.tidy [1, 5, 11, 12, 13] [(1, none), (5, none), (11, none), (12, none), (13, none)]])]),
  (89, [(4, [.tidy [1, 2, 3, 4, 14, 15, 16] [(1, none), (2, none), (3, none), (4, none), (14, none), (15, none), (16, none), (4, some 0), (4, some 1)]]), (10, [.tidy [2, 4, 28, 29, 30] [(2, none), (4, none), (28, none), (29, none), (30, none), (4, some 0), (4, some 1)]])]),
  (91, [(4, [.tidy [0, 1, 5] [(0, none), (1, none), (5, none)]])]),
  (92, [(4, [.tidy [0, 1, 5] [(0, none), (1, none), (5, none)]])]),
  (94, [(2, [.tidy [0, 1, 5] [(0, none), (1, none), (5, none)]]), (8, [.opn 0 none (some (5, 0)) 2 1])]),
  (95, [(2, [.tidy [0, 1, 5] [(0, none), (1, none), (5, none)]]), (6, [.opn 0 none (some (5, 0)) 1 2])]),
  (97, [(2, [.tidy [0, 1, 5] [(0, none), (1, none), (5, none)]])]),
  (98, [(2, [.tidy [0, 1, 5] [(0, none), (1, none), (5, none)]])]),
  (99, [(7, [.tidy [2, 3, 4, 5, 6] [(2, none), (3, none), (4, none), (5, none), (6, none)]]), (12, [.tidy [2, 3, 4, 5, 6, 7, 8, 9] [(2, none), (3, none), (4, none), (5, none), (6, none), (7, none), (8, none), (9, none)]]), (18, [.tidy [2, 3, 4, 5, 6, 7, 8, 9, 10, 12] [(2, none), (3, none), (4, none), (5, none), (6, none), (7, none), (8, none), (9, none), (10, none), (12, none)]])]),
  (100, [(8, [.lay 4 1, .tidy [2, 3, 4, 5] [(2, none), (3, none), (4, none), (5, none), (3, some 2)]]), (10, [.opn 3 (some 2) (some (5, 0)) 2 1]), (12, [.tidy [2, 3, 4, 5, 6, 7] [(2, none), (3, none), (4, none), (5, none), (6, none), (7, none), (3, some 2), (6, some 2)]]), (14, [.opn 3 none none 0 1, .opn 3 none none 1 1, .opn 3 none none 3 3]), (21, [.opn 3 none none 0 1, .opn 3 none none 1 1, .opn 3 none none 2 3, .opn 3 none none 3 3])]),
  (101, [(7, [.tidy [2, 3, 4, 5, 6] [(2, none), (3, none), (4, none), (5, none), (6, none)]]), (12, [.tidy [2, 3, 4, 5, 6, 7, 8, 31, 32, 33] [(2, none), (3, none), (4, none), (5, none), (6, none), (7, none), (8, none), (31, none), (32, none), (33, none)]]), (16, [.tidy [2, 3, 4, 5, 6, 7, 8, 10, 31, 32, 33, 43, 44, 45] [(2, none), (3, none), (4, none), (5, none), (6, none), (7, none), (8, none), (10, none), (31, none), (32, none), (33, none), (43, none), (44, none), (45, none)]])]),
  (102, [(8, [.lay 4 1, .tidy [1, 2, 3, 4, 27, 28, 29] [(1, none), (2, none), (3, none), (4, none), (27, none), (28, none), (29, none)]]), (10, [.opn 27 none (some (29, 0)) 2 1]), (13, [.tidy [1, 2, 3, 4, 6, 27, 28, 29, 37, 38, 39] [(1, none), (2, none), (3, none), (4, none), (6, none), (27, none), (28, none), (29, none), (37, none), (38, none), (39, none)]]), (22, [.opn 3 none none 0 1, .opn 3 none none 1 1, .opn 3 none none 2 3, .opn 3 none none 3 3])]),
  (104, [(3, [.tidy [0, 3, 4] [(0, none), (3, none), (4, none)]])]),
  (107, [(4, [.tidy [0, 1, 5] [(0, none), (1, none), (5, none)]])]),
  (118, [(3, [.tidy [0, 1, 5, 6] [(0, none), (1, none), (5, none), (6, none)]])]),
  (120, [(4, [.tidy [0, 1, 5] [(0, none), (1, none), (5, none)]])]),
  (123, [(2, [.tidy [2, 3, 10, 11, 12] [(2, none), (3, none), (10, none), (11, none), (12, none)]])]),
  (125, [(5, [.opn 4 none none 0 1, .tidy [1, 2, 4, 5] [(1, none), (2, none), (4, none), (5, none), (4, some 0)]]), (9, [.opn 4 none none 0 1])]),
  (126, [(3, [.opn 1 none none 2 3, .tidy [0, 1, 2] [(0, none), (1, none), (2, none), (1, some 2)]]), (9, [.opn 1 none none 0 1, .opn 1 none none 1 1, .opn 1 none none 2 3, .opn 1 none none 3 3])]),
  (127, [(3, [.opn 3 none none 4 1, .opn 3 none none 5 11, .tidy [1, 2, 3, 4] [(1, none), (2, none), (3, none), (4, none), (3, some 5)]]), (7, [.opn 5 none none 10 1]), (9, [.opn 3 none none 0 1, .opn 3 none none 1 1, .opn 3 none none 2 3, .opn 3 none none 3 3, .opn 3 none none 4 1, .opn 3 none none 5 11])]),
  (128, [(6, [.tidy [5, 7, 8] [(5, none), (7, none), (8, none)]])]),
  (129, [(4, [.tidy [1, 3] [(1, none), (3, none)]])]),
  (130, [(2, [.tidy [1, 2, 3, 7] [(1, none), (2, none), (3, none), (7, none)]])]),
  (131, [(4, [.opn 4 none none 0 1, .opn 4 none none 1 1, .opn 4 none none 2 3, .opn 4 none none 3 3, .opn 4 none none 4 1, .opn 4 none none 5 11]), (5, [.opn 4 none none 1 1]), (6, [.opn 4 none none 4 1]), (7, [.opn 4 none none 0 1, .opn 4 none none 1 1, .opn 4 none none 2 3, .opn 4 none none 3 3, .opn 4 none none 4 1, .opn 4 none none 5 11])]),
  (135, [(5, [.tidy [0, 1, 2, 3, 9, 10, 11, 12] [(0, none), (1, none), (2, none), (3, none), (9, none), (10, none), (11, none), (12, none)]]), (9, [.tidy [0, 1, 2, 3, 9, 10, 11, 12, 13, 14, 15] [(0, none), (1, none), (2, none), (3, none), (9, none), (10, none), (11, none), (12, none), (13, none), (14, none), (15, none)]]), (18, [.tidy [0, 1, 2, 3, 9, 11, 16] [(0, none), (1, none), (2, none), (3, none), (9, none), (11, none), (16, none)]])]),
  (136, [(8, [.tidy [0, 4, 5, 6] [(0, none), (4, none), (5, none), (6, none)]])]),
  (137, [(4, [.opn 4 none none 0 1, .opn 4 none none 1 1, .opn 4 none none 2 3, .opn 4 none none 3 3, .opn 4 none none 4 1, .opn 4 none none 5 11]), (5, [.opn 4 none none 0 1]), (6, [.opn 4 none none 4 1]), (7, [.opn 4 none none 0 1, .opn 4 none none 1 1, .opn 4 none none 2 3, .opn 4 none none 3 3, .opn 4 none none 4 1, .opn 4 none none 5 11])]),
  (138, [(3, [.opn 6 none none 0 1, .opn 6 none none 1 1, .opn 6 none none 2 3, .opn 6 none none 3 3, .opn 6 none none 4 1, .opn 6 none none 5 11]), (6, [.opn 6 none none 5 11, .opn 3 none none 10 1]), (8, [.opn 6 none none 0 1, .opn 6 none none 1 1, .opn 6 none none 2 3, .opn 6 none none 3 3, .opn 6 none none 4 1, .opn 6 none none 5 11])]),
  (142, [(5, [.tidy [2, 3, 9, 10] [(2, none), (3, none), (9, none), (10, none)]])]),
  (144, [(4, [.tidy [0, 1, 12, 13] [(0, none), (1, none), (12, none), (13, none)]])]),
  (146, [(3, [.tidy [1, 3, 9, 10, 11] [(1, none), (3, none), (9, none), (10, none), (11, none)]])]),
  (147, [(4, [.lay 4 1, .tidy [3, 4, 11, 12, 13] [(3, none), (4, none), (11, none), (12, none), (13, none)]]), (8, [.tidy [3, 4, 6, 11, 12, 13, 18, 19, 20] [(3, none), (4, none), (6, none), (11, none), (12, none), (13, none), (18, none), (19, none), (20, none)]])]),
  (148, [(4, [.tidy [1, 3, 4, 13, 14, 15] [(1, none), (3, none), (4, none), (13, none), (14, none), (15, none)]]), (11, [.tidy [1, 3, 27, 28, 29] [(1, none), (3, none), (27, none), (28, none), (29, none)]])]),
  (149, [(3, [.tidy [1, 3, 7, 8, 9] [(1, none), (3, none), (7, none), (8, none), (9, none)]])]),
  (150, [(3, [.tidy [1, 3, 9, 10, 11] [(1, none), (3, none), (9, none), (10, none), (11, none)]]), (7, [.tidy [1, 3, 5, 9, 10, 11, 18, 19, 20] [(1, none), (3, none), (5, none), (9, none), (10, none), (11, none), (18, none), (19, none), (20, none)]])]),
  (151, [(5, [.opn 4 none none 0 1, .opn 4 none none 1 1, .tidy [0, 2, 4, 5] [(0, none), (2, none), (4, none), (5, none), (4, some 0), (4, some 1)]]), (9, [.opn 4 none none 0 1, .opn 4 none none 1 1, .tidy [0, 2, 4, 5, 6, 7] [(0, none), (2, none), (4, none), (5, none), (6, none), (7, none), (4, some 0), (4, some 1)]])]),
  (154, [(8, [.opn 4 none none 1 2, .tidy [0, 2, 4, 5, 6] [(0, none), (2, none), (4, none), (5, none), (6, none), (4, some 1)]]), (16, [.opn 4 none none 1 2])]),
  (156, [(8, [.tidy [7, 8] [(7, none), (8, none)]])]),
  (157, [(3, [.lay 3 1, .tidy [3, 7, 8, 9] [(3, none), (7, none), (8, none), (9, none)]])]),
  (159, [(7, [.opn 4 none none 1 2]), (8, [.opn 4 none none 1 2, .tidy [0, 2, 4, 5, 24, 25] [(0, none), (2, none), (4, none), (5, none), (24, none), (25, none), (4, some 1)]]), (17, [.opn 4 none none 1 2])]),
  (160, [(4, [.tidy [0, 1, 5] [(0, none), (1, none), (5, none)]])]),
  (161, [(4, [.tidy [0, 1, 5] [(0, none), (1, none), (5, none)]])]),
  (162, [(4, [.tidy [0, 3] [(0, none), (3, none)]])]),
  (163, [(2, [.tidy [0, 1, 5] [(0, none), (1, none), (5, none)]])]),
  (164, [(2, [.tidy [0, 1, 5] [(0, none), (1, none), (5, none)]]), (24, [.opn 0 none (some (5, 0)) 10 1])]),
  (165, [(2, [.tidy [0, 1, 5] [(0, none), (1, none), (5, none)]])]),
  (166, [(2, [.tidy [0, 1, 5] [(0, none), (1, none), (5, none)]])]),
  (167, [(2, [.tidy [0, 1, 5] [(0, none), (1, none), (5, none)]])]),
  (173, [(4, [.tidy [1, 3] [(1, none), (3, none)]])]),
  (174, [(6, [.tidy [1, 3] [(1, none), (3, none)]]), (13, [.tidy [1, 3, 4, 5] [(1, none), (3, none), (4, none), (5, none)]])]),
  (175, [(5, [.lay 5 2, .tidy [1, 2, 5, 6] [(1, none), (2, none), (5, none), (6, none)]]), (9, [.lay 5 2, .tidy [1, 2, 5, 6, 7, 9] [(1, none), (2, none), (5, none), (6, none), (7, none), (9, none)]])]),
  (176, [(3, [.tidy [0, 3, 4] [(0, none), (3, none), (4, none)]])]),
  (180, [(2, [.tidy [1, 6, 7, 8] [(1, none), (6, none), (7, none), (8, none)]])]),
  (181, [(4, [.tidy [1, 19, 20, 21] [(1, none), (19, none), (20, none), (21, none)]])]),
  (183, [(3, [.lay 5 2, .tidy [2, 5, 14, 15, 16] [(2, none), (5, none), (14, none), (15, none), (16, none)]]), (8, [.lay 5 2, .tidy [2, 5, 8, 14, 15, 16, 24, 25, 26] [(2, none), (5, none), (8, none), (14, none), (15, none), (16, none), (24, none), (25, none), (26, none)]]), (13, [.lay 5 2, .tidy [2, 5, 8, 14, 15, 16, 24, 25, 26, 43, 44, 45] [(2, none), (5, none), (8, none), (14, none), (15, none), (16, none), (24, none), (25, none), (26, none), (43, none), (44, none), (45, none)]])]),
  (185, [(2, [.tidy [0, 1, 7, 8] [(0, none), (1, none), (7, none), (8, none)]])]),
  (186, [(3, [.lay 5 1, .tidy [2, 5, 11, 12, 13] [(2, none), (5, none), (11, none), (12, none), (13, none)]]), (7, [.tidy [2, 5, 11, 12, 13, 20, 21, 22] [(2, none), (5, none), (11, none), (12, none), (13, none), (20, none), (21, none), (22, none)]])]),
  (189, [(2, [.tidy [0, 1, 5] [(0, none), (1, none), (5, none)]])]),
  (190, [(2, [.tidy [0, 1, 5] [(0, none), (1, none), (5, none)]])]),
  (191, [(2, [.tidy [0, 1, 5] [(0, none), (1, none), (5, none)]])]),
  (192, [(2, [.tidy [0, 1, 5] [(0, none), (1, none), (5, none)]])]),
  (194, [(4, [.tidy [2, 5, 9] [(2, none), (5, none), (9, none)]])]),
  (195, [(4, [.tidy [2, 7, 8, 16, 17, 18] [(2, none), (7, none), (8, none), (16, none), (17, none), (18, none)]])]),
  (197, [(3, [.tidy [0, 2, 3, 4] [(0, none), (2, none), (3, none), (4, none)]])]),
  (200, [(5, [.tidy [0, 1, 5, 6] [(0, none), (1, none), (5, none), (6, none)]])]),
  (204, [(3, [.lay 3 11, .tidy [3, 7, 8, 9] [(3, none), (7, none), (8, none), (9, none)]])]),
  (205, [(2, [.tidy [5, 6, 7] [(5, none), (6, none), (7, none)]])]),
  (211, [(2, [.tidy [0, 5, 6] [(0, none), (5, none), (6, none)]])]),
  (212, [(2, [.tidy [0, 1, 7, 8] [(0, none), (1, none), (7, none), (8, none)]])]),
  (215, [(5, [.tidy [1, 2, 5, 6] [(1, none), (2, none), (5, none), (6, none)]]), (11, [.tidy [1, 2, 5, 7] [(1, none), (2, none), (5, none), (7, none)]])]),
  (216, [(2, [.tidy [0, 3] [(0, none), (3, none)]])]),
  (217, [(5, [.opn 6 none none 2 3, .tidy [1, 2, 6, 7] [(1, none), (2, none), (6, none), (7, none), (6, some 2)]]), (10, [.opn 6 none none 3 3, .tidy [1, 2, 6, 8] [(1, none), (2, none), (6, none), (8, none), (6, some 3)]]), (14, [.opn 6 none none 0 1, .opn 6 none none 1 1, .opn 6 none none 2 3, .opn 6 none none 3 3])]),
  (219, [(8, [.tidy [1, 4, 5, 6, 7] [(1, none), (4, none), (5, none), (6, none), (7, none)]])]),
  (220, [(2, [.tidy [1, 2, 5] [(1, none), (2, none), (5, none)]])]),
  (223, [(7, [.tidy [1, 4, 5] [(1, none), (4, none), (5, none)]])]),
  (224, [(3, [.lay 3 1, .tidy [0, 3, 6] [(0, none), (3, none), (6, none)]])]),
  (226, [(5, [.opn 4 none none 2 1, .tidy [0, 2, 4, 17] [(0, none), (2, none), (4, none), (17, none), (4, some 2)]])]),
  (229, [(7, [.tidy [4, 19, 20, 21] [(4, none), (19, none), (20, none), (21, none)]])]),
  (232, [(5, [.tidy [0, 1, 5] [(0, none), (1, none), (5, none)]])]),
  (233, [(3, [.tidy [0, 3, 4] [(0, none), (3, none), (4, none)]])]),
  (234, [(3, [.tidy [0, 3, 4] [(0, none), (3, none), (4, none)]])]),
  (236, [(2, [.tidy [0, 1, 2, 3, 8, 9] [(0, none), (1, none), (2, none), (3, none), (8, none), (9, none)]])]),
  (238, [(4, [.tidy [0, 1, 5] [(0, none), (1, none), (5, none)]])]),
  (239, [(4, [.tidy [0, 1, 5] [(0, none), (1, none), (5, none)]])]),
  (240, [(2, [.tidy [0, 1, 7, 8] [(0, none), (1, none), (7, none), (8, none)]])]),
  (242, [(6, [.tidy [0, 3, 4, 5, 6, 7, 8, 9] [(0, none), (3, none), (4, none), (5, none), (6, none), (7, none), (8, none), (9, none)]]), (35, [.tidy [0, 3, 4, 5, 11, 12] [(0, none), (3, none), (4, none), (5, none), (11, none), (12, none)]])]),
  (243, [(3, [.tidy [0, 2, 3, 4] [(0, none), (2, none), (3, none), (4, none)]]), (9, [.tidy [0, 2, 3, 5] [(0, none), (2, none), (3, none), (5, none)]]), (15, [.tidy [0, 2, 3, 6] [(0, none), (2, none), (3, none), (6, none)]]), (23, [.tidy [0, 2, 3, 7] [(0, none), (2, none), (3, none), (7, none)]])]),
  (248, [(1, [.tidy [0, 1, 4] [(0, none), (1, none), (4, none)]])]),
  (249, [(4, [.lay 6 11, .tidy [1, 4, 5, 6, 7] [(1, none), (4, none), (5, none), (6, none), (7, none), (5, some 5)]]), (7, [.opn 5 (some 5) (some (7, 0)) 10 1]), (8, [.fgt 5 (some 5) (some (7, 0)) 10]), (10, [.opn 5 none none 0 1, .opn 5 none none 1 1, .opn 5 none none 2 3, .opn 5 none none 3 3, .opn 5 none none 4 1, .opn 5 none none 5 11])]),
  (250, [(3, [.tidy [0, 3, 4] [(0, none), (3, none), (4, none)]]), (11, [.tidy [0, 3, 5, 6] [(0, none), (3, none), (5, none), (6, none)]])]),
  (251, [(2, [.tidy [0, 1, 2, 6] [(0, none), (1, none), (2, none), (6, none)]])]),
  (252, [(9, [.tidy [0, 1, 4, 5, 6] [(0, none), (1, none), (4, none), (5, none), (6, none)]]), (18, [.tidy [0, 1, 4, 8, 9] [(0, none), (1, none), (4, none), (8, none), (9, none)]])]),
  (253, [(3, [.tidy [0, 2, 3, 4] [(0, none), (2, none), (3, none), (4, none)]])]),
  (254, [(6, [.tidy [0, 1, 7, 8, 9] [(0, none), (1, none), (7, none), (8, none), (9, none)]])]),
  (255, [(2, [.lay 3 1, .tidy [0, 3] [(0, none), (3, none)]])]),
  (258, [(5, [.tidy [0, 1, 7, 8] [(0, none), (1, none), (7, none), (8, none)]])]),
  (262, [(2, [.tidy [0, 1, 7, 8] [(0, none), (1, none), (7, none), (8, none)]])]),
  (264, [(1, [.tidy [0, 1, 2, 6] [(0, none), (1, none), (2, none), (6, none)]]), (4, [.tidy [0, 1, 2, 6, 7] [(0, none), (1, none), (2, none), (6, none), (7, none)]])]),
  (265, [(4, [.tidy [0, 6, 7, 8, 9] [(0, none), (6, none), (7, none), (8, none), (9, none)]]), (9, [.tidy [0, 6, 7, 10] [(0, none), (6, none), (7, none), (10, none)]])]),
  (266, [(5, [.tidy [0, 1, 6, 7, 8, 9] [(0, none), (1, none), (6, none), (7, none), (8, none), (9, none)]])]),
  (268, [(2, [.tidy [0, 6, 7] [(0, none), (6, none), (7, none)]])]),
  (269, [(3, [.tidy [0, 1, 2, 7, 8] [(0, none), (1, none), (2, none), (7, none), (8, none)]]), (5, [.tidy [0, 1, 2, 7, 8] [(0, none), (1, none), (2, none), (7, none), (8, none)]]), (15, [.tidy [0, 1, 2, 7, 8, 9] [(0, none), (1, none), (2, none), (7, none), (8, none), (9, none)]]), (22, [.tidy [0, 1, 2, 7, 8, 10] [(0, none), (1, none), (2, none), (7, none), (8, none), (10, none)]])]),
  (271, [(3, [.tidy [0, 1, 9, 10] [(0, none), (1, none), (9, none), (10, none)]]), (4, [.tidy [0, 1, 9, 10] [(0, none), (1, none), (9, none), (10, none)]]), (7, [.tidy [0, 1, 9, 10] [(0, none), (1, none), (9, none), (10, none)]])]),
  (272, [(3, [.tidy [0, 1, 10, 11] [(0, none), (1, none), (10, none), (11, none)]]), (6, [.tidy [0, 1, 10, 11] [(0, none), (1, none), (10, none), (11, none)]]), (15, [.tidy [0, 1, 10, 11] [(0, none), (1, none), (10, none), (11, none)]]), (16, [.tidy [0, 1, 10, 11] [(0, none), (1, none), (10, none), (11, none)]]), (19, [.tidy [0, 1, 10, 11] [(0, none), (1, none), (10, none), (11, none)]])]),
  (277, [(8, [.tidy [3, 5, 6] [(3, none), (5, none), (6, none)]]), (18, [.tidy [3, 5, 7, 8] [(3, none), (5, none), (7, none), (8, none)]]), (26, [.tidy [3, 5, 9] [(3, none), (5, none), (9, none)]])]),
  (282, [(5, [.tidy [0, 2, 3, 4] [(0, none), (2, none), (3, none), (4, none)]])]),
  (283, [(4, [.tidy [0, 3, 4, 5] [(0, none), (3, none), (4, none), (5, none)]])]),
  (284, [(2, [.tidy [0, 1, 5] [(0, none), (1, none), (5, none)]])]),
  (285, [(4, [.lay 4 1, .tidy [0, 4] [(0, none), (4, none)]])]),
  (286, [(1, [.tidy [0, 2, 3, 8] [(0, none), (2, none), (3, none), (8, none)]])]),
  (294, [(3, [.tidy [3, 4] [(3, none), (4, none)]]), (6, [.tidy [3, 4, 5] [(3, none), (4, none), (5, none)]])]),
  (296, [(7, [.tidy [1, 2, 3, 4, 9, 10, 11, 12] [(1, none), (2, none), (3, none), (4, none), (9, none), (10, none), (11, none), (12, none)]]), (11, [.tidy [1, 2, 3, 4, 9, 10, 11, 12, 13, 14] [(1, none), (2, none), (3, none), (4, none), (9, none), (10, none), (11, none), (12, none), (13, none), (14, none)]])]),
  (298, [(6, [.tidy [2, 5, 6, 7] [(2, none), (5, none), (6, none), (7, none)]]), (10, [.tidy [2, 5, 6, 7, 8, 10] [(2, none), (5, none), (6, none), (7, none), (8, none), (10, none)]])]),
  (299, [(2, [.tidy [1, 2, 5] [(1, none), (2, none), (5, none)]])]),
  (301, [(4, [.tidy [2, 5, 7, 8] [(2, none), (5, none), (7, none), (8, none)]])]),
  (303, [(2, [.tidy [0, 1, 5] [(0, none), (1, none), (5, none)]])])]
def wids : Wids := [(11, (.agg [(.agg [.row 1 .one, .row 1 .one, .row 3 .one, .row 3 .one, .row 1 .one, .row 11 .one, .one, .row 1 .one]), .one])), (13, (.agg [(.agg [.row 1 .one, .row 1 .one, .row 3 .one, .row 3 .one, .row 1 .one, .row 11 .one, .one, .row 1 .one]), .one])), (35, (.agg [.one, .row 2 .one, .one])), (59, (.agg [(.agg [.row 1 .one, .row 1 .one, .row 3 .one, .row 3 .one]), .one])), (60, (.agg [.one, .one, .one, .one, .one, .row 11 .one, .one])), (62, (.agg [(.agg [.row 1 .one, .row 1 .one, .row 3 .one, .row 3 .one]), .one])), (63, (.agg [.one, .one, .one, .one, .one, .row 11 .one, .one])), (76, (.row 1 .one)), (79, (.row 1 .one)), (85, (.row 1 .one)), (106, (.agg [.one, .one, .row 1 .one])), (109, (.agg [.one, .one, .row 1 .one])), (110, (.agg [.one, .row 2 .one, .one])), (111, (.agg [.one, .rrow 2, .one])), (112, (.agg [.one, .row 2 .one, .one])), (125, (.agg [(.agg [.row 1 .one]), .one])), (126, (.agg [.row 1 .one, .row 1 .one, .row 3 .one, .row 3 (.agg [.one, .row 2 .one, .one])])), (127, (.agg [.one, .one, .one, .one, .one, .row 11 .one, .one])), (143, (.agg [.one, .one, .rrow 1])), (151, (.agg [(.agg [.row 1 .one, .row 1 .one]), .one])), (153, (.agg [(.agg [.one, .one, .row 1 .one]), .one])), (154, (.agg [(.agg [.one, .row 2 .one, .one]), .one])), (155, (.agg [(.agg [.row 1 .one, .row 1 .one]), .one])), (158, (.agg [.one, .one, .row 1 .one])), (159, (.agg [(.agg [.one, .row 2 .one, .one]), .one])), (171, (.agg [.row 1 .one, .row 1 .one])), (175, (.row 2 .one)), (179, (.agg [.row 1 .one, .row 1 .one])), (183, (.row 2 .one)), (186, (.row 1 .one)), (193, (.agg [(.agg [.one, .rrow 2, .one]), .one])), (195, (.row 1 .one)), (198, (.row 1 .one)), (203, (.row 1 .one)), (204, (.row 11 .one)), (226, (.agg [(.agg [.one, .one, .row 1 .one]), .one])), (249, (.agg [.one, .one, .one, .one, .one, .row 11 .one, .one])), (278, (.row 4 .one)), (294, (.row 4 .one)), (296, (.row 4 .one)), (298, (.row 1 .one))]
def orcs : List (Nat × (List AV → Mem → Option (AV × Mem))) := [(184, sortO)]
noncomputable def T : FuncId → Option EF := orcT (tableOf Tryz.prog tt pures hints wids) orcs
theorem tab {f : FuncId} {fn : Func} {F : EF} (hf : Tryz.prog.funcs[f]? = some fn) (h : (match compileF Tryz.prog tt pures fn with | some A => annF (hintOf hints f) (widOf wids f) A | none => none) = some F) (ho : (orcs.all fun p => !(p.1 == f)) = true) : T f = some F := orcT_at (table_at' hf h) ho
theorem hTT : ∀ t U, tt.get t = some U → tyOf Tryz.prog t = some U := Types.ok tt_rows
theorem calls {f : FuncId} {args : List AV} {res : AV} (h : E T f args [] = some (res, [])) : ACalls Tryz.prog f args res := E_calls mixed hTT (orcT_ok (table_ok _ _ _ _ _) (fun p hp => by cases List.mem_singleton.1 hp; exact sortOk)) h
theorem get_at {α : Type} {l : List α} {i : Nat} (h : i < l.length) : ∃ x, l[i]? = some x := Go.Abs.get_at h
theorem t184 : T 184 = some ⟨.ret, [], 0, .one, some sortO⟩ := rfl
end Go.Proofs.YtaaajjinpppgeaaGreat
namespace Go.Proofs.YtaaajjinpppgeaaGreat
open Go Go.Abs
set_option maxRecDepth 100000
def F19 : EF := ⟨(.seq (.region [(.op (.box 4) [(.tmp 0)] (some 2) true),(.op .mv [(.const (.int .i64 0))] (some 4) true)] false) (.seq (.region [(.op (.faddr 0) [(.tmp 2)] (some 5) true),(.op (.loadN 2) [(.tmp 5)] (some 6) true),(.op .mv [(.tmp 1)] (some 7) true),(.pc (.const (.fn 71 [])) [(.tmp 6),(.tmp 7)] (some 8) true),(.op .mv [(.tmp 8)] (some 1) true)] false) (.seq (.seq (.region [(.op .mv [(.tmp 1)] (some 9) true),(.op (.bin .lss) [(.tmp 9),(.const (.int .i64 0))] (some 10) true)] false) (.cond (.tmp 10) (.seq (.region [(.op .mv [(.const (.int .i64 (-1)))] (some 4) true)] false) .ret) .skip)) (.seq (.region [(.op (.faddr 2) [(.tmp 2)] (some 11) true),(.op .load1 [(.tmp 11)] (some 12) true),(.op .mv [(.tmp 1)] (some 13) true),(.pc (.const (.fn 72 [])) [(.tmp 12),(.tmp 13)] (some 14) true),(.op .mv [(.tmp 14)] (some 1) true)] false) (.seq (.seq (.region [(.op .mv [(.tmp 1)] (some 15) true),(.op (.bin .lss) [(.tmp 15),(.const (.int .i64 0))] (some 16) true)] false) (.cond (.tmp 16) (.seq (.region [(.op .mv [(.const (.int .i64 (-1)))] (some 4) true)] false) .ret) .skip)) (.seq (.region [(.op (.faddr 3) [(.tmp 2)] (some 17) true),(.op .load1 [(.tmp 17)] (some 18) true),(.op .mv [(.tmp 1)] (some 19) true),(.pc (.const (.fn 73 [])) [(.tmp 18),(.tmp 19)] (some 20) true),(.op .mv [(.tmp 20)] (some 1) true)] false) (.seq (.seq (.region [(.op .mv [(.tmp 1)] (some 21) true),(.op (.bin .lss) [(.tmp 21),(.const (.int .i64 0))] (some 22) true)] false) (.cond (.tmp 22) (.seq (.region [(.op .mv [(.const (.int .i64 (-1)))] (some 4) true)] false) .ret) .skip)) (.seq (.region [(.op .mv [(.tmp 1)] (some 23) true),(.op .mv [(.tmp 23)] (some 4) true)] false) .ret)))))))),[(.tmp 4)],24,.one,none⟩
theorem t19 : T 19 = some F19 := tab Tryz.func19 (by kernel_rfl) rfl
def F21 : EF := ⟨(.seq (.region [(.op (.box 4) [(.tmp 0)] (some 1) true),(.op (.alloc (.agg [.nil,.nil,.nil,.nil])) [] (some 2) true)] false) (.seq (.region [(.op (.alloc (.agg [.nil,.nil,.nil,.nil])) [] (some 3) true)] false) (.seq (.region [(.op (.faddr 0) [(.tmp 1)] (some 4) true),(.op (.loadN 2) [(.tmp 4)] (some 5) true),(.pc (.const (.fn 80 [])) [(.tmp 5)] (some 6) true),(.op (.faddr 0) [(.tmp 3)] (some 7) true),(.op (.storeN 2) [(.tmp 7),(.tmp 6)] none true)] false) (.seq (.region [(.op (.faddr 2) [(.tmp 1)] (some 8) true),(.op .load1 [(.tmp 8)] (some 9) true),(.pc (.const (.fn 81 [])) [(.tmp 9)] (some 10) true),(.op (.faddr 2) [(.tmp 3)] (some 11) true),(.op .store1 [(.tmp 11),(.tmp 10)] none true)] false) (.seq (.region [(.op (.faddr 3) [(.tmp 1)] (some 12) true),(.op .load1 [(.tmp 12)] (some 13) true),(.pc (.const (.fn 82 [])) [(.tmp 13)] (some 14) true),(.op (.faddr 3) [(.tmp 3)] (some 15) true),(.op .store1 [(.tmp 15),(.tmp 14)] none true)] false) (.seq (.region [(.op (.loadN 4) [(.tmp 3)] (some 16) true),(.op (.storeN 4) [(.tmp 2),(.tmp 16)] none true)] false) .ret)))))),[(.cell 2 (.loadN 4))],17,.one,none⟩
theorem t21 : T 21 = some F21 := tab Tryz.func21 (by kernel_rfl) rfl
def F23 : EF := ⟨(.seq (.region [(.op (.box 4) [(.tmp 0)] (some 2) true),(.op (.box 4) [(.tmp 1)] (some 3) true),(.op .mv [(.const (.bool false))] (some 4) true)] false) (.seq (.seq (.region [(.op (.faddr 0) [(.tmp 2)] (some 5) true),(.op (.loadN 2) [(.tmp 5)] (some 6) true),(.op (.faddr 0) [(.tmp 3)] (some 7) true),(.op (.loadN 2) [(.tmp 7)] (some 8) true),(.pc (.const (.fn 90 [])) [(.tmp 6),(.tmp 8)] (some 9) true),(.op .not [(.tmp 9)] (some 10) true)] false) (.cond (.tmp 10) (.seq (.region [(.op .mv [(.const (.bool false))] (some 4) true)] false) .ret) .skip)) (.seq (.seq (.region [(.op (.faddr 2) [(.tmp 2)] (some 11) true),(.op .load1 [(.tmp 11)] (some 12) true),(.op (.faddr 2) [(.tmp 3)] (some 13) true),(.op .load1 [(.tmp 13)] (some 14) true),(.pc (.const (.fn 91 [])) [(.tmp 12),(.tmp 14)] (some 15) true),(.op .not [(.tmp 15)] (some 16) true)] false) (.cond (.tmp 16) (.seq (.region [(.op .mv [(.const (.bool false))] (some 4) true)] false) .ret) .skip)) (.seq (.seq (.region [(.op (.faddr 3) [(.tmp 2)] (some 17) true),(.op .load1 [(.tmp 17)] (some 18) true),(.op (.faddr 3) [(.tmp 3)] (some 19) true),(.op .load1 [(.tmp 19)] (some 20) true),(.pc (.const (.fn 92 [])) [(.tmp 18),(.tmp 20)] (some 21) true),(.op .not [(.tmp 21)] (some 22) true)] false) (.cond (.tmp 22) (.seq (.region [(.op .mv [(.const (.bool false))] (some 4) true)] false) .ret) .skip)) (.seq (.region [(.op .mv [(.const (.bool true))] (some 4) true)] false) .ret))))),[(.tmp 4)],23,.one,none⟩
theorem t23 : T 23 = some F23 := tab Tryz.func23 (by kernel_rfl) rfl
def F71 : EF := ⟨(.seq (.region [(.op (.box 2) [(.tmp 0)] (some 2) true),(.op .mv [(.const (.int .i64 0))] (some 4) true)] false) (.seq (.region [(.op (.faddr 0) [(.tmp 2)] (some 5) true),(.op .load1 [(.tmp 5)] (some 6) true),(.op .mv [(.tmp 1)] (some 7) true),(.pc (.const (.fn 168 [])) [(.tmp 6),(.tmp 7)] (some 8) true),(.op .mv [(.tmp 8)] (some 1) true)] false) (.seq (.seq (.region [(.op .mv [(.tmp 1)] (some 9) true),(.op (.bin .lss) [(.tmp 9),(.const (.int .i64 0))] (some 10) true)] false) (.cond (.tmp 10) (.seq (.region [(.op .mv [(.const (.int .i64 (-1)))] (some 4) true)] false) .ret) .skip)) (.seq (.region [(.op (.faddr 1) [(.tmp 2)] (some 11) true),(.op .load1 [(.tmp 11)] (some 12) true),(.op .mv [(.tmp 1)] (some 13) true),(.pc (.const (.fn 168 [])) [(.tmp 12),(.tmp 13)] (some 14) true),(.op .mv [(.tmp 14)] (some 1) true)] false) (.seq (.seq (.region [(.op .mv [(.tmp 1)] (some 15) true),(.op (.bin .lss) [(.tmp 15),(.const (.int .i64 0))] (some 16) true)] false) (.cond (.tmp 16) (.seq (.region [(.op .mv [(.const (.int .i64 (-1)))] (some 4) true)] false) .ret) .skip)) (.seq (.region [(.op .mv [(.tmp 1)] (some 17) true),(.op .mv [(.tmp 17)] (some 4) true)] false) .ret)))))),[(.tmp 4)],18,.one,none⟩
theorem t71 : T 71 = some F71 := tab Tryz.func71 (by kernel_rfl) rfl
def H77_2 : List Vw := [.tidy [0, 1, 5] [(0, none), (1, none), (5, none)]]
theorem h77_2 (b : Nat) (s : St) : vwL b H77_2 s = vwL b [.tidy [0, 1, 5] [(0, none), (1, none), (5, none)]] s := rfl
def L77_2 : EC := (.seq (.seq (.region [(.op .mv [(.tmp 5)] (some 6) true),(.op .mv [(.tmp 0)] (some 7) true),(.op .len [(.tmp 7)] (some 8) true),(.op (.bin .lss) [(.tmp 6),(.tmp 8)] (some 9) true)] false) (.cond (.tmp 9) .skip (.exit 0))) (.seq (.block 1 (.seq (.region [(.op .mv [(.tmp 0)] (some 12) true),(.op .mv [(.tmp 5)] (some 13) true),(.op (.iaddr 1) [(.tmp 12),(.tmp 13)] (some 14) true),(.op .load1 [(.tmp 14)] (some 15) true),(.op .mv [(.tmp 1)] (some 16) true),(.op (.bin .eql) [(.tmp 15),(.tmp 16)] (some 17) true)] false) (.cond (.tmp 17) (.seq (.region [(.op .mv [(.const (.bool true))] (some 4) true)] false) .ret) .skip))) (.region [(.op .mv [(.tmp 5)] (some 10) true),(.op (.bin .add) [(.tmp 10),(.const (.int .i64 1))] (some 11) true),(.op .mv [(.tmp 11)] (some 5) true)] false)))
def F77 : EF := ⟨(.seq (.region [(.op .mv [(.const (.bool false))] (some 4) true)] false) (.seq (.seq (.region [(.op .mv [(.const (.int .i64 0))] (some 5) true)] false) (.block 0 (.loop H77_2 L77_2))) (.seq (.region [(.op .mv [(.const (.bool false))] (some 4) true)] false) .ret))),[(.tmp 4)],18,.one,none⟩
theorem t77 : T 77 = some F77 := tab Tryz.func77 (by kernel_rfl) rfl
def F80 : EF := ⟨(.seq (.region [(.op (.box 2) [(.tmp 0)] (some 1) true),(.op (.alloc (.agg [.nil,.nil])) [] (some 2) true)] false) (.seq (.region [(.op (.alloc (.agg [.nil,.nil])) [] (some 3) true)] false) (.seq (.region [(.op (.faddr 0) [(.tmp 1)] (some 4) true),(.op .load1 [(.tmp 4)] (some 5) true),(.pc (.const (.fn 176 [])) [(.tmp 5)] (some 6) true),(.op (.faddr 0) [(.tmp 3)] (some 7) true),(.op .store1 [(.tmp 7),(.tmp 6)] none true)] false) (.seq (.region [(.op (.faddr 1) [(.tmp 1)] (some 8) true),(.op .load1 [(.tmp 8)] (some 9) true),(.pc (.const (.fn 176 [])) [(.tmp 9)] (some 10) true),(.op (.faddr 1) [(.tmp 3)] (some 11) true),(.op .store1 [(.tmp 11),(.tmp 10)] none true)] false) (.seq (.region [(.op (.loadN 2) [(.tmp 3)] (some 12) true),(.op (.storeN 2) [(.tmp 2),(.tmp 12)] none true)] false) .ret))))),[(.cell 2 (.loadN 2))],13,.one,none⟩
theorem t80 : T 80 = some F80 := tab Tryz.func80 (by kernel_rfl) rfl
def F86 : EF := ⟨(.seq (.region [(.op .mv [(.const (.bool false))] (some 4) true)] false) (.seq (.region [(.op .mv [(.tmp 0)] (some 5) true),(.op .mv [(.tmp 1)] (some 6) true),(.pc (.const (.fn 185 [])) [(.tmp 5),(.tmp 6)] (some 7) true),(.op (.bin .geq) [(.tmp 7),(.const (.int .i64 0))] (some 8) true),(.op .mv [(.tmp 8)] (some 4) true)] false) .ret)),[(.tmp 4)],9,.one,none⟩
theorem t86 : T 86 = some F86 := tab Tryz.func86 (by kernel_rfl) rfl
def F90 : EF := ⟨(.seq (.region [(.op (.box 2) [(.tmp 0)] (some 2) true),(.op (.box 2) [(.tmp 1)] (some 3) true),(.op .mv [(.const (.bool false))] (some 4) true)] false) (.seq (.seq (.region [(.op (.faddr 0) [(.tmp 2)] (some 5) true),(.op .load1 [(.tmp 5)] (some 6) true),(.op (.faddr 0) [(.tmp 3)] (some 7) true),(.op .load1 [(.tmp 7)] (some 8) true),(.pc (.const (.fn 160 [])) [(.tmp 6),(.tmp 8)] (some 9) true),(.op .not [(.tmp 9)] (some 10) true)] false) (.cond (.tmp 10) (.seq (.region [(.op .mv [(.const (.bool false))] (some 4) true)] false) .ret) .skip)) (.seq (.seq (.region [(.op (.faddr 1) [(.tmp 2)] (some 11) true),(.op .load1 [(.tmp 11)] (some 12) true),(.op (.faddr 1) [(.tmp 3)] (some 13) true),(.op .load1 [(.tmp 13)] (some 14) true),(.pc (.const (.fn 160 [])) [(.tmp 12),(.tmp 14)] (some 15) true),(.op .not [(.tmp 15)] (some 16) true)] false) (.cond (.tmp 16) (.seq (.region [(.op .mv [(.const (.bool false))] (some 4) true)] false) .ret) .skip)) (.seq (.region [(.op .mv [(.const (.bool true))] (some 4) true)] false) .ret)))),[(.tmp 4)],17,.one,none⟩
theorem t90 : T 90 = some F90 := tab Tryz.func90 (by kernel_rfl) rfl
def F168 : EF := ⟨(.seq (.region [(.op .mv [(.const (.int .i64 0))] (some 4) true)] false) (.seq (.region [(.op .mv [(.tmp 1)] (some 5) true),(.op .mv [(.tmp 0)] (some 6) true),(.op .len [(.tmp 6)] (some 7) true),(.op (.bin .sub) [(.tmp 5),(.tmp 7)] (some 8) true),(.op .mv [(.tmp 8)] (some 1) true)] false) (.seq (.seq (.region [(.op .mv [(.tmp 1)] (some 9) true),(.op (.bin .lss) [(.tmp 9),(.const (.int .i64 0))] (some 10) true)] false) (.cond (.tmp 10) (.seq (.region [(.op .mv [(.const (.int .i64 (-1)))] (some 4) true)] false) .ret) .skip)) (.seq (.region [(.op .mv [(.tmp 1)] (some 11) true),(.op .mv [(.tmp 11)] (some 4) true)] false) .ret)))),[(.tmp 4)],12,.one,none⟩
theorem t168 : T 168 = some F168 := tab Tryz.func168 (by kernel_rfl) rfl
def H176_3 : List Vw := [.tidy [0, 3, 4] [(0, none), (3, none), (4, none)]]
theorem h176_3 (b : Nat) (s : St) : vwL b H176_3 s = vwL b [.tidy [0, 3, 4] [(0, none), (3, none), (4, none)]] s := rfl
def L176_3 : EC := (.seq (.seq (.region [(.op .mv [(.tmp 4)] (some 8) true),(.op .mv [(.tmp 0)] (some 9) true),(.op .len [(.tmp 9)] (some 10) true),(.op (.bin .lss) [(.tmp 8),(.tmp 10)] (some 11) true)] false) (.cond (.tmp 11) .skip (.exit 0))) (.seq (.block 1 (.region [(.op .mv [(.tmp 3)] (some 14) true),(.op .mv [(.tmp 4)] (some 15) true),(.op .mv [(.tmp 0)] (some 16) true),(.op .mv [(.tmp 4)] (some 17) true),(.op (.iaddr 1) [(.tmp 16),(.tmp 17)] (some 18) true),(.op .load1 [(.tmp 18)] (some 19) true),(.op (.iaddr 1) [(.tmp 14),(.tmp 15)] (some 20) true),(.op .store1 [(.tmp 20),(.tmp 19)] none true)] false)) (.region [(.op .mv [(.tmp 4)] (some 12) true),(.op (.bin .add) [(.tmp 12),(.const (.int .i64 1))] (some 13) true),(.op .mv [(.tmp 13)] (some 4) true)] false)))
def F176 : EF := ⟨(.seq (.region [(.op .mv [(.const .nil)] (some 2) true)] false) (.seq (.region [(.op .mv [(.tmp 0)] (some 5) true),(.op .len [(.tmp 5)] (some 6) true),(.op (.mkslice 1 1 (.bool false)) [(.tmp 6),(.tmp 6)] (some 7) true),(.op .mv [(.tmp 7)] (some 3) true)] false) (.seq (.seq (.region [(.op .mv [(.const (.int .i64 0))] (some 4) true)] false) (.block 0 (.loop H176_3 L176_3))) (.seq (.region [(.op .mv [(.tmp 3)] (some 21) true),(.op .mv [(.tmp 21)] (some 2) true)] false) .ret)))),[(.tmp 2)],22,.one,none⟩
theorem t176 : T 176 = some F176 := tab Tryz.func176 (by kernel_rfl) rfl
def H160_4 : List Vw := [.tidy [0, 1, 5] [(0, none), (1, none), (5, none)]]
theorem h160_4 (b : Nat) (s : St) : vwL b H160_4 s = vwL b [.tidy [0, 1, 5] [(0, none), (1, none), (5, none)]] s := rfl
def L160_4 : EC := (.seq (.seq (.region [(.op .mv [(.tmp 5)] (some 11) true),(.op .mv [(.tmp 0)] (some 12) true),(.op .len [(.tmp 12)] (some 13) true),(.op (.bin .lss) [(.tmp 11),(.tmp 13)] (some 14) true)] false) (.cond (.tmp 14) .skip (.exit 0))) (.seq (.block 1 (.seq (.region [(.op .mv [(.tmp 0)] (some 17) false),(.op .mv [(.tmp 5)] (some 18) false),(.op (.iaddr 1) [(.tmp 17),(.tmp 18)] (some 19) false),(.op .load1 [(.tmp 19)] (some 20) false),(.op .mv [(.tmp 1)] (some 21) false),(.op .mv [(.tmp 5)] (some 22) false),(.op (.iaddr 1) [(.tmp 21),(.tmp 22)] (some 23) false),(.op .load1 [(.tmp 23)] (some 24) false),(.op (.binB true) [(.tmp 20),(.tmp 24)] (some 25) true)] true) (.cond (.tmp 25) (.seq (.region [(.op .mv [(.const (.bool false))] (some 4) true)] false) .ret) .skip))) (.region [(.op .mv [(.tmp 5)] (some 15) true),(.op (.bin .add) [(.tmp 15),(.const (.int .i64 1))] (some 16) true),(.op .mv [(.tmp 16)] (some 5) true)] false)))
def F160 : EF := ⟨(.seq (.region [(.op .mv [(.const (.bool false))] (some 4) true)] false) (.seq (.seq (.region [(.op .mv [(.tmp 0)] (some 6) true),(.op .len [(.tmp 6)] (some 7) true),(.op .mv [(.tmp 1)] (some 8) true),(.op .len [(.tmp 8)] (some 9) true),(.op (.bin .neq) [(.tmp 7),(.tmp 9)] (some 10) true)] false) (.cond (.tmp 10) (.seq (.region [(.op .mv [(.const (.bool false))] (some 4) true)] false) .ret) .skip)) (.seq (.seq (.region [(.op .mv [(.const (.int .i64 0))] (some 5) true)] false) (.block 0 (.loop H160_4 L160_4))) (.seq (.region [(.op .mv [(.const (.bool true))] (some 4) true)] false) .ret)))),[(.tmp 4)],26,.one,none⟩
theorem t160 : T 160 = some F160 := tab Tryz.func160 (by kernel_rfl) rfl
def H238_4 : List Vw := [.tidy [0, 1, 5] [(0, none), (1, none), (5, none)]]
theorem h238_4 (b : Nat) (s : St) : vwL b H238_4 s = vwL b [.tidy [0, 1, 5] [(0, none), (1, none), (5, none)]] s := rfl
def L238_4 : EC := (.seq (.seq (.region [(.op .mv [(.tmp 5)] (some 11) true),(.op .mv [(.tmp 0)] (some 12) true),(.op .len [(.tmp 12)] (some 13) true),(.op (.bin .lss) [(.tmp 11),(.tmp 13)] (some 14) true)] false) (.cond (.tmp 14) .skip (.exit 0))) (.seq (.block 1 (.seq (.region [(.op .mv [(.tmp 0)] (some 17) false),(.op .mv [(.tmp 5)] (some 18) false),(.op (.iaddr 1) [(.tmp 17),(.tmp 18)] (some 19) false),(.op .load1 [(.tmp 19)] (some 20) false),(.op .mv [(.tmp 1)] (some 21) false),(.op .mv [(.tmp 5)] (some 22) false),(.op (.iaddr 1) [(.tmp 21),(.tmp 22)] (some 23) false),(.op .load1 [(.tmp 23)] (some 24) false),(.op (.bin .neq) [(.tmp 20),(.tmp 24)] (some 25) true)] true) (.cond (.tmp 25) (.seq (.region [(.op .mv [(.const (.bool false))] (some 4) true)] false) .ret) .skip))) (.region [(.op .mv [(.tmp 5)] (some 15) true),(.op (.bin .add) [(.tmp 15),(.const (.int .i64 1))] (some 16) true),(.op .mv [(.tmp 16)] (some 5) true)] false)))
def F238 : EF := ⟨(.seq (.region [(.op .mv [(.const (.bool false))] (some 4) true)] false) (.seq (.seq (.region [(.op .mv [(.tmp 0)] (some 6) true),(.op .len [(.tmp 6)] (some 7) true),(.op .mv [(.tmp 1)] (some 8) true),(.op .len [(.tmp 8)] (some 9) true),(.op (.bin .neq) [(.tmp 7),(.tmp 9)] (some 10) true)] false) (.cond (.tmp 10) (.seq (.region [(.op .mv [(.const (.bool false))] (some 4) true)] false) .ret) .skip)) (.seq (.seq (.region [(.op .mv [(.const (.int .i64 0))] (some 5) true)] false) (.block 0 (.loop H238_4 L238_4))) (.seq (.region [(.op .mv [(.const (.bool true))] (some 4) true)] false) .ret)))),[(.tmp 4)],26,.one,none⟩
theorem t238 : T 238 = some F238 := tab Tryz.func238 (by kernel_rfl) rfl
def F231 : EF := ⟨(.seq (.region [(.op .mv [(.const (.int .i64 0))] (some 4) true)] false) (.seq (.region [(.op .mv [(.tmp 1)] (some 5) true),(.op .mv [(.tmp 0)] (some 6) true),(.op .len [(.tmp 6)] (some 7) true),(.op (.bin .sub) [(.tmp 5),(.tmp 7)] (some 8) true),(.op .mv [(.tmp 8)] (some 1) true)] false) (.seq (.seq (.region [(.op .mv [(.tmp 1)] (some 9) true),(.op (.bin .lss) [(.tmp 9),(.const (.int .i64 0))] (some 10) true)] false) (.cond (.tmp 10) (.seq (.region [(.op .mv [(.const (.int .i64 (-1)))] (some 4) true)] false) .ret) .skip)) (.seq (.region [(.op .mv [(.tmp 1)] (some 11) true),(.op .mv [(.tmp 11)] (some 4) true)] false) .ret)))),[(.tmp 4)],12,.one,none⟩
theorem t231 : T 231 = some F231 := tab Tryz.func231 (by kernel_rfl) rfl
def H233_3 : List Vw := [.tidy [0, 3, 4] [(0, none), (3, none), (4, none)]]
theorem h233_3 (b : Nat) (s : St) : vwL b H233_3 s = vwL b [.tidy [0, 3, 4] [(0, none), (3, none), (4, none)]] s := rfl
def L233_3 : EC := (.seq (.seq (.region [(.op .mv [(.tmp 4)] (some 8) true),(.op .mv [(.tmp 0)] (some 9) true),(.op .len [(.tmp 9)] (some 10) true),(.op (.bin .lss) [(.tmp 8),(.tmp 10)] (some 11) true)] false) (.cond (.tmp 11) .skip (.exit 0))) (.seq (.block 1 (.region [(.op .mv [(.tmp 3)] (some 14) true),(.op .mv [(.tmp 4)] (some 15) true),(.op .mv [(.tmp 0)] (some 16) true),(.op .mv [(.tmp 4)] (some 17) true),(.op (.iaddr 1) [(.tmp 16),(.tmp 17)] (some 18) true),(.op .load1 [(.tmp 18)] (some 19) true),(.op (.iaddr 1) [(.tmp 14),(.tmp 15)] (some 20) true),(.op .store1 [(.tmp 20),(.tmp 19)] none true)] false)) (.region [(.op .mv [(.tmp 4)] (some 12) true),(.op (.bin .add) [(.tmp 12),(.const (.int .i64 1))] (some 13) true),(.op .mv [(.tmp 13)] (some 4) true)] false)))
def F233 : EF := ⟨(.seq (.region [(.op .mv [(.const .nil)] (some 2) true)] false) (.seq (.region [(.op .mv [(.tmp 0)] (some 5) true),(.op .len [(.tmp 5)] (some 6) true),(.op (.mkslice 1 8 (.int .i64 0)) [(.tmp 6),(.tmp 6)] (some 7) true),(.op .mv [(.tmp 7)] (some 3) true)] false) (.seq (.seq (.region [(.op .mv [(.const (.int .i64 0))] (some 4) true)] false) (.block 0 (.loop H233_3 L233_3))) (.seq (.region [(.op .mv [(.tmp 3)] (some 21) true),(.op .mv [(.tmp 21)] (some 2) true)] false) .ret)))),[(.tmp 2)],22,.one,none⟩
theorem t233 : T 233 = some F233 := tab Tryz.func233 (by kernel_rfl) rfl
def F169 : EF := ⟨(.seq (.region [(.op (.box 3) [(.tmp 0)] (some 2) true),(.op .mv [(.const (.int .i64 0))] (some 4) true)] false) (.seq (.region [(.op (.faddr 2) [(.tmp 2)] (some 5) true),(.op .load1 [(.tmp 5)] (some 6) true),(.op .mv [(.tmp 1)] (some 7) true),(.pc (.const (.fn 231 [])) [(.tmp 6),(.tmp 7)] (some 8) true),(.op .mv [(.tmp 8)] (some 1) true)] false) (.seq (.seq (.region [(.op .mv [(.tmp 1)] (some 9) true),(.op (.bin .lss) [(.tmp 9),(.const (.int .i64 0))] (some 10) true)] false) (.cond (.tmp 10) (.seq (.region [(.op .mv [(.const (.int .i64 (-1)))] (some 4) true)] false) .ret) .skip)) (.seq (.region [(.op .mv [(.tmp 1)] (some 11) true),(.op .mv [(.tmp 11)] (some 4) true)] false) .ret)))),[(.tmp 4)],12,.one,none⟩
theorem t169 : T 169 = some F169 := tab Tryz.func169 (by kernel_rfl) rfl
def F170 : EF := ⟨(.seq (.region [(.op (.box 3) [(.tmp 0)] (some 2) true),(.op .mv [(.const (.int .i64 0))] (some 4) true)] false) (.seq (.region [(.op (.faddr 1) [(.tmp 2)] (some 5) true),(.op .load1 [(.tmp 5)] (some 6) true),(.op .mv [(.tmp 1)] (some 7) true),(.pc (.const (.fn 232 [])) [(.tmp 6),(.tmp 7)] (some 8) true),(.op .mv [(.tmp 8)] (some 1) true)] false) (.seq (.seq (.region [(.op .mv [(.tmp 1)] (some 9) true),(.op (.bin .lss) [(.tmp 9),(.const (.int .i64 0))] (some 10) true)] false) (.cond (.tmp 10) (.seq (.region [(.op .mv [(.const (.int .i64 (-1)))] (some 4) true)] false) .ret) .skip)) (.seq (.region [(.op .mv [(.tmp 1)] (some 11) true),(.op (.faddr 2) [(.tmp 2)] (some 12) true),(.op .load1 [(.tmp 12)] (some 13) true),(.op .lenStr [(.tmp 13)] (some 14) true),(.op (.bin .sub) [(.tmp 11),(.tmp 14)] (some 15) true),(.op .mv [(.tmp 15)] (some 1) true)] false) (.seq (.seq (.region [(.op .mv [(.tmp 1)] (some 16) true),(.op (.bin .lss) [(.tmp 16),(.const (.int .i64 0))] (some 17) true)] false) (.cond (.tmp 17) (.seq (.region [(.op .mv [(.const (.int .i64 (-1)))] (some 4) true)] false) .ret) .skip)) (.seq (.region [(.op .mv [(.tmp 1)] (some 18) true),(.op .mv [(.tmp 18)] (some 4) true)] false) .ret)))))),[(.tmp 4)],19,.one,none⟩
theorem t170 : T 170 = some F170 := tab Tryz.func170 (by kernel_rfl) rfl
def F177 : EF := ⟨(.seq (.region [(.op (.box 3) [(.tmp 0)] (some 1) true),(.op (.alloc (.agg [(.int .i64 0),(.int .i64 0),.nil])) [] (some 2) true)] false) (.seq (.region [(.op (.alloc (.agg [(.int .i64 0),(.int .i64 0),.nil])) [] (some 3) true)] false) (.seq (.region [(.op (.faddr 0) [(.tmp 1)] (some 4) true),(.op .load1 [(.tmp 4)] (some 5) true),(.op (.faddr 0) [(.tmp 3)] (some 6) true),(.op .store1 [(.tmp 6),(.tmp 5)] none true)] false) (.seq (.region [(.op (.faddr 1) [(.tmp 1)] (some 7) true),(.op .load1 [(.tmp 7)] (some 8) true),(.op (.faddr 1) [(.tmp 3)] (some 9) true),(.op .store1 [(.tmp 9),(.tmp 8)] none true)] false) (.seq (.region [(.op (.faddr 2) [(.tmp 1)] (some 10) true),(.op .load1 [(.tmp 10)] (some 11) true),(.pc (.const (.fn 233 [])) [(.tmp 11)] (some 12) true),(.op (.faddr 2) [(.tmp 3)] (some 13) true),(.op .store1 [(.tmp 13),(.tmp 12)] none true)] false) (.seq (.region [(.op (.loadN 3) [(.tmp 3)] (some 14) true),(.op (.storeN 3) [(.tmp 2),(.tmp 14)] none true)] false) .ret)))))),[(.cell 2 (.loadN 3))],15,.one,none⟩
theorem t177 : T 177 = some F177 := tab Tryz.func177 (by kernel_rfl) rfl
def F178 : EF := ⟨(.seq (.region [(.op (.box 3) [(.tmp 0)] (some 1) true),(.op (.alloc (.agg [(.bool false),.nil,(.str ⟨#[]⟩)])) [] (some 2) true)] false) (.seq (.region [(.op (.alloc (.agg [(.bool false),.nil,(.str ⟨#[]⟩)])) [] (some 3) true)] false) (.seq (.region [(.op (.faddr 0) [(.tmp 1)] (some 4) true),(.op .load1 [(.tmp 4)] (some 5) true),(.op (.faddr 0) [(.tmp 3)] (some 6) true),(.op .store1 [(.tmp 6),(.tmp 5)] none true)] false) (.seq (.region [(.op (.faddr 1) [(.tmp 1)] (some 7) true),(.op .load1 [(.tmp 7)] (some 8) true),(.pc (.const (.fn 234 [])) [(.tmp 8)] (some 9) true),(.op (.faddr 1) [(.tmp 3)] (some 10) true),(.op .store1 [(.tmp 10),(.tmp 9)] none true)] false) (.seq (.region [(.op (.faddr 2) [(.tmp 1)] (some 11) true),(.op .load1 [(.tmp 11)] (some 12) true),(.op (.faddr 2) [(.tmp 3)] (some 13) true),(.op .store1 [(.tmp 13),(.tmp 12)] none true)] false) (.seq (.region [(.op (.loadN 3) [(.tmp 3)] (some 14) true),(.op (.storeN 3) [(.tmp 2),(.tmp 14)] none true)] false) .ret)))))),[(.cell 2 (.loadN 3))],15,.one,none⟩
theorem t178 : T 178 = some F178 := tab Tryz.func178 (by kernel_rfl) rfl
def H185_2 : List Vw := [.tidy [0, 1, 7, 8] [(0, none), (1, none), (7, none), (8, none)]]
theorem h185_2 (b : Nat) (s : St) : vwL b H185_2 s = vwL b [.tidy [0, 1, 7, 8] [(0, none), (1, none), (7, none), (8, none)]] s := rfl
def L185_2 : EC := (.seq (.region [(.op (.bin .lss) [(.tmp 8),(.tmp 7)] (some 9) true)] false) (.seq (.cond (.tmp 9) .skip (.exit 0)) (.seq (.block 1 (.seq (.region [(.op .mv [(.tmp 8)] (some 10) true),(.op .mv [(.tmp 10)] (some 5) true)] false) (.seq (.region [(.op .mv [(.tmp 1)] (some 11) true),(.op .mv [(.tmp 0)] (some 12) true),(.op .mv [(.tmp 5)] (some 13) true),(.op (.iaddr 1) [(.tmp 12),(.tmp 13)] (some 14) true),(.op .load1 [(.tmp 14)] (some 15) true),(.op (.bin .eql) [(.tmp 11),(.tmp 15)] (some 16) true)] false) (.cond (.tmp 16) (.seq (.region [(.op .mv [(.tmp 5)] (some 17) true),(.op .mv [(.tmp 17)] (some 4) true)] false) .ret) .skip)))) (.region [(.op (.bin .add) [(.tmp 8),(.const (.int .i64 1))] (some 18) true),(.op .mv [(.tmp 18)] (some 8) true)] false))))
def F185 : EF := ⟨(.seq (.region [(.op .mv [(.const (.int .i64 0))] (some 4) true)] false) (.seq (.seq (.region [(.op .mv [(.tmp 0)] (some 6) true),(.op .len [(.tmp 6)] (some 7) true),(.op .mv [(.const (.int .i64 0))] (some 8) true)] false) (.block 0 (.loop H185_2 L185_2))) (.seq (.region [(.op .mv [(.const (.int .i64 (-1)))] (some 4) true)] false) .ret))),[(.tmp 4)],19,.one,none⟩
theorem t185 : T 185 = some F185 := tab Tryz.func185 (by kernel_rfl) rfl
def F275 : EF := ⟨(.seq (.region [(.op (.box 2) [(.tmp 0)] (some 2) true),(.op (.box 2) [(.tmp 1)] (some 3) true),(.op .mv [(.const (.bool false))] (some 4) true)] false) (.seq (.seq (.region [(.op (.faddr 0) [(.tmp 2)] (some 5) true),(.op .load1 [(.tmp 5)] (some 6) true),(.op (.faddr 0) [(.tmp 3)] (some 7) true),(.op .load1 [(.tmp 7)] (some 8) true),(.op (.bin .neq) [(.tmp 6),(.tmp 8)] (some 9) true)] false) (.cond (.tmp 9) (.seq (.region [(.op .mv [(.const (.bool false))] (some 4) true)] false) .ret) .skip)) (.seq (.seq (.region [(.op (.faddr 1) [(.tmp 2)] (some 10) true),(.op .load1 [(.tmp 10)] (some 11) true),(.op (.faddr 1) [(.tmp 3)] (some 12) true),(.op .load1 [(.tmp 12)] (some 13) true),(.op (.bin .neq) [(.tmp 11),(.tmp 13)] (some 14) true)] false) (.cond (.tmp 14) (.seq (.region [(.op .mv [(.const (.bool false))] (some 4) true)] false) .ret) .skip)) (.seq (.region [(.op .mv [(.const (.bool true))] (some 4) true)] false) .ret)))),[(.tmp 4)],15,.one,none⟩
theorem t275 : T 275 = some F275 := tab Tryz.func275 (by kernel_rfl) rfl
def F187 : EF := ⟨(.seq (.region [(.op (.box 3) [(.tmp 0)] (some 2) true),(.op (.box 3) [(.tmp 1)] (some 3) true),(.op .mv [(.const (.bool false))] (some 4) true)] false) (.seq (.seq (.region [(.op (.faddr 0) [(.tmp 2)] (some 5) true),(.op .load1 [(.tmp 5)] (some 6) true),(.op (.faddr 0) [(.tmp 3)] (some 7) true),(.op .load1 [(.tmp 7)] (some 8) true),(.op (.bin .neq) [(.tmp 6),(.tmp 8)] (some 9) true)] false) (.cond (.tmp 9) (.seq (.region [(.op .mv [(.const (.bool false))] (some 4) true)] false) .ret) .skip)) (.seq (.seq (.region [(.op (.faddr 1) [(.tmp 2)] (some 10) true),(.op .load1 [(.tmp 10)] (some 11) true),(.op (.faddr 1) [(.tmp 3)] (some 12) true),(.op .load1 [(.tmp 12)] (some 13) true),(.op (.bin .neq) [(.tmp 11),(.tmp 13)] (some 14) true)] false) (.cond (.tmp 14) (.seq (.region [(.op .mv [(.const (.bool false))] (some 4) true)] false) .ret) .skip)) (.seq (.seq (.region [(.op (.faddr 2) [(.tmp 2)] (some 15) true),(.op .load1 [(.tmp 15)] (some 16) true),(.op (.faddr 2) [(.tmp 3)] (some 17) true),(.op .load1 [(.tmp 17)] (some 18) true),(.pc (.const (.fn 238 [])) [(.tmp 16),(.tmp 18)] (some 19) true),(.op .not [(.tmp 19)] (some 20) true)] false) (.cond (.tmp 20) (.seq (.region [(.op .mv [(.const (.bool false))] (some 4) true)] false) .ret) .skip)) (.seq (.region [(.op .mv [(.const (.bool true))] (some 4) true)] false) .ret))))),[(.tmp 4)],21,.one,none⟩
theorem t187 : T 187 = some F187 := tab Tryz.func187 (by kernel_rfl) rfl
def F188 : EF := ⟨(.seq (.region [(.op (.box 3) [(.tmp 0)] (some 2) true),(.op (.box 3) [(.tmp 1)] (some 3) true),(.op .mv [(.const (.bool false))] (some 4) true)] false) (.seq (.seq (.region [(.op (.faddr 0) [(.tmp 2)] (some 5) true),(.op .load1 [(.tmp 5)] (some 6) true),(.op (.faddr 0) [(.tmp 3)] (some 7) true),(.op .load1 [(.tmp 7)] (some 8) true),(.op (.binB true) [(.tmp 6),(.tmp 8)] (some 9) true)] false) (.cond (.tmp 9) (.seq (.region [(.op .mv [(.const (.bool false))] (some 4) true)] false) .ret) .skip)) (.seq (.seq (.region [(.op (.faddr 1) [(.tmp 2)] (some 10) true),(.op .load1 [(.tmp 10)] (some 11) true),(.op (.faddr 1) [(.tmp 3)] (some 12) true),(.op .load1 [(.tmp 12)] (some 13) true),(.pc (.const (.fn 239 [])) [(.tmp 11),(.tmp 13)] (some 14) true),(.op .not [(.tmp 14)] (some 15) true)] false) (.cond (.tmp 15) (.seq (.region [(.op .mv [(.const (.bool false))] (some 4) true)] false) .ret) .skip)) (.seq (.seq (.region [(.op (.faddr 2) [(.tmp 2)] (some 16) true),(.op .load1 [(.tmp 16)] (some 17) true),(.op (.faddr 2) [(.tmp 3)] (some 18) true),(.op .load1 [(.tmp 18)] (some 19) true),(.op (.bin .neq) [(.tmp 17),(.tmp 19)] (some 20) true)] false) (.cond (.tmp 20) (.seq (.region [(.op .mv [(.const (.bool false))] (some 4) true)] false) .ret) .skip)) (.seq (.region [(.op .mv [(.const (.bool true))] (some 4) true)] false) .ret))))),[(.tmp 4)],21,.one,none⟩
theorem t188 : T 188 = some F188 := tab Tryz.func188 (by kernel_rfl) rfl
def F260 : EF := ⟨(.seq (.region [(.op (.box 2) [(.tmp 0)] (some 2) true),(.op .mv [(.const (.int .i64 0))] (some 4) true)] false) (.seq (.region [(.op .mv [(.tmp 1)] (some 5) true),(.op (.faddr 0) [(.tmp 2)] (some 6) true),(.op .load1 [(.tmp 6)] (some 7) true),(.op .lenStr [(.tmp 7)] (some 8) true),(.op (.bin .sub) [(.tmp 5),(.tmp 8)] (some 9) true),(.op .mv [(.tmp 9)] (some 1) true)] false) (.seq (.seq (.region [(.op .mv [(.tmp 1)] (some 10) true),(.op (.bin .lss) [(.tmp 10),(.const (.int .i64 0))] (some 11) true)] false) (.cond (.tmp 11) (.seq (.region [(.op .mv [(.const (.int .i64 (-1)))] (some 4) true)] false) .ret) .skip)) (.seq (.region [(.op .mv [(.tmp 1)] (some 12) true),(.op .mv [(.tmp 12)] (some 4) true)] false) .ret)))),[(.tmp 4)],13,.one,none⟩
theorem t260 : T 260 = some F260 := tab Tryz.func260 (by kernel_rfl) rfl
def F261 : EF := ⟨(.seq (.region [(.op (.box 2) [(.tmp 0)] (some 1) true),(.op (.alloc (.agg [(.str ⟨#[]⟩),(.int .i64 0)])) [] (some 2) true)] false) (.seq (.region [(.op (.alloc (.agg [(.str ⟨#[]⟩),(.int .i64 0)])) [] (some 3) true)] false) (.seq (.region [(.op (.faddr 0) [(.tmp 1)] (some 4) true),(.op .load1 [(.tmp 4)] (some 5) true),(.op (.faddr 0) [(.tmp 3)] (some 6) true),(.op .store1 [(.tmp 6),(.tmp 5)] none true)] false) (.seq (.region [(.op (.faddr 1) [(.tmp 1)] (some 7) true),(.op .load1 [(.tmp 7)] (some 8) true),(.op (.faddr 1) [(.tmp 3)] (some 9) true),(.op .store1 [(.tmp 9),(.tmp 8)] none true)] false) (.seq (.region [(.op (.loadN 2) [(.tmp 3)] (some 10) true),(.op (.storeN 2) [(.tmp 2),(.tmp 10)] none true)] false) .ret))))),[(.cell 2 (.loadN 2))],11,.one,none⟩
theorem t261 : T 261 = some F261 := tab Tryz.func261 (by kernel_rfl) rfl
end Go.Proofs.YtaaajjinpppgeaaGreat
namespace Go.Proofs.YtaaajjinpppgeaaGreat
open Go Go.Abs
set_option maxRecDepth 100000
def F108 : EF := ⟨(.seq (.region [(.op .mv [(.const (.bool false))] (some 6) true)] false) (.seq (.region [(.op .mv [(.tmp 0)] (some 7) true),(.op .mv [(.tmp 1)] (some 8) true),(.op (.bin .geq) [(.tmp 7),(.tmp 8)] (some 9) true),(.op .mv [(.tmp 9)] (some 10) true),(.grp 10 true [(.op .mv [(.tmp 0)] (some 11) true),(.op .mv [(.tmp 2)] (some 12) true),(.op (.bin .leq) [(.tmp 11),(.tmp 12)] (some 13) true)] 13 14 true),(.op .mv [(.tmp 14)] (some 6) true)] false) .ret)),[(.tmp 6)],15,.one,none⟩
theorem t108 : T 108 = some F108 := tab Tryz.func108 (by kernel_rfl) rfl
def F105 : EF := ⟨(.seq (.region [(.op .mv [(.const (.bool false))] (some 6) true)] false) (.seq (.region [(.op .mv [(.tmp 0)] (some 7) true),(.op .mv [(.tmp 1)] (some 8) true),(.op (.bin .geq) [(.tmp 7),(.tmp 8)] (some 9) true),(.op .mv [(.tmp 9)] (some 10) true),(.grp 10 true [(.op .mv [(.tmp 0)] (some 11) true),(.op .mv [(.tmp 2)] (some 12) true),(.op (.bin .leq) [(.tmp 11),(.tmp 12)] (some 13) true)] 13 14 true),(.op .mv [(.tmp 14)] (some 6) true)] false) .ret)),[(.tmp 6)],15,.one,none⟩
theorem t105 : T 105 = some F105 := tab Tryz.func105 (by kernel_rfl) rfl
def F55 : EF := ⟨(.seq (.region [(.op (.alloc (.agg [(.int .i64 0),(.int .i64 0),.nil])) [] (some 2) true)] false) (.seq (.region [(.op .mv [(.tmp 0)] (some 4) true),(.op (.mkslice 1 8 (.int .i64 0)) [(.const (.int .i64 2)),(.const (.int .i64 2))] (some 5) true),(.op (.build [(.int .i64 0),(.int .i64 0),.nil] [(0,1),(1,1),(2,1)]) [(.tmp 4),(.const (.int .i64 1)),(.tmp 5)] (some 6) true),(.op (.alloc (.agg [(.int .i64 0),(.int .i64 0),.nil])) [] (some 3) true),(.op (.storeN 3) [(.tmp 3),(.tmp 6)] none true)] false) (.seq (.seq (.region [(.op .mv [(.tmp 0)] (some 7) true),(.op (.bin .eql) [(.tmp 7),(.const (.int .i64 0))] (some 8) true)] false) (.cond (.tmp 8) (.region [(.op (.faddr 1) [(.tmp 3)] (some 9) true),(.op .store1 [(.tmp 9),(.const (.int .i64 0))] none true)] false) .skip)) (.seq (.region [(.op (.loadN 3) [(.tmp 3)] (some 10) true),(.op (.storeN 3) [(.tmp 2),(.tmp 10)] none true)] false) .ret)))),[(.cell 2 (.loadN 3))],11,.one,none⟩
theorem t55 : T 55 = some F55 := tab Tryz.func55 (by kernel_rfl) rfl
def F109 : EF := ⟨(.seq (.region [(.op (.box 3) [(.tmp 0)] (some 1) true),(.op (.alloc (.agg [(.int .i64 0),(.int .i64 0),.nil])) [] (some 2) true)] false) (.seq (.region [(.op (.bslice 1 0 (.int .i64 0) []) [] (some 3) true),(.op (.faddr 2) [(.tmp 1)] (some 4) true),(.op .load1 [(.tmp 4)] (some 5) true),(.op (.append 1 8) [(.tmp 3),(.tmp 5)] (some 6) true),(.op (.faddr 2) [(.tmp 1)] (some 7) true),(.op .store1 [(.tmp 7),(.tmp 6)] none true)] false) (.seq (.region [(.op (.loadN 3) [(.tmp 1)] (some 8) true),(.op (.storeN 3) [(.tmp 2),(.tmp 8)] none true)] false) .ret))),[(.cell 2 (.loadN 3))],9,(.agg [.one,.one,.row 1 .one]),none⟩
theorem t109 : T 109 = some F109 := tab Tryz.func109 (by kernel_rfl) rfl
def F87 : EF := ⟨(.seq (.region [(.op (.alloc (.agg [(.int .i64 0),(.int .i64 0),.nil])) [] (some 2) true)] false) (.seq (.region [(.op .mv [(.tmp 0)] (some 4) true),(.op (.mkslice 1 8 (.int .i64 0)) [(.const (.int .i64 2)),(.const (.int .i64 2))] (some 5) true),(.op (.build [(.int .i64 0),(.int .i64 0),.nil] [(0,1),(1,1),(2,1)]) [(.tmp 4),(.const (.int .i64 1)),(.tmp 5)] (some 6) true),(.op (.alloc (.agg [(.int .i64 0),(.int .i64 0),.nil])) [] (some 3) true),(.op (.storeN 3) [(.tmp 3),(.tmp 6)] none true)] false) (.seq (.seq (.region [(.op .mv [(.tmp 0)] (some 7) true),(.op (.bin .eql) [(.tmp 7),(.const (.int .i64 0))] (some 8) true)] false) (.cond (.tmp 8) (.region [(.op (.faddr 1) [(.tmp 3)] (some 9) true),(.op .store1 [(.tmp 9),(.const (.int .i64 0))] none true)] false) .skip)) (.seq (.region [(.op (.loadN 3) [(.tmp 3)] (some 10) true),(.op (.storeN 3) [(.tmp 2),(.tmp 10)] none true)] false) .ret)))),[(.cell 2 (.loadN 3))],11,.one,none⟩
theorem t87 : T 87 = some F87 := tab Tryz.func87 (by kernel_rfl) rfl
def F106 : EF := ⟨(.seq (.region [(.op (.box 3) [(.tmp 0)] (some 1) true),(.op (.alloc (.agg [(.int .i64 0),(.int .i64 0),.nil])) [] (some 2) true)] false) (.seq (.region [(.op (.faddr 2) [(.tmp 1)] (some 3) true),(.op .load1 [(.tmp 3)] (some 4) true),(.pc (.const (.fn 198 [])) [(.tmp 4)] (some 5) true),(.op (.faddr 2) [(.tmp 1)] (some 6) true),(.op .store1 [(.tmp 6),(.tmp 5)] none true)] false) (.seq (.region [(.op (.loadN 3) [(.tmp 1)] (some 7) true),(.op (.storeN 3) [(.tmp 2),(.tmp 7)] none true)] false) .ret))),[(.cell 2 (.loadN 3))],8,(.agg [.one,.one,.row 1 .one]),none⟩
theorem t106 : T 106 = some F106 := tab Tryz.func106 (by kernel_rfl) rfl
def F198 : EF := ⟨(.seq (.region [(.op .mv [(.const .nil)] (some 2) true)] false) (.seq (.region [(.op (.bslice 1 0 (.int .i64 0) []) [] (some 3) true),(.op .mv [(.tmp 0)] (some 4) true),(.op (.append 1 8) [(.tmp 3),(.tmp 4)] (some 5) true),(.op .mv [(.tmp 5)] (some 2) true)] false) .ret)),[(.tmp 2)],6,(.row 1 .one),none⟩
theorem t198 : T 198 = some F198 := tab Tryz.func198 (by kernel_rfl) rfl
end Go.Proofs.YtaaajjinpppgeaaGreat
namespace Go.Proofs.YtaaajjinpppgeaaGreat
open Go Go.Abs
set_option maxRecDepth 100000
def F172 : EF := ⟨(.seq (.region [(.op (.box 2) [(.tmp 0)] (some 1) true),(.op .mv [(.const (.bool false))] (some 2) true)] false) (.seq (.region [(.op (.faddr 0) [(.tmp 1)] (some 3) true),(.op .load1 [(.tmp 3)] (some 4) true),(.op .len [(.tmp 4)] (some 5) true),(.op (.bin .eql) [(.tmp 5),(.const (.int .i64 16))] (some 6) true),(.op .mv [(.tmp 6)] (some 7) true),(.grp 7 true [(.op (.faddr 1) [(.tmp 1)] (some 8) true),(.op .load1 [(.tmp 8)] (some 9) true),(.op .len [(.tmp 9)] (some 10) true),(.op (.bin .eql) [(.tmp 10),(.const (.int .i64 8))] (some 11) true)] 11 12 true),(.op .mv [(.tmp 12)] (some 2) true)] false) .ret)),[(.tmp 2)],13,.one,none⟩
theorem t172 : T 172 = some F172 := tab Tryz.func172 (by kernel_rfl) rfl
def H173_4 : List Vw := [.tidy [1, 3] [(1, none), (3, none)]]
theorem h173_4 (b : Nat) (s : St) : vwL b H173_4 s = vwL b [.tidy [1, 3] [(1, none), (3, none)]] s := rfl
def L173_4 : EC := (.seq (.seq (.region [(.op .mv [(.tmp 3)] (some 20) true),(.op (.bin .lss) [(.tmp 20),(.const (.int .i64 2))] (some 21) true)] false) (.cond (.tmp 21) .skip (.exit 0))) (.seq (.block 1 (.seq (.region [(.op (.faddr 2) [(.tmp 1)] (some 24) true),(.op .load1 [(.tmp 24)] (some 25) true),(.op .mv [(.tmp 3)] (some 26) true),(.op (.iaddr 1) [(.tmp 25),(.tmp 26)] (some 27) true),(.op .load1 [(.tmp 27)] (some 28) true),(.pc (.const (.fn 108 [])) [(.tmp 28),(.const (.int .i64 0)),(.const (.int .i64 16))] (some 29) true),(.op .not [(.tmp 29)] (some 30) true),(.op .mv [(.tmp 30)] (some 31) true),(.grp 31 false [(.op (.faddr 0) [(.tmp 1)] (some 32) true),(.op .load1 [(.tmp 32)] (some 33) true),(.op (.bin .eql) [(.tmp 33),(.const (.int .i64 0))] (some 34) true),(.op .mv [(.tmp 34)] (some 35) true),(.grp 35 true [(.op (.faddr 2) [(.tmp 1)] (some 36) true),(.op .load1 [(.tmp 36)] (some 37) true),(.op .mv [(.tmp 3)] (some 38) true),(.op (.iaddr 1) [(.tmp 37),(.tmp 38)] (some 39) true),(.op .load1 [(.tmp 39)] (some 40) true),(.op (.bin .neq) [(.tmp 40),(.const (.int .i64 0))] (some 41) true)] 41 42 true)] 42 43 true)] false) (.cond (.tmp 43) (.seq (.region [(.op .mv [(.const (.bool false))] (some 2) true)] false) .ret) .skip))) (.region [(.op .mv [(.tmp 3)] (some 22) true),(.op (.bin .add) [(.tmp 22),(.const (.int .i64 1))] (some 23) true),(.op .mv [(.tmp 23)] (some 3) true)] false)))
def F173 : EF := ⟨(.seq (.region [(.op (.box 3) [(.tmp 0)] (some 1) true),(.op .mv [(.const (.bool false))] (some 2) true)] false) (.seq (.seq (.region [(.op (.faddr 0) [(.tmp 1)] (some 4) true),(.op .load1 [(.tmp 4)] (some 5) true),(.pc (.const (.fn 108 [])) [(.tmp 5),(.const (.int .i64 0)),(.const (.int .i64 2))] (some 6) true),(.op .not [(.tmp 6)] (some 7) true),(.op .mv [(.tmp 7)] (some 8) true),(.grp 8 false [(.op (.faddr 1) [(.tmp 1)] (some 9) true),(.op .load1 [(.tmp 9)] (some 10) true),(.pc (.const (.fn 108 [])) [(.tmp 10),(.const (.int .i64 0)),(.const (.int .i64 200))] (some 11) true),(.op .not [(.tmp 11)] (some 12) true)] 12 13 true),(.op .mv [(.tmp 13)] (some 14) true),(.grp 14 false [(.op (.faddr 2) [(.tmp 1)] (some 15) true),(.op .load1 [(.tmp 15)] (some 16) true),(.op .len [(.tmp 16)] (some 17) true),(.op (.bin .neq) [(.tmp 17),(.const (.int .i64 2))] (some 18) true)] 18 19 true)] false) (.cond (.tmp 19) (.seq (.region [(.op .mv [(.const (.bool false))] (some 2) true)] false) .ret) .skip)) (.seq (.seq (.region [(.op .mv [(.const (.int .i64 0))] (some 3) true)] false) (.block 0 (.loop H173_4 L173_4))) (.seq (.region [(.op (.faddr 0) [(.tmp 1)] (some 44) true),(.op .load1 [(.tmp 44)] (some 45) true),(.op (.bin .neq) [(.tmp 45),(.const (.int .i64 0))] (some 46) true),(.op .mv [(.tmp 46)] (some 47) true),(.grp 47 false [(.op (.faddr 1) [(.tmp 1)] (some 48) true),(.op .load1 [(.tmp 48)] (some 49) true),(.op (.bin .eql) [(.tmp 49),(.const (.int .i64 0))] (some 50) true)] 50 51 true),(.op .mv [(.tmp 51)] (some 2) true)] false) .ret)))),[(.tmp 2)],52,.one,none⟩
theorem t173 : T 173 = some F173 := tab Tryz.func173 (by kernel_rfl) rfl
def H174_13 : List Vw := [.tidy [1, 3, 4, 5] [(1, none), (3, none), (4, none), (5, none)]]
theorem h174_13 (b : Nat) (s : St) : vwL b H174_13 s = vwL b [.tidy [1, 3, 4, 5] [(1, none), (3, none), (4, none), (5, none)]] s := rfl
def L174_13 : EC := (.seq (.seq (.region [(.op .mv [(.tmp 5)] (some 55) true),(.op .mv [(.tmp 3)] (some 56) true),(.op (.bin .lss) [(.tmp 55),(.tmp 56)] (some 57) true)] false) (.cond (.tmp 57) .skip (.exit 2))) (.seq (.block 3 (.seq (.region [(.op (.faddr 1) [(.tmp 1)] (some 60) false),(.op .load1 [(.tmp 60)] (some 61) false),(.op .mv [(.tmp 5)] (some 62) false),(.op (.iaddr 2) [(.tmp 61),(.tmp 62)] (some 63) false),(.op (.faddr 0) [(.tmp 63)] (some 64) false),(.op .load1 [(.tmp 64)] (some 65) false),(.op (.faddr 0) [(.tmp 4)] (some 66) false),(.op .load1 [(.tmp 66)] (some 67) false),(.op (.bin .eql) [(.tmp 65),(.tmp 67)] (some 68) true)] true) (.cond (.tmp 68) (.seq (.region [(.op .mv [(.const (.bool false))] (some 2) true)] false) .ret) .skip))) (.region [(.op .mv [(.tmp 5)] (some 58) true),(.op (.bin .add) [(.tmp 58),(.const (.int .i64 1))] (some 59) true),(.op .mv [(.tmp 59)] (some 5) true)] false)))
def H174_6 : List Vw := [.tidy [1, 3] [(1, none), (3, none)]]
theorem h174_6 (b : Nat) (s : St) : vwL b H174_6 s = vwL b [.tidy [1, 3] [(1, none), (3, none)]] s := rfl
def L174_6 : EC := (.seq (.seq (.region [(.op .mv [(.tmp 3)] (some 28) true),(.op (.bin .lss) [(.tmp 28),(.const (.int .i64 4))] (some 29) true)] false) (.cond (.tmp 29) .skip (.exit 0))) (.seq (.block 1 (.seq (.region [(.op (.faddr 1) [(.tmp 1)] (some 32) true),(.op .load1 [(.tmp 32)] (some 33) true),(.op .mv [(.tmp 3)] (some 34) true),(.op (.iaddr 2) [(.tmp 33),(.tmp 34)] (some 35) true),(.op (.loadN 2) [(.tmp 35)] (some 36) true),(.op (.alloc (.agg [(.str ⟨#[]⟩),(.int .i64 0)])) [] (some 4) true),(.op (.storeN 2) [(.tmp 4),(.tmp 36)] none true)] false) (.seq (.seq (.region [(.op (.faddr 0) [(.tmp 4)] (some 37) true),(.op .load1 [(.tmp 37)] (some 38) true),(.op (.bin .eql) [(.tmp 38),(.const (.str ⟨#[]⟩))] (some 39) true),(.op .mv [(.tmp 39)] (some 40) true),(.grp 40 true [(.op (.faddr 1) [(.tmp 4)] (some 41) true),(.op .load1 [(.tmp 41)] (some 42) true),(.op (.bin .eql) [(.tmp 42),(.const (.int .i64 0))] (some 43) true)] 43 44 true)] false) (.cond (.tmp 44) (.exit 1) .skip)) (.seq (.seq (.region [(.op (.faddr 0) [(.tmp 4)] (some 45) true),(.op .load1 [(.tmp 45)] (some 46) true),(.pc (.const (.fn 216 [])) [(.tmp 46)] (some 47) true),(.op .not [(.tmp 47)] (some 48) true),(.op .mv [(.tmp 48)] (some 49) true),(.grp 49 false [(.op (.faddr 1) [(.tmp 4)] (some 50) true),(.op .load1 [(.tmp 50)] (some 51) true),(.pc (.const (.fn 108 [])) [(.tmp 51),(.const (.int .i64 1)),(.const (.int .i64 8))] (some 52) true),(.op .not [(.tmp 52)] (some 53) true)] 53 54 true)] false) (.cond (.tmp 54) (.seq (.region [(.op .mv [(.const (.bool false))] (some 2) true)] false) .ret) .skip)) (.seq (.region [(.op .mv [(.const (.int .i64 0))] (some 5) true)] false) (.block 2 (.loop H174_13 L174_13))))))) (.region [(.op .mv [(.tmp 3)] (some 30) true),(.op (.bin .add) [(.tmp 30),(.const (.int .i64 1))] (some 31) true),(.op .mv [(.tmp 31)] (some 3) true)] false)))
def F174 : EF := ⟨(.seq (.region [(.op (.box 3) [(.tmp 0)] (some 1) true),(.op .mv [(.const (.bool false))] (some 2) true)] false) (.seq (.seq (.region [(.op (.faddr 0) [(.tmp 1)] (some 6) true),(.op .load1 [(.tmp 6)] (some 7) true),(.op .not [(.tmp 7)] (some 8) true)] false) (.cond (.tmp 8) (.seq (.region [(.op (.faddr 1) [(.tmp 1)] (some 9) true),(.op .load1 [(.tmp 9)] (some 10) true),(.op .len [(.tmp 10)] (some 11) true),(.op (.bin .eql) [(.tmp 11),(.const (.int .i64 0))] (some 12) true),(.op .mv [(.tmp 12)] (some 13) true),(.grp 13 true [(.op (.faddr 2) [(.tmp 1)] (some 14) true),(.op .load1 [(.tmp 14)] (some 15) true),(.op .lenStr [(.tmp 15)] (some 16) true),(.op (.bin .leq) [(.tmp 16),(.const (.int .i64 16))] (some 17) true)] 17 18 true),(.op .mv [(.tmp 18)] (some 2) true)] false) .ret) .skip)) (.seq (.seq (.region [(.op (.faddr 1) [(.tmp 1)] (some 19) true),(.op .load1 [(.tmp 19)] (some 20) true),(.op .len [(.tmp 20)] (some 21) true),(.op (.bin .neq) [(.tmp 21),(.const (.int .i64 4))] (some 22) true),(.op .mv [(.tmp 22)] (some 23) true),(.grp 23 false [(.op (.faddr 2) [(.tmp 1)] (some 24) true),(.op .load1 [(.tmp 24)] (some 25) true),(.op (.bin .neq) [(.tmp 25),(.const (.str ⟨#[]⟩))] (some 26) true)] 26 27 true)] false) (.cond (.tmp 27) (.seq (.region [(.op .mv [(.const (.bool false))] (some 2) true)] false) .ret) .skip)) (.seq (.seq (.region [(.op .mv [(.const (.int .i64 0))] (some 3) true)] false) (.block 0 (.loop H174_6 L174_6))) (.seq (.region [(.op .mv [(.const (.bool true))] (some 2) true)] false) .ret))))),[(.tmp 2)],69,.one,none⟩
theorem t174 : T 174 = some F174 := tab Tryz.func174 (by kernel_rfl) rfl
def H216_2 : List Vw := [.tidy [0, 3] [(0, none), (3, none)]]
theorem h216_2 (b : Nat) (s : St) : vwL b H216_2 s = vwL b [.tidy [0, 3] [(0, none), (3, none)]] s := rfl
def L216_2 : EC := (.seq (.seq (.region [(.op .mv [(.tmp 3)] (some 4) true),(.op .mv [(.tmp 0)] (some 5) true),(.op .lenStr [(.tmp 5)] (some 6) true),(.op (.bin .lss) [(.tmp 4),(.tmp 6)] (some 7) true)] false) (.cond (.tmp 7) .skip (.exit 0))) (.seq (.block 1 (.seq (.region [(.op .mv [(.tmp 0)] (some 10) true),(.op .mv [(.tmp 3)] (some 11) true),(.op .idxStr [(.tmp 10),(.tmp 11)] (some 12) true),(.op (.bin .lss) [(.tmp 12),(.const (.int .u8 97))] (some 13) true),(.op .mv [(.tmp 13)] (some 14) true),(.grp 14 false [(.op .mv [(.tmp 0)] (some 15) true),(.op .mv [(.tmp 3)] (some 16) true),(.op .idxStr [(.tmp 15),(.tmp 16)] (some 17) true),(.op (.bin .gtr) [(.tmp 17),(.const (.int .u8 122))] (some 18) true)] 18 19 true),(.op .mv [(.tmp 19)] (some 20) true),(.grp 20 true [(.op .mv [(.tmp 0)] (some 21) true),(.op .mv [(.tmp 3)] (some 22) true),(.op .idxStr [(.tmp 21),(.tmp 22)] (some 23) true),(.op (.bin .lss) [(.tmp 23),(.const (.int .u8 48))] (some 24) true),(.op .mv [(.tmp 24)] (some 25) true),(.grp 25 false [(.op .mv [(.tmp 0)] (some 26) true),(.op .mv [(.tmp 3)] (some 27) true),(.op .idxStr [(.tmp 26),(.tmp 27)] (some 28) true),(.op (.bin .gtr) [(.tmp 28),(.const (.int .u8 57))] (some 29) true)] 29 30 true)] 30 31 true)] false) (.cond (.tmp 31) (.seq (.region [(.op .mv [(.const (.bool false))] (some 2) true)] false) .ret) .skip))) (.region [(.op .mv [(.tmp 3)] (some 8) true),(.op (.bin .add) [(.tmp 8),(.const (.int .i64 1))] (some 9) true),(.op .mv [(.tmp 9)] (some 3) true)] false)))
def F216 : EF := ⟨(.seq (.region [(.op .mv [(.const (.bool false))] (some 2) true)] false) (.seq (.seq (.region [(.op .mv [(.const (.int .i64 0))] (some 3) true)] false) (.block 0 (.loop H216_2 L216_2))) (.seq (.region [(.op .mv [(.tmp 0)] (some 32) true),(.op .lenStr [(.tmp 32)] (some 33) true),(.pc (.const (.fn 108 [])) [(.tmp 33),(.const (.int .i64 1)),(.const (.int .i64 6))] (some 34) true),(.op .mv [(.tmp 34)] (some 2) true)] false) .ret))),[(.tmp 2)],35,.one,none⟩
theorem t216 : T 216 = some F216 := tab Tryz.func216 (by kernel_rfl) rfl
def H180_2 : List Vw := [.tidy [1, 6, 7, 8] [(1, none), (6, none), (7, none), (8, none)]]
theorem h180_2 (b : Nat) (s : St) : vwL b H180_2 s = vwL b [.tidy [1, 6, 7, 8] [(1, none), (6, none), (7, none), (8, none)]] s := rfl
def L180_2 : EC := (.seq (.region [(.op (.bin .lss) [(.tmp 8),(.tmp 7)] (some 9) true)] false) (.seq (.cond (.tmp 9) .skip (.exit 0)) (.seq (.block 1 (.seq (.region [(.op (.iaddr 1) [(.tmp 6),(.tmp 8)] (some 10) true),(.op .load1 [(.tmp 10)] (some 11) true),(.op .mv [(.tmp 11)] (some 4) true)] false) (.seq (.region [(.op .mv [(.tmp 4)] (some 12) true),(.pc (.const (.fn 105 [])) [(.tmp 12),(.const (.int .i64 0)),(.const (.int .i64 16))] (some 13) true),(.op .not [(.tmp 13)] (some 14) true),(.op .mv [(.tmp 14)] (some 15) true),(.grp 15 false [(.op .mv [(.tmp 4)] (some 16) true),(.op (.bin .neq) [(.tmp 16),(.const (.int .i64 0))] (some 17) true),(.op .mv [(.tmp 17)] (some 18) true),(.grp 18 true [(.op (.faddr 0) [(.tmp 1)] (some 19) true),(.op .load1 [(.tmp 19)] (some 20) true),(.op (.bin .eql) [(.tmp 20),(.const (.int .i64 0))] (some 21) true)] 21 22 true)] 22 23 true)] false) (.cond (.tmp 23) (.seq (.region [(.op .mv [(.const (.bool false))] (some 2) true)] false) .ret) .skip)))) (.region [(.op (.bin .add) [(.tmp 8),(.const (.int .i64 1))] (some 24) true),(.op .mv [(.tmp 24)] (some 8) true)] false))))
def F180 : EF := ⟨(.seq (.region [(.op (.box 3) [(.tmp 0)] (some 1) true),(.op .mv [(.const (.bool false))] (some 2) true)] false) (.seq (.seq (.region [(.op (.faddr 2) [(.tmp 1)] (some 5) true),(.op .load1 [(.tmp 5)] (some 6) true),(.op .len [(.tmp 6)] (some 7) true),(.op .mv [(.const (.int .i64 0))] (some 8) true)] false) (.block 0 (.loop H180_2 L180_2))) (.seq (.region [(.op (.faddr 0) [(.tmp 1)] (some 25) true),(.op .load1 [(.tmp 25)] (some 26) true),(.pc (.const (.fn 105 [])) [(.tmp 26),(.const (.int .i64 0)),(.const (.int .i64 2))] (some 27) true),(.op .mv [(.tmp 27)] (some 28) true),(.grp 28 true [(.op (.faddr 1) [(.tmp 1)] (some 29) true),(.op .load1 [(.tmp 29)] (some 30) true),(.pc (.const (.fn 105 [])) [(.tmp 30),(.const (.int .i64 0)),(.const (.int .i64 200))] (some 31) true)] 31 32 true),(.op .mv [(.tmp 32)] (some 33) true),(.grp 33 true [(.op (.faddr 2) [(.tmp 1)] (some 34) true),(.op .load1 [(.tmp 34)] (some 35) true),(.op .len [(.tmp 35)] (some 36) true),(.op (.bin .eql) [(.tmp 36),(.const (.int .i64 2))] (some 37) true)] 37 38 true),(.op .mv [(.tmp 38)] (some 39) true),(.grp 39 true [(.op (.faddr 0) [(.tmp 1)] (some 40) true),(.op .load1 [(.tmp 40)] (some 41) true),(.op (.bin .neq) [(.tmp 41),(.const (.int .i64 0))] (some 42) true),(.op .mv [(.tmp 42)] (some 43) true),(.grp 43 false [(.op (.faddr 1) [(.tmp 1)] (some 44) true),(.op .load1 [(.tmp 44)] (some 45) true),(.op (.bin .eql) [(.tmp 45),(.const (.int .i64 0))] (some 46) true)] 46 47 true)] 47 48 true),(.op .mv [(.tmp 48)] (some 2) true)] false) .ret))),[(.tmp 2)],49,.one,none⟩
theorem t180 : T 180 = some F180 := tab Tryz.func180 (by kernel_rfl) rfl
def H181_4 : List Vw := [.tidy [1, 19, 20, 21] [(1, none), (19, none), (20, none), (21, none)]]
theorem h181_4 (b : Nat) (s : St) : vwL b H181_4 s = vwL b [.tidy [1, 19, 20, 21] [(1, none), (19, none), (20, none), (21, none)]] s := rfl
def L181_4 : EC := (.seq (.region [(.op (.bin .lss) [(.tmp 21),(.tmp 20)] (some 22) true)] false) (.seq (.cond (.tmp 22) .skip (.exit 0)) (.seq (.block 1 (.seq (.region [(.op .mv [(.tmp 21)] (some 23) true),(.op (.iaddr 2) [(.tmp 19),(.tmp 21)] (some 24) true),(.op (.loadN 2) [(.tmp 24)] (some 25) true),(.op (.alloc (.agg [(.str ⟨#[]⟩),(.int .i64 0)])) [] (some 4) true),(.op .mv [(.tmp 23)] (some 3) true),(.op (.storeN 2) [(.tmp 4),(.tmp 25)] none true)] false) (.seq (.seq (.region [(.op (.loadN 2) [(.tmp 4)] (some 26) true),(.op (.build [(.str ⟨#[]⟩),(.int .i64 0)] []) [] (some 27) true),(.op (.eqs false [2,1]) [(.tmp 26),(.tmp 27)] (some 28) true)] false) (.cond (.tmp 28) (.exit 1) .skip)) (.seq (.region [(.op (.faddr 0) [(.tmp 4)] (some 29) true),(.op .load1 [(.tmp 29)] (some 30) true),(.pc (.const (.fn 211 [])) [(.tmp 30)] (some 31) true),(.op .not [(.tmp 31)] (some 32) true),(.op .mv [(.tmp 32)] (some 33) true),(.grp 33 false [(.op (.faddr 1) [(.tmp 4)] (some 34) true),(.op .load1 [(.tmp 34)] (some 35) true),(.pc (.const (.fn 208 [])) [(.tmp 35)] (some 36) true),(.op .not [(.tmp 36)] (some 37) true)] 37 38 true),(.op .mv [(.tmp 38)] (some 39) true),(.grp 39 false [(.op (.loadN 3) [(.tmp 1)] (some 40) true),(.op (.faddr 0) [(.tmp 4)] (some 41) true),(.op .load1 [(.tmp 41)] (some 42) true),(.pc (.const (.fn 235 [])) [(.tmp 40),(.tmp 42)] (some 43) true),(.op .mv [(.tmp 3)] (some 44) true),(.op (.bin .neq) [(.tmp 43),(.tmp 44)] (some 45) true)] 45 46 true)] false) (.cond (.tmp 46) (.seq (.region [(.op .mv [(.const (.bool false))] (some 2) true)] false) .ret) .skip))))) (.region [(.op (.bin .add) [(.tmp 21),(.const (.int .i64 1))] (some 47) true),(.op .mv [(.tmp 47)] (some 21) true)] false))))
def F181 : EF := ⟨(.seq (.region [(.op (.box 3) [(.tmp 0)] (some 1) true),(.op .mv [(.const (.bool false))] (some 2) true)] false) (.seq (.seq (.region [(.op (.faddr 0) [(.tmp 1)] (some 5) true),(.op .load1 [(.tmp 5)] (some 6) true),(.op .not [(.tmp 6)] (some 7) true)] false) (.cond (.tmp 7) (.seq (.region [(.op (.faddr 1) [(.tmp 1)] (some 8) true),(.op .load1 [(.tmp 8)] (some 9) true),(.op .len [(.tmp 9)] (some 10) true),(.op (.bin .eql) [(.tmp 10),(.const (.int .i64 0))] (some 11) true),(.op .mv [(.tmp 11)] (some 12) true),(.grp 12 true [(.op (.faddr 2) [(.tmp 1)] (some 13) true),(.op .load1 [(.tmp 13)] (some 14) true),(.op .lenStr [(.tmp 14)] (some 15) true),(.op (.bin .leq) [(.tmp 15),(.const (.int .i64 16))] (some 16) true)] 16 17 true),(.op .mv [(.tmp 17)] (some 2) true)] false) .ret) .skip)) (.seq (.seq (.region [(.op (.faddr 1) [(.tmp 1)] (some 18) true),(.op .load1 [(.tmp 18)] (some 19) true),(.op .len [(.tmp 19)] (some 20) true),(.op .mv [(.const (.int .i64 0))] (some 21) true)] false) (.block 0 (.loop H181_4 L181_4))) (.seq (.region [(.op (.faddr 1) [(.tmp 1)] (some 48) true),(.op .load1 [(.tmp 48)] (some 49) true),(.op .len [(.tmp 49)] (some 50) true),(.op (.bin .eql) [(.tmp 50),(.const (.int .i64 4))] (some 51) true),(.op .mv [(.tmp 51)] (some 52) true),(.grp 52 true [(.op (.faddr 2) [(.tmp 1)] (some 53) true),(.op .load1 [(.tmp 53)] (some 54) true),(.op (.bin .eql) [(.tmp 54),(.const (.str ⟨#[]⟩))] (some 55) true)] 55 56 true),(.op .mv [(.tmp 56)] (some 2) true)] false) .ret)))),[(.tmp 2)],57,.one,none⟩
theorem t181 : T 181 = some F181 := tab Tryz.func181 (by kernel_rfl) rfl
def F182 : EF := ⟨(.seq (.region [(.op (.box 2) [(.tmp 0)] (some 1) true),(.op .mv [(.const (.bool false))] (some 2) true)] false) (.seq (.region [(.op (.faddr 0) [(.tmp 1)] (some 3) true),(.op .load1 [(.tmp 3)] (some 4) true),(.op .len [(.tmp 4)] (some 5) true),(.op (.bin .eql) [(.tmp 5),(.const (.int .i64 16))] (some 6) true),(.op .mv [(.tmp 6)] (some 7) true),(.grp 7 true [(.op (.faddr 1) [(.tmp 1)] (some 8) true),(.op .load1 [(.tmp 8)] (some 9) true),(.op .len [(.tmp 9)] (some 10) true),(.op (.bin .eql) [(.tmp 10),(.const (.int .i64 8))] (some 11) true)] 11 12 true),(.op .mv [(.tmp 12)] (some 2) true)] false) .ret)),[(.tmp 2)],13,.one,none⟩
theorem t182 : T 182 = some F182 := tab Tryz.func182 (by kernel_rfl) rfl
def F208 : EF := ⟨(.seq (.region [(.op .mv [(.const (.bool false))] (some 2) true)] false) (.seq (.region [(.op .mv [(.tmp 0)] (some 3) true),(.pc (.const (.fn 105 [])) [(.tmp 3),(.const (.int .i64 1)),(.const (.int .i64 8))] (some 4) true),(.op .mv [(.tmp 4)] (some 2) true)] false) .ret)),[(.tmp 2)],5,.one,none⟩
theorem t208 : T 208 = some F208 := tab Tryz.func208 (by kernel_rfl) rfl
def H211_2 : List Vw := [.tidy [0, 5, 6] [(0, none), (5, none), (6, none)]]
theorem h211_2 (b : Nat) (s : St) : vwL b H211_2 s = vwL b [.tidy [0, 5, 6] [(0, none), (5, none), (6, none)]] s := rfl
def L211_2 : EC := (.seq (.region [(.op (.bin .lss) [(.tmp 6),(.tmp 5)] (some 7) true)] false) (.seq (.cond (.tmp 7) .skip (.exit 0)) (.seq (.block 1 (.seq (.region [(.op .mv [(.tmp 6)] (some 8) true),(.op .mv [(.tmp 8)] (some 3) true)] false) (.seq (.region [(.op .mv [(.tmp 0)] (some 9) true),(.op .mv [(.tmp 3)] (some 10) true),(.op .idxStr [(.tmp 9),(.tmp 10)] (some 11) true),(.op (.conv .i64) [(.tmp 11)] (some 12) true),(.pc (.const (.fn 105 [])) [(.tmp 12),(.const (.int .i64 97)),(.const (.int .i64 122))] (some 13) true),(.op .not [(.tmp 13)] (some 14) true),(.op .mv [(.tmp 14)] (some 15) true),(.grp 15 true [(.op .mv [(.tmp 0)] (some 16) true),(.op .mv [(.tmp 3)] (some 17) true),(.op .idxStr [(.tmp 16),(.tmp 17)] (some 18) true),(.op (.conv .i64) [(.tmp 18)] (some 19) true),(.pc (.const (.fn 105 [])) [(.tmp 19),(.const (.int .i64 48)),(.const (.int .i64 57))] (some 20) true),(.op .not [(.tmp 20)] (some 21) true)] 21 22 true)] false) (.cond (.tmp 22) (.seq (.region [(.op .mv [(.const (.bool false))] (some 2) true)] false) .ret) .skip)))) (.region [(.op (.bin .add) [(.tmp 6),(.const (.int .i64 1))] (some 23) true),(.op .mv [(.tmp 23)] (some 6) true)] false))))
def F211 : EF := ⟨(.seq (.region [(.op .mv [(.const (.bool false))] (some 2) true)] false) (.seq (.seq (.region [(.op .mv [(.tmp 0)] (some 4) true),(.op .lenStr [(.tmp 4)] (some 5) true),(.op .mv [(.const (.int .i64 0))] (some 6) true)] false) (.block 0 (.loop H211_2 L211_2))) (.seq (.region [(.op .mv [(.tmp 0)] (some 24) true),(.op .lenStr [(.tmp 24)] (some 25) true),(.pc (.const (.fn 105 [])) [(.tmp 25),(.const (.int .i64 1)),(.const (.int .i64 6))] (some 26) true),(.op .mv [(.tmp 26)] (some 2) true)] false) .ret))),[(.tmp 2)],27,.one,none⟩
theorem t211 : T 211 = some F211 := tab Tryz.func211 (by kernel_rfl) rfl
def F235 : EF := ⟨(.seq (.region [(.op (.box 3) [(.tmp 0)] (some 2) true),(.op (.box 1) [(.tmp 1)] (some 3) true),(.op .mv [(.const (.int .i64 0))] (some 4) true)] false) (.seq (.seq (.region [(.op .load1 [(.tmp 3)] (some 5) true),(.op (.bin .eql) [(.tmp 5),(.const (.str ⟨#[]⟩))] (some 6) true)] false) (.cond (.tmp 6) (.seq (.region [(.op .mv [(.const (.int .i64 (-1)))] (some 4) true)] false) .ret) .skip)) (.seq (.region [(.op (.faddr 1) [(.tmp 2)] (some 7) true),(.op .load1 [(.tmp 7)] (some 8) true),(.op (.mkfn 263) [(.tmp 3)] (some 9) true),(.pc (.const (.fn 262 [])) [(.tmp 8),(.tmp 9)] (some 10) true),(.op .mv [(.tmp 10)] (some 4) true)] false) .ret))),[(.tmp 4)],11,.one,none⟩
theorem t235 : T 235 = some F235 := tab Tryz.func235 (by kernel_rfl) rfl
def H262_2 : List Vw := [.tidy [0, 1, 7, 8] [(0, none), (1, none), (7, none), (8, none)]]
theorem h262_2 (b : Nat) (s : St) : vwL b H262_2 s = vwL b [.tidy [0, 1, 7, 8] [(0, none), (1, none), (7, none), (8, none)]] s := rfl
def L262_2 : EC := (.seq (.region [(.op (.bin .lss) [(.tmp 8),(.tmp 7)] (some 9) true)] false) (.seq (.cond (.tmp 9) .skip (.exit 0)) (.seq (.block 1 (.seq (.region [(.op .mv [(.tmp 8)] (some 10) true),(.op .mv [(.tmp 10)] (some 5) true)] false) (.seq (.region [(.op .mv [(.tmp 1)] (some 11) true),(.op .mv [(.tmp 0)] (some 12) true),(.op .mv [(.tmp 5)] (some 13) true),(.op (.iaddr 2) [(.tmp 12),(.tmp 13)] (some 14) true),(.op (.loadN 2) [(.tmp 14)] (some 15) true),(.pc (.tmp 11) [(.tmp 15)] (some 16) true)] false) (.cond (.tmp 16) (.seq (.region [(.op .mv [(.tmp 5)] (some 17) true),(.op .mv [(.tmp 17)] (some 4) true)] false) .ret) .skip)))) (.region [(.op (.bin .add) [(.tmp 8),(.const (.int .i64 1))] (some 18) true),(.op .mv [(.tmp 18)] (some 8) true)] false))))
def F262 : EF := ⟨(.seq (.region [(.op .mv [(.const (.int .i64 0))] (some 4) true)] false) (.seq (.seq (.region [(.op .mv [(.tmp 0)] (some 6) true),(.op .len [(.tmp 6)] (some 7) true),(.op .mv [(.const (.int .i64 0))] (some 8) true)] false) (.block 0 (.loop H262_2 L262_2))) (.seq (.region [(.op .mv [(.const (.int .i64 (-1)))] (some 4) true)] false) .ret))),[(.tmp 4)],19,.one,none⟩
theorem t262 : T 262 = some F262 := tab Tryz.func262 (by kernel_rfl) rfl
def F263 : EF := ⟨(.seq (.region [(.op (.box 2) [(.tmp 0)] (some 2) true),(.op .mv [(.const (.bool false))] (some 3) true)] false) (.seq (.region [(.op (.faddr 0) [(.tmp 2)] (some 4) true),(.op .load1 [(.tmp 4)] (some 5) true),(.op .load1 [(.tmp 1)] (some 6) true),(.op (.bin .eql) [(.tmp 5),(.tmp 6)] (some 7) true),(.op .mv [(.tmp 7)] (some 3) true)] false) .ret)),[(.tmp 3)],8,.one,none⟩
theorem t263 : T 263 = some F263 := tab Tryz.func263 (by kernel_rfl) rfl
def H75_4 : List Vw := [.tidy [1, 3] [(1, none), (3, none)]]
theorem h75_4 (b : Nat) (s : St) : vwL b H75_4 s = vwL b [.tidy [1, 3] [(1, none), (3, none)]] s := rfl
def L75_4 : EC := (.seq (.seq (.region [(.op .mv [(.tmp 3)] (some 21) true),(.op (.faddr 2) [(.tmp 1)] (some 22) true),(.op .load1 [(.tmp 22)] (some 23) true),(.op .len [(.tmp 23)] (some 24) true),(.op (.bin .lss) [(.tmp 21),(.tmp 24)] (some 25) true)] false) (.cond (.tmp 25) .skip (.exit 0))) (.seq (.block 1 (.seq (.region [(.op (.faddr 2) [(.tmp 1)] (some 28) true),(.op .load1 [(.tmp 28)] (some 29) true),(.op .mv [(.tmp 3)] (some 30) true),(.op (.iaddr 3) [(.tmp 29),(.tmp 30)] (some 31) true),(.op (.loadN 3) [(.tmp 31)] (some 32) true),(.pc (.const (.fn 173 [])) [(.tmp 32)] (some 33) true),(.op .not [(.tmp 33)] (some 34) true)] false) (.cond (.tmp 34) (.seq (.region [(.op .mv [(.const (.bool false))] (some 2) true)] false) .ret) .skip))) (.region [(.op .mv [(.tmp 3)] (some 26) true),(.op (.bin .add) [(.tmp 26),(.const (.int .i64 1))] (some 27) true),(.op .mv [(.tmp 27)] (some 3) true)] false)))
def H75_10 : List Vw := [.tidy [1, 4] [(1, none), (4, none)]]
theorem h75_10 (b : Nat) (s : St) : vwL b H75_10 s = vwL b [.tidy [1, 4] [(1, none), (4, none)]] s := rfl
def L75_10 : EC := (.seq (.seq (.region [(.op .mv [(.tmp 4)] (some 35) true),(.op (.faddr 3) [(.tmp 1)] (some 36) true),(.op .load1 [(.tmp 36)] (some 37) true),(.op .len [(.tmp 37)] (some 38) true),(.op (.bin .lss) [(.tmp 35),(.tmp 38)] (some 39) true)] false) (.cond (.tmp 39) .skip (.exit 2))) (.seq (.block 3 (.seq (.region [(.op (.faddr 3) [(.tmp 1)] (some 42) true),(.op .load1 [(.tmp 42)] (some 43) true),(.op .mv [(.tmp 4)] (some 44) true),(.op (.iaddr 3) [(.tmp 43),(.tmp 44)] (some 45) true),(.op (.loadN 3) [(.tmp 45)] (some 46) true),(.pc (.const (.fn 174 [])) [(.tmp 46)] (some 47) true),(.op .not [(.tmp 47)] (some 48) true)] false) (.cond (.tmp 48) (.seq (.region [(.op .mv [(.const (.bool false))] (some 2) true)] false) .ret) .skip))) (.region [(.op .mv [(.tmp 4)] (some 40) true),(.op (.bin .add) [(.tmp 40),(.const (.int .i64 1))] (some 41) true),(.op .mv [(.tmp 41)] (some 4) true)] false)))
def F75 : EF := ⟨(.seq (.region [(.op (.box 4) [(.tmp 0)] (some 1) true),(.op .mv [(.const (.bool false))] (some 2) true)] false) (.seq (.seq (.region [(.op (.faddr 0) [(.tmp 1)] (some 5) true),(.op (.loadN 2) [(.tmp 5)] (some 6) true),(.pc (.const (.fn 172 [])) [(.tmp 6)] (some 7) true),(.op .not [(.tmp 7)] (some 8) true),(.op .mv [(.tmp 8)] (some 9) true),(.grp 9 false [(.op (.faddr 2) [(.tmp 1)] (some 10) true),(.op .load1 [(.tmp 10)] (some 11) true),(.op .len [(.tmp 11)] (some 12) true),(.op (.bin .neq) [(.tmp 12),(.const (.int .i64 8))] (some 13) true)] 13 14 true),(.op .mv [(.tmp 14)] (some 15) true),(.grp 15 false [(.op (.faddr 3) [(.tmp 1)] (some 16) true),(.op .load1 [(.tmp 16)] (some 17) true),(.op .len [(.tmp 17)] (some 18) true),(.op (.bin .neq) [(.tmp 18),(.const (.int .i64 16))] (some 19) true)] 19 20 true)] false) (.cond (.tmp 20) (.seq (.region [(.op .mv [(.const (.bool false))] (some 2) true)] false) .ret) .skip)) (.seq (.seq (.region [(.op .mv [(.const (.int .i64 0))] (some 3) true)] false) (.block 0 (.loop H75_4 L75_4))) (.seq (.seq (.region [(.op .mv [(.const (.int .i64 0))] (some 4) true)] false) (.block 2 (.loop H75_10 L75_10))) (.seq (.region [(.op .mv [(.const (.bool true))] (some 2) true)] false) .ret))))),[(.tmp 2)],49,.one,none⟩
theorem t75 : T 75 = some F75 := tab Tryz.func75 (by kernel_rfl) rfl
def H84_2 : List Vw := [.tidy [1, 8, 9, 10] [(1, none), (8, none), (9, none), (10, none)]]
theorem h84_2 (b : Nat) (s : St) : vwL b H84_2 s = vwL b [.tidy [1, 8, 9, 10] [(1, none), (8, none), (9, none), (10, none)]] s := rfl
def L84_2 : EC := (.seq (.region [(.op (.bin .lss) [(.tmp 10),(.tmp 9)] (some 11) true)] false) (.seq (.cond (.tmp 11) .skip (.exit 0)) (.seq (.block 1 (.seq (.region [(.op (.iaddr 3) [(.tmp 8),(.tmp 10)] (some 12) true),(.op (.loadN 3) [(.tmp 12)] (some 13) true),(.op (.alloc (.agg [(.int .i64 0),(.int .i64 0),.nil])) [] (some 4) true),(.op (.storeN 3) [(.tmp 4),(.tmp 13)] none true)] false) (.seq (.region [(.op (.loadN 3) [(.tmp 4)] (some 14) true),(.pc (.const (.fn 180 [])) [(.tmp 14)] (some 15) true),(.op .not [(.tmp 15)] (some 16) true)] false) (.cond (.tmp 16) (.seq (.region [(.op .mv [(.const (.bool false))] (some 2) true)] false) .ret) .skip)))) (.region [(.op (.bin .add) [(.tmp 10),(.const (.int .i64 1))] (some 17) true),(.op .mv [(.tmp 17)] (some 10) true)] false))))
def H84_9 : List Vw := [.tidy [1, 19, 20, 21] [(1, none), (19, none), (20, none), (21, none)]]
theorem h84_9 (b : Nat) (s : St) : vwL b H84_9 s = vwL b [.tidy [1, 19, 20, 21] [(1, none), (19, none), (20, none), (21, none)]] s := rfl
def L84_9 : EC := (.seq (.region [(.op (.bin .lss) [(.tmp 21),(.tmp 20)] (some 22) true)] false) (.seq (.cond (.tmp 22) .skip (.exit 2)) (.seq (.block 3 (.seq (.region [(.op (.iaddr 3) [(.tmp 19),(.tmp 21)] (some 23) true),(.op (.loadN 3) [(.tmp 23)] (some 24) true),(.op (.alloc (.agg [(.bool false),.nil,(.str ⟨#[]⟩)])) [] (some 6) true),(.op (.storeN 3) [(.tmp 6),(.tmp 24)] none true)] false) (.seq (.region [(.op (.loadN 3) [(.tmp 6)] (some 25) true),(.pc (.const (.fn 181 [])) [(.tmp 25)] (some 26) true),(.op .not [(.tmp 26)] (some 27) true)] false) (.cond (.tmp 27) (.seq (.region [(.op .mv [(.const (.bool false))] (some 2) true)] false) .ret) .skip)))) (.region [(.op (.bin .add) [(.tmp 21),(.const (.int .i64 1))] (some 28) true),(.op .mv [(.tmp 28)] (some 21) true)] false))))
def F84 : EF := ⟨(.seq (.region [(.op (.box 4) [(.tmp 0)] (some 1) true),(.op .mv [(.const (.bool false))] (some 2) true)] false) (.seq (.seq (.region [(.op (.faddr 2) [(.tmp 1)] (some 7) true),(.op .load1 [(.tmp 7)] (some 8) true),(.op .len [(.tmp 8)] (some 9) true),(.op .mv [(.const (.int .i64 0))] (some 10) true)] false) (.block 0 (.loop H84_2 L84_2))) (.seq (.seq (.region [(.op (.faddr 3) [(.tmp 1)] (some 18) true),(.op .load1 [(.tmp 18)] (some 19) true),(.op .len [(.tmp 19)] (some 20) true),(.op .mv [(.const (.int .i64 0))] (some 21) true)] false) (.block 2 (.loop H84_9 L84_9))) (.seq (.region [(.op (.faddr 0) [(.tmp 1)] (some 29) true),(.op (.loadN 2) [(.tmp 29)] (some 30) true),(.pc (.const (.fn 182 [])) [(.tmp 30)] (some 31) true),(.op .mv [(.tmp 31)] (some 32) true),(.grp 32 true [(.op (.faddr 2) [(.tmp 1)] (some 33) true),(.op .load1 [(.tmp 33)] (some 34) true),(.op .len [(.tmp 34)] (some 35) true),(.op (.bin .eql) [(.tmp 35),(.const (.int .i64 8))] (some 36) true)] 36 37 true),(.op .mv [(.tmp 37)] (some 38) true),(.grp 38 true [(.op (.faddr 3) [(.tmp 1)] (some 39) true),(.op .load1 [(.tmp 39)] (some 40) true),(.op .len [(.tmp 40)] (some 41) true),(.op (.bin .eql) [(.tmp 41),(.const (.int .i64 16))] (some 42) true)] 42 43 true),(.op .mv [(.tmp 43)] (some 2) true)] false) .ret)))),[(.tmp 2)],44,.one,none⟩
theorem t84 : T 84 = some F84 := tab Tryz.func84 (by kernel_rfl) rfl
end Go.Proofs.YtaaajjinpppgeaaGreat
namespace Go.Proofs.YtaaajjinpppgeaaGreat
open Go Go.Abs
set_option maxRecDepth 100000
def F112 : EF := ⟨(.seq (.region [(.op (.box 3) [(.tmp 0)] (some 1) true),(.op (.alloc (.agg [(.bool false),.nil,(.str ⟨#[]⟩)])) [] (some 2) true)] false) (.seq (.region [(.op (.bslice 2 0 (.agg [(.str ⟨#[]⟩),(.int .i64 0)]) []) [] (some 3) true),(.op (.faddr 1) [(.tmp 1)] (some 4) true),(.op .load1 [(.tmp 4)] (some 5) true),(.op (.append 2 24) [(.tmp 3),(.tmp 5)] (some 6) true),(.op (.faddr 1) [(.tmp 1)] (some 7) true),(.op .store1 [(.tmp 7),(.tmp 6)] none true)] false) (.seq (.region [(.op (.loadN 3) [(.tmp 1)] (some 8) true),(.op (.storeN 3) [(.tmp 2),(.tmp 8)] none true)] false) .ret))),[(.cell 2 (.loadN 3))],9,(.agg [.one,.row 2 .one,.one]),none⟩
theorem t112 : T 112 = some F112 := tab Tryz.func112 (by kernel_rfl) rfl
def F110 : EF := ⟨(.seq (.region [(.op (.box 3) [(.tmp 0)] (some 1) true),(.op (.alloc (.agg [(.bool false),.nil,(.str ⟨#[]⟩)])) [] (some 2) true)] false) (.seq (.region [(.op (.bslice 2 0 (.agg [(.str ⟨#[]⟩),(.int .i64 0)]) []) [] (some 3) true),(.op (.faddr 1) [(.tmp 1)] (some 4) true),(.op .load1 [(.tmp 4)] (some 5) true),(.op (.append 2 24) [(.tmp 3),(.tmp 5)] (some 6) true),(.op (.faddr 1) [(.tmp 1)] (some 7) true),(.op .store1 [(.tmp 7),(.tmp 6)] none true)] false) (.seq (.region [(.op (.loadN 3) [(.tmp 1)] (some 8) true),(.op (.storeN 3) [(.tmp 2),(.tmp 8)] none true)] false) .ret))),[(.cell 2 (.loadN 3))],9,(.agg [.one,.row 2 .one,.one]),none⟩
theorem t110 : T 110 = some F110 := tab Tryz.func110 (by kernel_rfl) rfl
def F111 : EF := ⟨(.seq (.region [(.op (.box 4) [(.tmp 0)] (some 2) true),(.op (.alloc (.agg [(.bool false),.nil,(.str ⟨#[]⟩)])) [] (some 4) true)] false) (.seq (.seq (.region [(.op .mv [(.tmp 1)] (some 5) true),(.op (.faddr 3) [(.tmp 2)] (some 6) true),(.op .load1 [(.tmp 6)] (some 7) true),(.op .len [(.tmp 7)] (some 8) true),(.pc (.const (.fn 105 [])) [(.tmp 5),(.const (.int .i64 1)),(.tmp 8)] (some 9) true),(.op .not [(.tmp 9)] (some 10) true)] false) (.cond (.tmp 10) (.seq (.region [(.op (.build [(.bool false),.nil,(.str ⟨#[]⟩)] []) [] (some 11) true),(.op (.storeN 3) [(.tmp 4),(.tmp 11)] none true)] false) .ret) .skip)) (.seq (.region [(.op (.faddr 3) [(.tmp 2)] (some 12) true),(.op .load1 [(.tmp 12)] (some 13) true),(.op .mv [(.tmp 1)] (some 14) true),(.op (.bin .sub) [(.tmp 14),(.const (.int .i64 1))] (some 15) true),(.op (.iaddr 3) [(.tmp 13),(.tmp 15)] (some 16) true),(.op (.loadN 3) [(.tmp 16)] (some 17) true),(.op (.storeN 3) [(.tmp 4),(.tmp 17)] none true)] false) .ret))),[(.cell 4 (.loadN 3))],18,(.agg [.one,.rrow 2,.one]),none⟩
theorem t111 : T 111 = some F111 := tab Tryz.func111 (by kernel_rfl) rfl
end Go.Proofs.YtaaajjinpppgeaaGreat
