/- Part 1 of the texts of a claim, joined by a program of ours (Ty, So, Cf, Fd, Gs, Da, Db, Dc). No condition. -/
import Derived.Test.YtaaajjinpppgeaaProg
import Derived.Test.YtaaajjinpppgeaaA4
import Derived.KernelRfl
import Derived.Shelf.Sort.Plain
import Derived.Shelf.Slices.In.SortNone
import Derived.Test.YtaaajjinpppgeaaA5
set_option linter.unusedVariables false
set_option linter.unusedSimpArgs false
set_option linter.unusedSectionVars false
/- The types of the program, as the compact code wants them. Own work (printed by a program of ours); no condition. -/
namespace Go.Proofs.Ytaaajjinpppgeaa
open Go Go.Abs
def tt : Types := [
  (1, ⟨.func, 1, 8, .undef⟩),
  (2, ⟨(.int .i64), 1, 8, (.int .i64 0)⟩),
  (3, ⟨(.int .i64), 1, 8, (.int .i64 0)⟩),
  (4, ⟨.bool, 1, 1, (.bool false)⟩),
  (5, ⟨(.int .u8), 1, 1, (.int .u8 0)⟩),
  (6, ⟨(.int .u8), 1, 1, (.int .u8 0)⟩),
  (7, ⟨(.struct [(0, 2), (1, 3), (2, 4), (3, 6)]), 4, 24, (.agg [(.int .i64 0), (.int .i64 0), (.bool false), (.int .u8 0)])⟩),
  (8, ⟨(.struct [(0, 2), (1, 3), (2, 4), (3, 6)]), 4, 24, (.agg [(.int .i64 0), (.int .i64 0), (.bool false), (.int .u8 0)])⟩),
  (9, ⟨.str, 1, 16, (.str ⟨#[]⟩)⟩),
  (10, ⟨.str, 1, 16, (.str ⟨#[]⟩)⟩),
  (11, ⟨.str, 1, 16, (.str ⟨#[]⟩)⟩),
  (12, ⟨(.int .u64), 1, 8, (.int .u64 0)⟩),
  (13, ⟨(.struct [(0, 9), (1, 12)]), 2, 24, (.agg [(.str ⟨#[]⟩), (.int .u64 0)])⟩),
  (14, ⟨(.struct [(0, 9), (1, 12)]), 2, 24, (.agg [(.str ⟨#[]⟩), (.int .u64 0)])⟩),
  (15, ⟨.ptr, 1, 8, .undef⟩),
  (16, ⟨.ptr, 1, 8, .undef⟩),
  (17, ⟨.ptr, 1, 8, .undef⟩),
  (18, ⟨(.struct [(0, 17)]), 1, 8, (.agg [.undef])⟩),
  (19, ⟨(.struct [(0, 17)]), 1, 8, (.agg [.undef])⟩),
  (21, ⟨(.int .i32), 1, 4, (.int .i32 0)⟩),
  (22, ⟨(.struct [(0, 3), (1, 9), (2, 9), (3, 3), (4, 9)]), 5, 64, (.agg [(.int .i64 0), (.str ⟨#[]⟩), (.str ⟨#[]⟩), (.int .i64 0), (.str ⟨#[]⟩)])⟩),
  (23, ⟨(.struct [(0, 3), (1, 9), (2, 9), (3, 3), (4, 9)]), 5, 64, (.agg [(.int .i64 0), (.str ⟨#[]⟩), (.str ⟨#[]⟩), (.int .i64 0), (.str ⟨#[]⟩)])⟩),
  (24, ⟨.func, 1, 8, .undef⟩),
  (25, ⟨.func, 1, 8, .undef⟩),
  (26, ⟨(.struct [(0, 3), (1, 9), (2, 9), (3, 3), (4, 9)]), 5, 64, (.agg [(.int .i64 0), (.str ⟨#[]⟩), (.str ⟨#[]⟩), (.int .i64 0), (.str ⟨#[]⟩)])⟩),
  (27, ⟨.func, 1, 8, .undef⟩),
  (28, ⟨.func, 1, 8, .undef⟩),
  (29, ⟨(.slice 121), 1, 24, .nil⟩),
  (30, ⟨.func, 1, 8, .undef⟩),
  (31, ⟨.func, 1, 8, .undef⟩),
  (32, ⟨(.slice 122), 1, 24, .nil⟩),
  (33, ⟨.func, 1, 8, .undef⟩),
  (34, ⟨.func, 1, 8, .undef⟩),
  (35, ⟨(.slice 4), 1, 24, .nil⟩),
  (36, ⟨(.struct [(0, 35), (1, 35)]), 2, 48, (.agg [.nil, .nil])⟩),
  (37, ⟨(.struct [(0, 35), (1, 35)]), 2, 48, (.agg [.nil, .nil])⟩),
  (38, ⟨(.slice 192), 1, 24, .nil⟩),
  (39, ⟨(.slice 196), 1, 24, .nil⟩),
  (40, ⟨(.struct [(0, 37), (2, 38), (3, 39)]), 4, 96, (.agg [.nil, .nil, .nil, .nil])⟩),
  (41, ⟨(.struct [(0, 37), (2, 38), (3, 39)]), 4, 96, (.agg [.nil, .nil, .nil, .nil])⟩),
  (42, ⟨.func, 1, 8, .undef⟩),
  (43, ⟨.func, 1, 8, .undef⟩),
  (44, ⟨(.struct [(0, 35), (1, 35)]), 2, 48, (.agg [.nil, .nil])⟩),
  (45, ⟨(.slice 65), 1, 24, .nil⟩),
  (46, ⟨(.slice 73), 1, 24, .nil⟩),
  (47, ⟨(.struct [(0, 44), (2, 45), (3, 46)]), 4, 96, (.agg [.nil, .nil, .nil, .nil])⟩),
  (48, ⟨(.struct [(0, 44), (2, 45), (3, 46)]), 4, 96, (.agg [.nil, .nil, .nil, .nil])⟩),
  (49, ⟨.func, 1, 8, .undef⟩),
  (50, ⟨.func, 1, 8, .undef⟩),
  (51, ⟨.func, 1, 8, .undef⟩),
  (52, ⟨(.slice 95), 1, 24, .nil⟩),
  (53, ⟨(.struct [(0, 41), (4, 35), (5, 52), (6, 3)]), 7, 152, (.agg [.nil, .nil, .nil, .nil, .nil, .nil, (.int .i64 0)])⟩),
  (54, ⟨(.struct [(0, 41), (4, 35), (5, 52), (6, 3)]), 7, 152, (.agg [.nil, .nil, .nil, .nil, .nil, .nil, (.int .i64 0)])⟩),
  (55, ⟨.func, 1, 8, .undef⟩),
  (56, ⟨.func, 1, 8, .undef⟩),
  (57, ⟨(.slice 99), 1, 24, .nil⟩),
  (58, ⟨(.struct [(0, 48), (4, 35), (5, 57), (6, 3)]), 7, 152, (.agg [.nil, .nil, .nil, .nil, .nil, .nil, (.int .i64 0)])⟩),
  (59, ⟨(.struct [(0, 48), (4, 35), (5, 57), (6, 3)]), 7, 152, (.agg [.nil, .nil, .nil, .nil, .nil, .nil, (.int .i64 0)])⟩),
  (60, ⟨.func, 1, 8, .undef⟩),
  (61, ⟨.func, 1, 8, .undef⟩),
  (62, ⟨.func, 1, 8, .undef⟩),
  (63, ⟨(.slice 3), 1, 24, .nil⟩),
  (64, ⟨(.struct [(0, 3), (1, 3), (2, 63)]), 3, 40, (.agg [(.int .i64 0), (.int .i64 0), .nil])⟩),
  (65, ⟨(.struct [(0, 3), (1, 3), (2, 63)]), 3, 40, (.agg [(.int .i64 0), (.int .i64 0), .nil])⟩),
  (66, ⟨.func, 1, 8, .undef⟩),
  (67, ⟨.func, 1, 8, .undef⟩),
  (68, ⟨.func, 1, 8, .undef⟩),
  (69, ⟨.func, 1, 8, .undef⟩),
  (70, ⟨.func, 1, 8, .undef⟩),
  (71, ⟨(.slice 147), 1, 24, .nil⟩),
  (72, ⟨(.struct [(0, 4), (1, 71), (2, 9)]), 3, 48, (.agg [(.bool false), .nil, (.str ⟨#[]⟩)])⟩),
  (73, ⟨(.struct [(0, 4), (1, 71), (2, 9)]), 3, 48, (.agg [(.bool false), .nil, (.str ⟨#[]⟩)])⟩),
  (74, ⟨.func, 1, 8, .undef⟩),
  (75, ⟨.func, 1, 8, .undef⟩),
  (76, ⟨.func, 1, 8, .undef⟩),
  (77, ⟨.func, 1, 8, .undef⟩),
  (78, ⟨.func, 1, 8, .undef⟩),
  (79, ⟨.func, 1, 8, .undef⟩),
  (80, ⟨(.slice 9), 1, 24, .nil⟩),
  (81, ⟨(.struct [(0, 80)]), 1, 24, (.agg [.nil])⟩),
  (82, ⟨(.struct [(0, 80)]), 1, 24, (.agg [.nil])⟩),
  (83, ⟨(.struct [(0, 54), (7, 82)]), 8, 176, (.agg [.nil, .nil, .nil, .nil, .nil, .nil, (.int .i64 0), .nil])⟩),
  (84, ⟨(.struct [(0, 54), (7, 82)]), 8, 176, (.agg [.nil, .nil, .nil, .nil, .nil, .nil, (.int .i64 0), .nil])⟩),
  (85, ⟨.func, 1, 8, .undef⟩),
  (86, ⟨.func, 1, 8, .undef⟩),
  (87, ⟨(.struct [(0, 80)]), 1, 24, (.agg [.nil])⟩),
  (88, ⟨(.struct [(0, 59), (7, 87)]), 8, 176, (.agg [.nil, .nil, .nil, .nil, .nil, .nil, (.int .i64 0), .nil])⟩),
  (89, ⟨(.struct [(0, 59), (7, 87)]), 8, 176, (.agg [.nil, .nil, .nil, .nil, .nil, .nil, (.int .i64 0), .nil])⟩),
  (90, ⟨.func, 1, 8, .undef⟩),
  (91, ⟨.func, 1, 8, .undef⟩),
  (92, ⟨.func, 1, 8, .undef⟩),
  (93, ⟨.func, 1, 8, .undef⟩),
  (94, ⟨(.struct [(0, 3), (1, 3), (2, 3), (3, 3), (4, 3), (5, 3), (6, 9), (7, 4), (8, 4), (9, 3), (10, 63)]), 11, 104, (.agg [(.int .i64 0), (.int .i64 0), (.int .i64 0), (.int .i64 0), (.int .i64 0), (.int .i64 0), (.str ⟨#[]⟩), (.bool false), (.bool false), (.int .i64 0), .nil])⟩),
  (95, ⟨(.struct [(0, 3), (1, 3), (2, 3), (3, 3), (4, 3), (5, 3), (6, 9), (7, 4), (8, 4), (9, 3), (10, 63)]), 11, 104, (.agg [(.int .i64 0), (.int .i64 0), (.int .i64 0), (.int .i64 0), (.int .i64 0), (.int .i64 0), (.str ⟨#[]⟩), (.bool false), (.bool false), (.int .i64 0), .nil])⟩),
  (96, ⟨.func, 1, 8, .undef⟩),
  (98, ⟨.func, 1, 8, .undef⟩),
  (99, ⟨(.struct [(0, 3), (1, 3), (2, 3), (3, 3), (4, 3), (5, 3), (6, 9), (7, 4), (8, 4), (9, 3), (10, 63)]), 11, 104, (.agg [(.int .i64 0), (.int .i64 0), (.int .i64 0), (.int .i64 0), (.int .i64 0), (.int .i64 0), (.str ⟨#[]⟩), (.bool false), (.bool false), (.int .i64 0), .nil])⟩),
  (100, ⟨.func, 1, 8, .undef⟩),
  (101, ⟨.func, 1, 8, .undef⟩),
  (102, ⟨.func, 1, 8, .undef⟩),
  (103, ⟨.func, 1, 8, .undef⟩),
  (104, ⟨.func, 1, 8, .undef⟩),
  (105, ⟨.func, 1, 8, .undef⟩),
  (106, ⟨.func, 1, 8, .undef⟩),
  (107, ⟨.func, 1, 8, .undef⟩),
  (108, ⟨.func, 1, 8, .undef⟩),
  (109, ⟨.func, 1, 8, .undef⟩),
  (110, ⟨.func, 1, 8, .undef⟩),
  (111, ⟨.func, 1, 8, .undef⟩),
  (113, ⟨.func, 1, 8, .undef⟩),
  (114, ⟨.func, 1, 8, .undef⟩),
  (115, ⟨.func, 1, 8, .undef⟩),
  (116, ⟨.func, 1, 8, .undef⟩),
  (117, ⟨.func, 1, 8, .undef⟩),
  (118, ⟨.func, 1, 8, .undef⟩),
  (119, ⟨.func, 1, 8, .undef⟩),
  (120, ⟨(.struct [(0, 9), (1, 4), (2, 9), (3, 9)]), 4, 56, (.agg [(.str ⟨#[]⟩), (.bool false), (.str ⟨#[]⟩), (.str ⟨#[]⟩)])⟩),
  (121, ⟨(.struct [(0, 9), (1, 4), (2, 9), (3, 9)]), 4, 56, (.agg [(.str ⟨#[]⟩), (.bool false), (.str ⟨#[]⟩), (.str ⟨#[]⟩)])⟩),
  (122, ⟨(.struct [(0, 9), (1, 4), (2, 9), (3, 9)]), 4, 56, (.agg [(.str ⟨#[]⟩), (.bool false), (.str ⟨#[]⟩), (.str ⟨#[]⟩)])⟩),
  (123, ⟨.func, 1, 8, .undef⟩),
  (124, ⟨.func, 1, 8, .undef⟩),
  (125, ⟨.func, 1, 8, .undef⟩),
  (126, ⟨.func, 1, 8, .undef⟩),
  (127, ⟨.func, 1, 8, .undef⟩),
  (128, ⟨.func, 1, 8, .undef⟩),
  (129, ⟨.func, 1, 8, .undef⟩),
  (130, ⟨.func, 1, 8, .undef⟩),
  (131, ⟨.func, 1, 8, .undef⟩),
  (132, ⟨.func, 1, 8, .undef⟩),
  (133, ⟨.func, 1, 8, .undef⟩),
  (134, ⟨.func, 1, 8, .undef⟩),
  (135, ⟨.func, 1, 8, .undef⟩),
  (136, ⟨.func, 1, 8, .undef⟩),
  (137, ⟨.func, 1, 8, .undef⟩),
  (138, ⟨.func, 1, 8, .undef⟩),
  (139, ⟨.func, 1, 8, .undef⟩),
  (140, ⟨.func, 1, 8, .undef⟩),
  (141, ⟨.func, 1, 8, .undef⟩),
  (142, ⟨.func, 1, 8, .undef⟩),
  (143, ⟨.func, 1, 8, .undef⟩),
  (144, ⟨.func, 1, 8, .undef⟩),
  (145, ⟨.func, 1, 8, .undef⟩),
  (146, ⟨(.struct [(0, 9), (1, 3)]), 2, 24, (.agg [(.str ⟨#[]⟩), (.int .i64 0)])⟩),
  (147, ⟨(.struct [(0, 9), (1, 3)]), 2, 24, (.agg [(.str ⟨#[]⟩), (.int .i64 0)])⟩),
  (148, ⟨.func, 1, 8, .undef⟩),
  (149, ⟨.func, 1, 8, .undef⟩),
  (150, ⟨.func, 1, 8, .undef⟩),
  (151, ⟨.func, 1, 8, .undef⟩),
  (152, ⟨.func, 1, 8, .undef⟩),
  (153, ⟨.func, 1, 8, .undef⟩),
  (154, ⟨.func, 1, 8, .undef⟩),
  (155, ⟨.func, 1, 8, .undef⟩),
  (157, ⟨.func, 1, 8, .undef⟩),
  (158, ⟨.func, 1, 8, .undef⟩),
  (159, ⟨.func, 1, 8, .undef⟩),
  (160, ⟨.func, 1, 8, .undef⟩),
  (161, ⟨.func, 1, 8, .undef⟩),
  (162, ⟨.func, 1, 8, .undef⟩),
  (163, ⟨.func, 1, 8, .undef⟩),
  (164, ⟨.func, 1, 8, .undef⟩),
  (165, ⟨.func, 1, 8, .undef⟩),
  (166, ⟨.func, 1, 8, .undef⟩),
  (167, ⟨.func, 1, 8, .undef⟩),
  (168, ⟨.func, 1, 8, .undef⟩),
  (169, ⟨.func, 1, 8, .undef⟩),
  (170, ⟨.func, 1, 8, .undef⟩),
  (171, ⟨.func, 1, 8, .undef⟩),
  (172, ⟨.func, 1, 8, .undef⟩),
  (173, ⟨.func, 1, 8, .undef⟩),
  (174, ⟨.func, 1, 8, .undef⟩),
  (175, ⟨.func, 1, 8, .undef⟩),
  (176, ⟨.ptr, 1, 8, .undef⟩),
  (177, ⟨.func, 1, 8, .undef⟩),
  (179, ⟨.func, 1, 8, .undef⟩),
  (180, ⟨.func, 1, 8, .undef⟩),
  (181, ⟨.func, 1, 8, .undef⟩),
  (182, ⟨.func, 1, 8, .undef⟩),
  (183, ⟨.func, 1, 8, .undef⟩),
  (184, ⟨.func, 1, 8, .undef⟩),
  (185, ⟨.func, 1, 8, .undef⟩),
  (186, ⟨.func, 1, 8, .undef⟩),
  (187, ⟨.func, 1, 8, .undef⟩),
  (188, ⟨.func, 1, 8, .undef⟩),
  (189, ⟨.func, 1, 8, .undef⟩),
  (190, ⟨.func, 1, 8, .undef⟩),
  (191, ⟨.func, 1, 8, .undef⟩),
  (192, ⟨(.struct [(0, 3), (1, 3), (2, 63)]), 3, 40, (.agg [(.int .i64 0), (.int .i64 0), .nil])⟩),
  (193, ⟨.func, 1, 8, .undef⟩),
  (194, ⟨(.slice 254), 1, 24, .nil⟩),
  (195, ⟨(.struct [(0, 4), (1, 194), (2, 9)]), 3, 48, (.agg [(.bool false), .nil, (.str ⟨#[]⟩)])⟩),
  (196, ⟨(.struct [(0, 4), (1, 194), (2, 9)]), 3, 48, (.agg [(.bool false), .nil, (.str ⟨#[]⟩)])⟩),
  (197, ⟨.func, 1, 8, .undef⟩),
  (198, ⟨.func, 1, 8, .undef⟩),
  (199, ⟨.func, 1, 8, .undef⟩),
  (200, ⟨.func, 1, 8, .undef⟩),
  (201, ⟨.func, 1, 8, .undef⟩),
  (202, ⟨.func, 1, 8, .undef⟩),
  (203, ⟨.func, 1, 8, .undef⟩),
  (204, ⟨.func, 1, 8, .undef⟩),
  (205, ⟨.func, 1, 8, .undef⟩),
  (206, ⟨.func, 1, 8, .undef⟩),
  (207, ⟨.func, 1, 8, .undef⟩),
  (208, ⟨.func, 1, 8, .undef⟩),
  (209, ⟨.func, 1, 8, .undef⟩),
  (210, ⟨.func, 1, 8, .undef⟩),
  (211, ⟨.func, 1, 8, .undef⟩),
  (212, ⟨.func, 1, 8, .undef⟩),
  (213, ⟨.func, 1, 8, .undef⟩),
  (214, ⟨.func, 1, 8, .undef⟩),
  (215, ⟨.func, 1, 8, .undef⟩),
  (216, ⟨(.int .u64), 1, 8, (.int .u64 0)⟩),
  (217, ⟨.func, 1, 8, .undef⟩),
  (218, ⟨.func, 1, 8, .undef⟩),
  (219, ⟨.func, 1, 8, .undef⟩),
  (220, ⟨.func, 1, 8, .undef⟩),
  (221, ⟨.func, 1, 8, .undef⟩),
  (222, ⟨.func, 1, 8, .undef⟩),
  (224, ⟨.func, 1, 8, .undef⟩),
  (226, ⟨.func, 1, 8, .undef⟩),
  (227, ⟨.func, 1, 8, .undef⟩),
  (228, ⟨.func, 1, 8, .undef⟩),
  (229, ⟨(.slice 5), 1, 24, .nil⟩),
  (230, ⟨.func, 1, 8, .undef⟩),
  (231, ⟨.func, 1, 8, .undef⟩),
  (232, ⟨.func, 1, 8, .undef⟩),
  (233, ⟨.func, 1, 8, .undef⟩),
  (234, ⟨(.int .i64), 1, 8, (.int .i64 0)⟩),
  (236, ⟨.func, 1, 8, .undef⟩),
  (237, ⟨.func, 1, 8, .undef⟩),
  (238, ⟨.func, 1, 8, .undef⟩),
  (239, ⟨.func, 1, 8, .undef⟩),
  (241, ⟨.func, 1, 8, .undef⟩),
  (242, ⟨.func, 1, 8, .undef⟩),
  (243, ⟨(.int .u32), 1, 4, (.int .u32 0)⟩),
  (244, ⟨.func, 1, 8, .undef⟩),
  (245, ⟨(.int .u64), 1, 8, (.int .u64 0)⟩),
  (246, ⟨.func, 1, 8, .undef⟩),
  (247, ⟨.func, 1, 8, .undef⟩),
  (248, ⟨.func, 1, 8, .undef⟩),
  (249, ⟨.func, 1, 8, .undef⟩),
  (250, ⟨.func, 1, 8, .undef⟩),
  (251, ⟨.func, 1, 8, .undef⟩),
  (252, ⟨.func, 1, 8, .undef⟩),
  (253, ⟨.func, 1, 8, .undef⟩),
  (254, ⟨(.struct [(0, 9), (1, 3)]), 2, 24, (.agg [(.str ⟨#[]⟩), (.int .i64 0)])⟩),
  (255, ⟨.func, 1, 8, .undef⟩),
  (256, ⟨.func, 1, 8, .undef⟩),
  (257, ⟨.func, 1, 8, .undef⟩),
  (258, ⟨(.int .u64), 1, 8, (.int .u64 0)⟩),
  (259, ⟨.func, 1, 8, .undef⟩),
  (260, ⟨.func, 1, 8, .undef⟩),
  (261, ⟨.func, 1, 8, .undef⟩),
  (262, ⟨.ptr, 1, 8, .undef⟩),
  (263, ⟨.func, 1, 8, .undef⟩),
  (264, ⟨.func, 1, 8, .undef⟩),
  (265, ⟨.func, 1, 8, .undef⟩),
  (266, ⟨.func, 1, 8, .undef⟩),
  (267, ⟨.func, 1, 8, .undef⟩),
  (268, ⟨.ptr, 1, 8, .undef⟩),
  (270, ⟨.func, 1, 8, .undef⟩),
  (271, ⟨.func, 1, 8, .undef⟩),
  (272, ⟨.func, 1, 8, .undef⟩),
  (273, ⟨(.struct [(0, 17), (1, 17), (2, 17), (3, 9)]), 4, 40, (.agg [.undef, .undef, .undef, (.str ⟨#[]⟩)])⟩),
  (274, ⟨(.struct [(0, 17), (1, 17), (2, 17), (3, 9)]), 4, 40, (.agg [.undef, .undef, .undef, (.str ⟨#[]⟩)])⟩),
  (276, ⟨(.struct [(0, 275)]), 0, 0, (.agg [])⟩),
  (277, ⟨(.struct [(0, 275)]), 0, 0, (.agg [])⟩),
  (278, ⟨.func, 1, 8, .undef⟩),
  (279, ⟨(.int .u8), 1, 1, (.int .u8 0)⟩),
  (280, ⟨(.int .u8), 1, 1, (.int .u8 0)⟩),
  (281, ⟨.func, 1, 8, .undef⟩),
  (282, ⟨.ptr, 1, 8, .undef⟩),
  (283, ⟨(.int .i32), 1, 4, (.int .i32 0)⟩),
  (284, ⟨(.int .i32), 1, 4, (.int .i32 0)⟩),
  (285, ⟨(.struct [(0, 12), (1, 12), (2, 243), (3, 279), (4, 5), (5, 5), (6, 280), (7, 281), (8, 282), (9, 283), (10, 284)]), 11, 48, (.agg [(.int .u64 0), (.int .u64 0), (.int .u32 0), (.int .u8 0), (.int .u8 0), (.int .u8 0), (.int .u8 0), .undef, .undef, (.int .i32 0), (.int .i32 0)])⟩),
  (286, ⟨(.struct [(0, 12), (1, 12), (2, 243), (3, 279), (4, 5), (5, 5), (6, 280), (7, 281), (8, 282), (9, 283), (10, 284)]), 11, 48, (.agg [(.int .u64 0), (.int .u64 0), (.int .u32 0), (.int .u8 0), (.int .u8 0), (.int .u8 0), (.int .u8 0), .undef, .undef, (.int .i32 0), (.int .i32 0)])⟩)]
theorem tt_rows : tt.map (fun r => tyOf Try.prog r.1) = tt.map (fun r => some r.2) := by kernel_rfl
theorem mixed : Try.prog.follows .mixedOrders = true := by kernel_rfl
end Go.Proofs.Ytaaajjinpppgeaa

/- slices.Sort at rows of whole numbers: laid off the library of proved contracts, and known to the evaluator. Own work; no condition. -/
namespace Go.Proofs
open Go.Shelf
def Try.lays189_ren : Go.Shelf.Ren := ⟨fun | 189 => 191 | 125 => 247 | 257 => 246 | 128 => 275 | 129 => 276 | 294 => 266 | 295 => 267 | 296 => 268 | 297 => 269 | 298 => 270 | 299 => 271 | 216 => 272 | 300 => 273 | 301 => 274 | 328 => 296 | 329 => 297 | 330 => 298 | 331 => 299 | 332 => 300 | 215 => 301 | 343 => 308 | n => n, fun | 28 => 63 | 3 => 3 | 46 => 216 | 0 => 0 | 51 => 243 | 53 => 245 | 4 => 4 | 183 => 235 | 182 => 234 | 131 => 240 | 5 => 5 | 9 => 9 | 218 => 258 | 222 => 262 | 228 => 268 | 229 => 269 | n => n, fun | n => n⟩
theorem Try.lays189 : Go.Proofs.Lays.n189 Try.prog Try.lays189_ren := {
  mixed := by kernel_rfl
  f125 := Try.func247.trans (congrArg some (by kernel_rfl))
  f128 := Try.func275.trans (congrArg some (by kernel_rfl))
  f129 := Try.func276.trans (congrArg some (by kernel_rfl))
  f189 := Try.func191.trans (congrArg some (by kernel_rfl))
  f215 := Try.func301.trans (congrArg some (by kernel_rfl))
  f216 := Try.func272.trans (congrArg some (by kernel_rfl))
  f257 := Try.func246.trans (congrArg some (by kernel_rfl))
  f294 := Try.func266.trans (congrArg some (by kernel_rfl))
  f295 := Try.func267.trans (congrArg some (by kernel_rfl))
  f296 := Try.func268.trans (congrArg some (by kernel_rfl))
  f297 := Try.func269.trans (congrArg some (by kernel_rfl))
  f298 := Try.func270.trans (congrArg some (by kernel_rfl))
  f299 := Try.func271.trans (congrArg some (by kernel_rfl))
  f300 := Try.func273.trans (congrArg some (by kernel_rfl))
  f301 := Try.func274.trans (congrArg some (by kernel_rfl))
  f328 := Try.func296.trans (congrArg some (by kernel_rfl))
  f329 := Try.func297.trans (congrArg some (by kernel_rfl))
  f330 := Try.func298.trans (congrArg some (by kernel_rfl))
  f331 := Try.func299.trans (congrArg some (by kernel_rfl))
  f332 := Try.func300.trans (congrArg some (by kernel_rfl))
  f343 := Try.func308.trans (congrArg some (by kernel_rfl))
  t0 := Try.underlying0
  a0 := Try.isAgg0
  z0 := Try.sizeOf0
  v0 := Try.zeroValue0
  t3 := Try.underlying3
  a3 := Try.isAgg3
  z3 := Try.sizeOf3
  v3 := Try.zeroValue3
  t4 := Try.underlying4
  a4 := Try.isAgg4
  z4 := Try.sizeOf4
  v4 := Try.zeroValue4
  t5 := Try.underlying5
  a5 := Try.isAgg5
  z5 := Try.sizeOf5
  v5 := Try.zeroValue5
  t9 := Try.underlying9
  a9 := Try.isAgg9
  z9 := Try.sizeOf9
  v9 := Try.zeroValue9
  t28 := Try.underlying63
  a28 := Try.isAgg63
  z28 := Try.sizeOf63
  v28 := Try.zeroValue63
  t46 := Try.underlying216
  a46 := Try.isAgg216
  z46 := Try.sizeOf216
  v46 := Try.zeroValue216
  t51 := Try.underlying243
  a51 := Try.isAgg243
  z51 := Try.sizeOf243
  v51 := Try.zeroValue243
  t53 := Try.underlying245
  a53 := Try.isAgg245
  z53 := Try.sizeOf245
  v53 := Try.zeroValue245
  t131 := Try.underlying240
  a131 := Try.isAgg240
  z131 := Try.sizeOf240
  v131 := Try.zeroValue240
  t182 := Try.underlying234
  a182 := Try.isAgg234
  z182 := Try.sizeOf234
  v182 := Try.zeroValue234
  t183 := Try.underlying235
  a183 := Try.isAgg235
  z183 := Try.sizeOf235
  v183 := Try.zeroValue235
  t218 := Try.underlying258
  a218 := Try.isAgg258
  z218 := Try.sizeOf258
  v218 := Try.zeroValue258
  t222 := Try.underlying262
  a222 := Try.isAgg262
  z222 := Try.sizeOf262
  v222 := Try.zeroValue262
  t228 := Try.underlying268
  a228 := Try.isAgg268
  z228 := Try.sizeOf268
  v228 := Try.zeroValue268
  t229 := Try.underlying269
  a229 := Try.isAgg269
  z229 := Try.sizeOf269
  v229 := Try.zeroValue269 }
end Go.Proofs
namespace Go.Proofs.Ytaaajjinpppgeaa
open Go Go.Abs
theorem sortOk : OrcOk Try.prog 191 sortO :=
  sort_wr Try.func191 rfl rfl (fun blk off cap zs w h1 h2 h3 => Any.slices_Sort_int Try.lays189 blk off cap zs w h1 h2 h3) (fun p cap w => Any.slices_Sort_int_none Try.lays189 p cap w)
end Go.Proofs.Ytaaajjinpppgeaa

/- The table of the functions that the evaluator runs. Own work; no condition. -/
set_option linter.unusedVariables false
namespace Go.Proofs.Ytaaajjinpppgeaa
open Go Go.Abs
def pures : List FuncId := (List.range 600).filter fun k => !([51, 52, 57, 63, 90, 100, 104, 112, 145, 146, 151, 160, 161, 162, 196, 251, 186, 187, 190, 245, 189, 191, 204, 246, 261, 266, 267, 268, 269, 270, 271, 273, 274, 284, 285, 286, 287, 288, 289, 290, 291, 296, 298, 299, 305, 306, 308, 309, 242] : List Nat).contains k
def hints : Hints := [(8, [(6, [.opn 6 none none 1 2]), (8, [.opn 8 none none 1 2]), (25, [.opn 12 none none 1 2])]),
  (33, [(5, [.tidy [0, 1, 5] [(0, none), (1, none), (5, none)]])]),
  (34, [(4, [.tidy [0, 1, 5] [(0, none), (1, none), (5, none)]])]),
  (35, [(3, [.tidy [0, 3, 4] [(0, none), (3, none), (4, none)]])]),
  (37, [(4, [.tidy [0, 1, 5] [(0, none), (1, none), (5, none)]])]),
  (39, [(4, [.lay 4 1, .tidy [1, 3, 4, 5] [(1, none), (3, none), (4, none), (5, none)]]), (7, [.tidy [1, 3, 4, 5, 6] [(1, none), (3, none), (4, none), (5, none), (6, none)]])]),
  (41, [(4, [.lay 4 1, .tidy [3, 4, 11, 12, 13] [(3, none), (4, none), (11, none), (12, none), (13, none)]]), (8, [.tidy [3, 4, 6, 11, 12, 13, 18, 19, 20] [(3, none), (4, none), (6, none), (11, none), (12, none), (13, none), (18, none), (19, none), (20, none)]])]),
  (44, [(2, [.tidy [1, 3] [(1, none), (3, none)]])]),
  (48, [(5, [.opn 5 none none 2 1, .tidy [1, 2, 4, 5, 6] [(1, none), (2, none), (4, none), (5, none), (6, none), (5, some 2)]])]),
  (49, [(5, [.opn 5 none none 2 1, .tidy [1, 4, 5, 25, 26, 27] [(1, none), (4, none), (5, none), (25, none), (26, none), (27, none), (5, some 2)]])]),
  (54, [(5, [.opn 5 none none 1 2, .tidy [1, 2, 4, 5, 6] [(1, none), (2, none), (4, none), (5, none), (6, none), (5, some 1)]])]),
  (55, [(3, [.opn 5 none none 1 2, .tidy [1, 4, 5, 14, 15, 16] [(1, none), (4, none), (5, none), (14, none), (15, none), (16, none), (5, some 1)]])]),
  (59, [(4, [.tidy [1, 3] [(1, none), (3, none)]])]),
  (60, [(4, [.tidy [1, 28, 29, 30] [(1, none), (28, none), (29, none), (30, none)]])]),
  (65, [(8, [.lay 4 1, .tidy [2, 3, 4, 5] [(2, none), (3, none), (4, none), (5, none), (3, some 2)]]), (10, [.opn 3 (some 2) (some (5, 0)) 2 1]), (12, [.tidy [2, 3, 4, 5, 6, 7] [(2, none), (3, none), (4, none), (5, none), (6, none), (7, none), (3, some 2), (6, some 2)]]), (14, [.opn 3 none none 0 1, .opn 3 none none 1 1, .opn 3 none none 3 3]), (21, [.opn 3 none none 0 1, .opn 3 none none 1 1, .opn 3 none none 2 3, .opn 3 none none 3 3])]),
  (66, [(8, [.lay 4 1, .tidy [1, 2, 3, 4, 27, 28, 29] [(1, none), (2, none), (3, none), (4, none), (27, none), (28, none), (29, none)]]), (10, [.opn 27 none (some (29, 0)) 2 1]), (13, [.tidy [1, 2, 3, 4, 6, 27, 28, 29, 37, 38, 39] [(1, none), (2, none), (3, none), (4, none), (6, none), (27, none), (28, none), (29, none), (37, none), (38, none), (39, none)]]), (22, [.opn 3 none none 0 1, .opn 3 none none 1 1, .opn 3 none none 2 3, .opn 3 none none 3 3])]),
  (73, [(7, [.tidy [2, 3, 4, 5, 6] [(2, none), (3, none), (4, none), (5, none), (6, none)]]), (12, [.tidy [2, 3, 4, 5, 6, 7, 8, 9] [(2, none), (3, none), (4, none), (5, none), (6, none), (7, none), (8, none), (9, none)]]), (18, [.tidy [2, 3, 4, 5, 6, 7, 8, 9, 10, 12] [(2, none), (3, none), (4, none), (5, none), (6, none), (7, none), (8, none), (9, none), (10, none), (12, none)]])]),
  (74, [(7, [.tidy [2, 3, 4, 5, 6] [(2, none), (3, none), (4, none), (5, none), (6, none)]]), (12, [.tidy [2, 3, 4, 5, 6, 7, 8, 31, 32, 33] [(2, none), (3, none), (4, none), (5, none), (6, none), (7, none), (8, none), (31, none), (32, none), (33, none)]]), (16, [.tidy [2, 3, 4, 5, 6, 7, 8, 10, 31, 32, 33, 43, 44, 45] [(2, none), (3, none), (4, none), (5, none), (6, none), (7, none), (8, none), (10, none), (31, none), (32, none), (33, none), (43, none), (44, none), (45, none)]])]),
  (75, [(4, [.tidy [1, 3, 4, 5] [(1, none), (3, none), (4, none), (5, none)]]), (8, [.tidy [1, 3, 4, 5, 6, 7] [(1, none), (3, none), (4, none), (5, none), (6, none), (7, none)]])]),
  (76, [(3, [.tidy [1, 3, 9, 10, 11] [(1, none), (3, none), (9, none), (10, none), (11, none)]])]),
  (77, [(4, [.tidy [1, 2, 5, 6, 7] [(1, none), (2, none), (5, none), (6, none), (7, none)]]), (8, [.tidy [1, 2, 5, 6, 7, 8, 9] [(1, none), (2, none), (5, none), (6, none), (7, none), (8, none), (9, none)]])]),
  (78, [(3, [.tidy [1, 5, 11, 12, 13] [(1, none), (5, none), (11, none), (12, none), (13, none)]])]),
  (79, [(4, [.tidy [1, 3, 4, 5] [(1, none), (3, none), (4, none), (5, none)]]), (8, [.tidy [1, 3, 4, 5, 6, 7] [(1, none), (3, none), (4, none), (5, none), (6, none), (7, none)]])]),
  (80, [(3, [.tidy [1, 3, 9, 10, 11] [(1, none), (3, none), (9, none), (10, none), (11, none)]]), (7, [.tidy [1, 3, 5, 9, 10, 11, 18, 19, 20] [(1, none), (3, none), (5, none), (9, none), (10, none), (11, none), (18, none), (19, none), (20, none)]])]),
  (81, [(4, [.tidy [1, 3, 4, 5] [(1, none), (3, none), (4, none), (5, none)]])]),
  (82, [(3, [.tidy [1, 3, 7, 8, 9] [(1, none), (3, none), (7, none), (8, none), (9, none)]])]),
  (83, [(4, [.tidy [1, 3, 4, 5] [(1, none), (3, none), (4, none), (5, none)]]), (11, [.tidy [1, 3, 4, 5, 7, 8] [(1, none), (3, none), (4, none), (5, none), (7, none), (8, none)]])]),
  (84, [(4, [.tidy [1, 3, 4, 13, 14, 15] [(1, none), (3, none), (4, none), (13, none), (14, none), (15, none)]]), (11, [.tidy [1, 3, 27, 28, 29] [(1, none), (3, none), (27, none), (28, none), (29, none)]])]),
  (86, [(3, [.opn 6 none none 0 1, .opn 6 none none 1 1, .opn 6 none none 2 3, .opn 6 none none 3 3, .opn 6 none none 4 1, .opn 6 none none 5 11]), (6, [.opn 6 none none 5 11, .opn 3 none none 10 1]), (8, [.opn 6 none none 0 1, .opn 6 none none 1 1, .opn 6 none none 2 3, .opn 6 none none 3 3, .opn 6 none none 4 1, .opn 6 none none 5 11])]),
  (88, [(2, [.opn 6 none none 0 1, .opn 6 none none 1 1, .opn 6 none none 2 3, .opn 6 none none 3 3, .opn 6 none none 4 1, .opn 6 none none 5 11]), (3, [.opn 6 none none 0 1, .opn 6 none none 1 1, .opn 6 none none 2 3, .opn 6 none none 3 3, .opn 6 none none 4 1, .opn 6 none none 5 11])]),
  (91, [(4, [.lay 6 11, .tidy [1, 4, 5, 6, 7] [(1, none), (4, none), (5, none), (6, none), (7, none), (5, some 5)]]), (7, [.opn 5 (some 5) (some (7, 0)) 10 1]), (8, [.fgt 5 (some 5) (some (7, 0)) 10]), (10, [.opn 5 none none 0 1, .opn 5 none none 1 1, .opn 5 none none 2 3, .opn 5 none none 3 3, .opn 5 none none 4 1, .opn 5 none none 5 11])]),
  (93, [(4, [.opn 4 none none 0 1, .opn 4 none none 1 1, .opn 4 none none 2 3, .opn 4 none none 3 3, .opn 4 none none 4 1, .opn 4 none none 5 11]), (5, [.opn 4 none none 0 1]), (6, [.opn 4 none none 4 1]), (7, [.opn 4 none none 0 1, .opn 4 none none 1 1, .opn 4 none none 2 3, .opn 4 none none 3 3, .opn 4 none none 4 1, .opn 4 none none 5 11])]),
  (94, [(2, [.opn 4 none none 0 1, .opn 4 none none 4 1]), (3, [.opn 4 none none 0 1, .opn 4 none none 1 1, .opn 4 none none 2 3, .opn 4 none none 3 3, .opn 4 none none 4 1, .opn 4 none none 5 11])]),
  (95, [(4, [.opn 4 none none 0 1, .opn 4 none none 1 1, .opn 4 none none 2 3, .opn 4 none none 3 3, .opn 4 none none 4 1, .opn 4 none none 5 11]), (5, [.opn 4 none none 1 1]), (6, [.opn 4 none none 4 1]), (7, [.opn 4 none none 0 1, .opn 4 none none 1 1, .opn 4 none none 2 3, .opn 4 none none 3 3, .opn 4 none none 4 1, .opn 4 none none 5 11])]),
  (96, [(2, [.opn 4 none none 1 1, .opn 4 none none 4 1]), (3, [.opn 4 none none 0 1, .opn 4 none none 1 1, .opn 4 none none 2 3, .opn 4 none none 3 3, .opn 4 none none 4 1, .opn 4 none none 5 11])]),
  (97, [(6, [.tidy [1, 3, 4] [(1, none), (3, none), (4, none)]]), (9, [.tidy [1, 3, 4, 5] [(1, none), (3, none), (4, none), (5, none)]]), (13, [.tidy [1, 3, 4, 5, 6, 7] [(1, none), (3, none), (4, none), (5, none), (6, none), (7, none)]]), (23, [.lay 9 1, .tidy [3, 9, 10] [(3, none), (9, none), (10, none)]])]),
  (98, [(5, [.lay 3 1, .tidy [1, 3, 4] [(1, none), (3, none), (4, none)]]), (8, [.tidy [1, 3, 4, 27, 28, 29] [(1, none), (3, none), (4, none), (27, none), (28, none), (29, none)]])]),
  (99, [(4, [.tidy [0, 1, 5] [(0, none), (1, none), (5, none)]])]),
  (100, [(2, [.tidy [0, 1, 5] [(0, none), (1, none), (5, none)]])]),
  (101, [(2, [.tidy [0, 1, 5] [(0, none), (1, none), (5, none)]])]),
  (106, [(5, [.opn 6 none none 2 3, .tidy [1, 2, 6, 7] [(1, none), (2, none), (6, none), (7, none), (6, some 2)]]), (10, [.opn 6 none none 3 3, .tidy [1, 2, 6, 8] [(1, none), (2, none), (6, none), (8, none), (6, some 3)]]), (14, [.opn 6 none none 0 1, .opn 6 none none 1 1, .opn 6 none none 2 3, .opn 6 none none 3 3])]),
  (107, [(5, [.opn 6 none none 2 3, .tidy [1, 2, 6, 22] [(1, none), (2, none), (6, none), (22, none), (6, some 2)]]), (11, [.opn 6 none none 3 3, .tidy [1, 2, 6, 35] [(1, none), (2, none), (6, none), (35, none), (6, some 3)]]), (16, [.opn 6 none none 0 1, .opn 6 none none 1 1, .opn 6 none none 2 3, .opn 6 none none 3 3])]),
  (112, [(2, [.tidy [0, 1, 5] [(0, none), (1, none), (5, none)]])]),
  (113, [(2, [.tidy [0, 1, 5] [(0, none), (1, none), (5, none)]])]),
  (114, [(5, [.tidy [1, 3, 4] [(1, none), (3, none), (4, none)]]), (17, [.tidy [1, 8, 9] [(1, none), (8, none), (9, none)]])]),
  (115, [(5, [.tidy [1, 3, 4] [(1, none), (3, none), (4, none)]]), (19, [.opn 7 none none 0 1, .opn 7 none none 1 1])]),
  (121, [(4, [.tidy [0, 1, 12, 13] [(0, none), (1, none), (12, none), (13, none)]])]),
  (124, [(5, [.tidy [0, 1, 5] [(0, none), (1, none), (5, none)]])]),
  (125, [(5, [.tidy [0, 1, 5] [(0, none), (1, none), (5, none)]])]),
  (126, [(2, [.tidy [0, 1, 5] [(0, none), (1, none), (5, none)]])]),
  (128, [(3, [.tidy [0, 3, 4] [(0, none), (3, none), (4, none)]])]),
  (129, [(3, [.tidy [0, 3, 4] [(0, none), (3, none), (4, none)]])]),
  (132, [(4, [.tidy [0, 1, 5] [(0, none), (1, none), (5, none)]])]),
  (133, [(4, [.tidy [0, 1, 5] [(0, none), (1, none), (5, none)]])]),
  (135, [(5, [.tidy [0, 1, 5] [(0, none), (1, none), (5, none)]])]),
  (136, [(3, [.tidy [0, 3, 4] [(0, none), (3, none), (4, none)]])]),
  (137, [(3, [.tidy [0, 3, 4] [(0, none), (3, none), (4, none)]])]),
  (139, [(4, [.tidy [0, 1, 5] [(0, none), (1, none), (5, none)]])]),
  (140, [(4, [.tidy [0, 1, 5] [(0, none), (1, none), (5, none)]])]),
  (145, [(2, [.tidy [0, 1, 5] [(0, none), (1, none), (5, none)]])]),
  (146, [(2, [.tidy [0, 1, 5] [(0, none), (1, none), (5, none)]]), (24, [.opn 0 none (some (5, 0)) 10 1])]),
  (150, [(4, [.tidy [0, 1, 5] [(0, none), (1, none), (5, none)]])]),
  (151, [(2, [.tidy [0, 1, 5] [(0, none), (1, none), (5, none)]])]),
  (152, [(2, [.tidy [0, 1, 5] [(0, none), (1, none), (5, none)]])]),
  (153, [(4, [.tidy [1, 3] [(1, none), (3, none)]]), (10, [.tidy [1, 4] [(1, none), (4, none)]])]),
  (154, [(5, [.tidy [1, 2, 5, 6] [(1, none), (2, none), (5, none), (6, none)]]), (11, [.tidy [1, 2, 5, 7] [(1, none), (2, none), (5, none), (7, none)]])]),
  (155, [(2, [.tidy [1, 8, 9, 10] [(1, none), (8, none), (9, none), (10, none)]]), (9, [.tidy [1, 19, 20, 21] [(1, none), (19, none), (20, none), (21, none)]])]),
  (156, [(2, [.tidy [2, 3, 10, 11, 12] [(2, none), (3, none), (10, none), (11, none), (12, none)]])]),
  (158, [(3, [.opn 3 none none 2 3, .tidy [1, 2, 3, 4] [(1, none), (2, none), (3, none), (4, none), (3, some 2)]]), (8, [.opn 3 none none 3 3, .tidy [1, 2, 3, 5] [(1, none), (2, none), (3, none), (5, none), (3, some 3)]]), (12, [.opn 3 none none 0 1, .opn 3 none none 1 1, .opn 3 none none 2 3, .opn 3 none none 3 3])]),
  (159, [(3, [.opn 3 none none 2 3, .tidy [1, 2, 3, 13, 14, 15] [(1, none), (2, none), (3, none), (13, none), (14, none), (15, none), (3, some 2)]]), (9, [.opn 3 none none 3 3, .tidy [2, 3, 28, 29, 30] [(2, none), (3, none), (28, none), (29, none), (30, none), (3, some 3)]]), (14, [.opn 3 none none 0 1, .opn 3 none none 1 1, .opn 3 none none 2 3, .opn 3 none none 3 3])]),
  (161, [(2, [.tidy [0, 1, 5] [(0, none), (1, none), (5, none)]]), (8, [.opn 0 none (some (5, 0)) 2 1])]),
  (162, [(2, [.tidy [0, 1, 5] [(0, none), (1, none), (5, none)]]), (6, [.opn 0 none (some (5, 0)) 1 2])]),
  (163, [(2, [.tidy [0, 1, 5] [(0, none), (1, none), (5, none)]])]),
  (164, [(2, [.tidy [0, 1, 5] [(0, none), (1, none), (5, none)]])]),
  (167, [(2, [.tidy [0, 1, 5] [(0, none), (1, none), (5, none)]])]),
  (168, [(2, [.tidy [0, 1, 5] [(0, none), (1, none), (5, none)]])]),
  (170, [(2, [.tidy [1, 3] [(1, none), (3, none)]])]),
  (172, [(2, [.tidy [1, 6, 7, 8] [(1, none), (6, none), (7, none), (8, none)]])]),
  (174, [(4, [.tidy [2, 5, 9] [(2, none), (5, none), (9, none)]])]),
  (175, [(4, [.tidy [2, 7, 8, 16, 17, 18] [(2, none), (7, none), (8, none), (16, none), (17, none), (18, none)]])]),
  (178, [(5, [.lay 5 2, .tidy [1, 2, 5, 6] [(1, none), (2, none), (5, none), (6, none)]]), (9, [.lay 5 2, .tidy [1, 2, 5, 6, 7, 9] [(1, none), (2, none), (5, none), (6, none), (7, none), (9, none)]])]),
  (179, [(3, [.lay 5 2, .tidy [2, 5, 14, 15, 16] [(2, none), (5, none), (14, none), (15, none), (16, none)]]), (8, [.lay 5 2, .tidy [2, 5, 8, 14, 15, 16, 24, 25, 26] [(2, none), (5, none), (8, none), (14, none), (15, none), (16, none), (24, none), (25, none), (26, none)]]), (13, [.lay 5 2, .tidy [2, 5, 8, 14, 15, 16, 24, 25, 26, 43, 44, 45] [(2, none), (5, none), (8, none), (14, none), (15, none), (16, none), (24, none), (25, none), (26, none), (43, none), (44, none), (45, none)]])]),
  (180, [(3, [.lay 5 1, .tidy [2, 5, 11, 12, 13] [(2, none), (5, none), (11, none), (12, none), (13, none)]]), (7, [.tidy [2, 5, 11, 12, 13, 20, 21, 22] [(2, none), (5, none), (11, none), (12, none), (13, none), (20, none), (21, none), (22, none)]])]),
  (183, [(3, [.opn 3 none none 4 1, .opn 3 none none 5 11, .tidy [1, 2, 3, 4] [(1, none), (2, none), (3, none), (4, none), (3, some 5)]]), (7, [.opn 5 none none 10 1]), (9, [.opn 3 none none 0 1, .opn 3 none none 1 1, .opn 3 none none 2 3, .opn 3 none none 3 3, .opn 3 none none 4 1, .opn 3 none none 5 11])]),
  (184, [(3, [.tidy [0, 3, 4] [(0, none), (3, none), (4, none)]])]),
  (188, [(2, [.tidy [0, 3] [(0, none), (3, none)]])]),
  (192, [(5, [.opn 4 none none 0 1, .tidy [1, 2, 4, 5] [(1, none), (2, none), (4, none), (5, none), (4, some 0)]]), (9, [.opn 4 none none 0 1])]),
  (193, [(3, [.opn 1 none none 2 3, .tidy [0, 1, 2] [(0, none), (1, none), (2, none), (1, some 2)]]), (9, [.opn 1 none none 0 1, .opn 1 none none 1 1, .opn 1 none none 2 3, .opn 1 none none 3 3])]),
  (194, [(3, [.opn 1 none none 2 3, .tidy [0, 1, 7] [(0, none), (1, none), (7, none), (1, some 2)]]), (11, [.opn 1 none none 0 1, .opn 1 none none 1 1, .opn 1 none none 2 3, .opn 1 none none 3 3])]),
  (195, [(5, [.opn 4 none none 0 1, .tidy [1, 2, 4, 13] [(1, none), (2, none), (4, none), (13, none), (4, some 0)]]), (11, [.opn 4 none none 0 1])]),
  (201, [(3, [.tidy [3, 4] [(3, none), (4, none)]]), (6, [.tidy [3, 4, 5] [(3, none), (4, none), (5, none)]])]),
  (202, [(7, [.tidy [1, 2, 3, 4, 9, 10, 11, 12] [(1, none), (2, none), (3, none), (4, none), (9, none), (10, none), (11, none), (12, none)]]), (11, [.tidy [1, 2, 3, 4, 9, 10, 11, 12, 13, 14] [(1, none), (2, none), (3, none), (4, none), (9, none), (10, none), (11, none), (12, none), (13, none), (14, none)]])]),
  (203, [(7, [.tidy [2, 3, 4, 9, 10, 31, 32, 33] [(2, none), (3, none), (4, none), (9, none), (10, none), (31, none), (32, none), (33, none)]]), (11, [.tidy [2, 3, 4, 9, 10, 31, 32, 33, 40, 41, 42] [(2, none), (3, none), (4, none), (9, none), (10, none), (31, none), (32, none), (33, none), (40, none), (41, none), (42, none)]])]),
  (207, [(4, [.tidy [0, 3] [(0, none), (3, none)]])]),
  (208, [(4, [.lay 3 1, .tidy [1, 3, 4, 5] [(1, none), (3, none), (4, none), (5, none)]]), (8, [.tidy [1, 3, 4, 5, 6, 7] [(1, none), (3, none), (4, none), (5, none), (6, none), (7, none)]])]),
  (209, [(4, [.tidy [1, 2, 3, 4, 14, 15, 16] [(1, none), (2, none), (3, none), (4, none), (14, none), (15, none), (16, none), (4, some 0), (4, some 1)]]), (10, [.tidy [2, 4, 28, 29, 30] [(2, none), (4, none), (28, none), (29, none), (30, none), (4, some 0), (4, some 1)]])]),
  (210, [(4, [.tidy [0, 1, 12, 13] [(0, none), (1, none), (12, none), (13, none)]])]),
  (215, [(2, [.tidy [0, 1, 7, 8] [(0, none), (1, none), (7, none), (8, none)]])]),
  (216, [(2, [.tidy [0, 1, 7, 8] [(0, none), (1, none), (7, none), (8, none)]])]),
  (220, [(4, [.tidy [1, 3] [(1, none), (3, none)]])]),
  (221, [(6, [.tidy [1, 3] [(1, none), (3, none)]]), (13, [.tidy [1, 3, 4, 5] [(1, none), (3, none), (4, none), (5, none)]])]),
  (222, [(2, [.tidy [0, 3] [(0, none), (3, none)]])]),
  (223, [(2, [.tidy [1, 6, 7, 8] [(1, none), (6, none), (7, none), (8, none)]])]),
  (224, [(4, [.tidy [1, 19, 20, 21] [(1, none), (19, none), (20, none), (21, none)]])]),
  (230, [(2, [.tidy [0, 5, 6] [(0, none), (5, none), (6, none)]])]),
  (231, [(2, [.tidy [0, 1, 7, 8] [(0, none), (1, none), (7, none), (8, none)]])]),
  (234, [(5, [.tidy [0, 1, 5] [(0, none), (1, none), (5, none)]])]),
  (235, [(3, [.tidy [0, 3, 4] [(0, none), (3, none), (4, none)]])]),
  (236, [(4, [.tidy [0, 1, 5] [(0, none), (1, none), (5, none)]])]),
  (237, [(2, [.tidy [0, 1, 7, 8] [(0, none), (1, none), (7, none), (8, none)]])]),
  (239, [(3, [.lay 3 11, .tidy [3, 7, 8, 9] [(3, none), (7, none), (8, none), (9, none)]])]),
  (242, [(5, [.tidy [0, 1, 5, 6] [(0, none), (1, none), (5, none), (6, none)]]), (7, [.opn 0 none (some (6, 0)) 10 1]), (11, [.fgt 0 none (some (6, 0)) 10])]),
  (244, [(2, [.tidy [5, 6, 7] [(5, none), (6, none), (7, none)]])]),
  (246, [(2, [.tidy [0, 1, 2, 3, 8, 9] [(0, none), (1, none), (2, none), (3, none), (8, none), (9, none)]])]),
  (251, [(2, [.tidy [0, 1, 5] [(0, none), (1, none), (5, none)]])]),
  (252, [(2, [.tidy [0, 1, 5] [(0, none), (1, none), (5, none)]])]),
  (254, [(7, [.tidy [4, 19, 20, 21] [(4, none), (19, none), (20, none), (21, none)]])]),
  (256, [(6, [.tidy [2, 5, 6, 7] [(2, none), (5, none), (6, none), (7, none)]]), (10, [.tidy [2, 5, 6, 7, 8, 10] [(2, none), (5, none), (6, none), (7, none), (8, none), (10, none)]])]),
  (257, [(5, [.tidy [2, 3, 9, 10] [(2, none), (3, none), (9, none), (10, none)]])]),
  (260, [(6, [.tidy [2, 7, 18, 19, 20] [(2, none), (7, none), (18, none), (19, none), (20, none)]])]),
  (261, [(2, [.tidy [0, 1, 2, 3, 4, 10, 11] [(0, none), (1, none), (2, none), (3, none), (4, none), (10, none), (11, none)]])]),
  (263, [(5, [.tidy [0, 1, 5] [(0, none), (1, none), (5, none)]])]),
  (264, [(3, [.tidy [0, 3, 4] [(0, none), (3, none), (4, none)]])]),
  (266, [(1, [.tidy [0, 1, 2, 6] [(0, none), (1, none), (2, none), (6, none)]]), (4, [.tidy [0, 1, 2, 6, 7] [(0, none), (1, none), (2, none), (6, none), (7, none)]])]),
  (267, [(4, [.tidy [0, 6, 7, 8, 9] [(0, none), (6, none), (7, none), (8, none), (9, none)]]), (9, [.tidy [0, 6, 7, 10] [(0, none), (6, none), (7, none), (10, none)]])]),
  (268, [(5, [.tidy [0, 1, 6, 7, 8, 9] [(0, none), (1, none), (6, none), (7, none), (8, none), (9, none)]])]),
  (270, [(2, [.tidy [0, 6, 7] [(0, none), (6, none), (7, none)]])]),
  (271, [(3, [.tidy [0, 1, 2, 7, 8] [(0, none), (1, none), (2, none), (7, none), (8, none)]]), (5, [.tidy [0, 1, 2, 7, 8] [(0, none), (1, none), (2, none), (7, none), (8, none)]]), (15, [.tidy [0, 1, 2, 7, 8, 9] [(0, none), (1, none), (2, none), (7, none), (8, none), (9, none)]]), (22, [.tidy [0, 1, 2, 7, 8, 10] [(0, none), (1, none), (2, none), (7, none), (8, none), (10, none)]])]),
  (273, [(3, [.tidy [0, 1, 9, 10] [(0, none), (1, none), (9, none), (10, none)]]), (4, [.tidy [0, 1, 9, 10] [(0, none), (1, none), (9, none), (10, none)]]), (7, [.tidy [0, 1, 9, 10] [(0, none), (1, none), (9, none), (10, none)]])]),
  (274, [(3, [.tidy [0, 1, 10, 11] [(0, none), (1, none), (10, none), (11, none)]]), (6, [.tidy [0, 1, 10, 11] [(0, none), (1, none), (10, none), (11, none)]]), (15, [.tidy [0, 1, 10, 11] [(0, none), (1, none), (10, none), (11, none)]]), (16, [.tidy [0, 1, 10, 11] [(0, none), (1, none), (10, none), (11, none)]]), (19, [.tidy [0, 1, 10, 11] [(0, none), (1, none), (10, none), (11, none)]])]),
  (279, [(7, [.tidy [1, 4, 5] [(1, none), (4, none), (5, none)]])]),
  (280, [(3, [.lay 3 1, .tidy [3, 7, 8, 9] [(3, none), (7, none), (8, none), (9, none)]])]),
  (281, [(3, [.tidy [3, 6, 7, 8] [(3, none), (6, none), (7, none), (8, none)]])]),
  (283, [(2, [.tidy [1, 2, 5] [(1, none), (2, none), (5, none)]])]),
  (284, [(1, [.tidy [0, 1, 2, 3, 8] [(0, none), (1, none), (2, none), (3, none), (8, none)]]), (4, [.tidy [0, 1, 2, 3, 8, 9] [(0, none), (1, none), (2, none), (3, none), (8, none), (9, none)]])]),
  (285, [(4, [.tidy [0, 3, 8, 9, 10, 11] [(0, none), (3, none), (8, none), (9, none), (10, none), (11, none)]]), (9, [.tidy [0, 3, 8, 9, 12] [(0, none), (3, none), (8, none), (9, none), (12, none)]])]),
  (286, [(5, [.tidy [0, 1, 8, 9, 10, 11] [(0, none), (1, none), (8, none), (9, none), (10, none), (11, none)]])]),
  (288, [(2, [.tidy [0, 8, 9] [(0, none), (8, none), (9, none)]])]),
  (289, [(3, [.tidy [0, 1, 2, 3, 9, 10] [(0, none), (1, none), (2, none), (3, none), (9, none), (10, none)]]), (5, [.tidy [0, 1, 2, 3, 9, 10] [(0, none), (1, none), (2, none), (3, none), (9, none), (10, none)]]), (15, [.tidy [0, 1, 2, 3, 9, 10, 11] [(0, none), (1, none), (2, none), (3, none), (9, none), (10, none), (11, none)]]), (22, [.tidy [0, 1, 2, 3, 9, 10, 12] [(0, none), (1, none), (2, none), (3, none), (9, none), (10, none), (12, none)]])]),
  (290, [(3, [.tidy [0, 1, 4, 11, 12] [(0, none), (1, none), (4, none), (11, none), (12, none)]]), (4, [.tidy [0, 1, 4, 11, 12] [(0, none), (1, none), (4, none), (11, none), (12, none)]]), (7, [.tidy [0, 1, 4, 11, 12] [(0, none), (1, none), (4, none), (11, none), (12, none)]])]),
  (291, [(3, [.tidy [0, 1, 4, 12, 13] [(0, none), (1, none), (4, none), (12, none), (13, none)]]), (6, [.tidy [0, 1, 4, 12, 13] [(0, none), (1, none), (4, none), (12, none), (13, none)]]), (15, [.tidy [0, 1, 4, 12, 13] [(0, none), (1, none), (4, none), (12, none), (13, none)]]), (16, [.tidy [0, 1, 4, 12, 13] [(0, none), (1, none), (4, none), (12, none), (13, none)]]), (19, [.tidy [0, 1, 4, 12, 13] [(0, none), (1, none), (4, none), (12, none), (13, none)]])]),
  (294, [(2, [.tidy [0, 1, 7, 8] [(0, none), (1, none), (7, none), (8, none)]])]),
  (296, [(1, [.tidy [0, 2, 3, 8] [(0, none), (2, none), (3, none), (8, none)]])]),
  (302, [(4, [.tidy [0, 3, 4, 5] [(0, none), (3, none), (4, none), (5, none)]])]),
  (303, [(2, [.lay 3 1, .tidy [0, 3] [(0, none), (3, none)]])]),
  (304, [(4, [.lay 4 1, .tidy [0, 4] [(0, none), (4, none)]])]),
  (305, [(1, [.tidy [0, 2, 3, 4, 10] [(0, none), (2, none), (3, none), (4, none), (10, none)]])])]
def wids : Wids := [(54, (.agg [.one, .row 2 .one, .one])), (61, (.agg [.one, .one, .one, .one, .one, .row 11 .one, .one])), (62, (.agg [.one, .one, .one, .one, .one, .row 11 .one, .one])), (91, (.agg [.one, .one, .one, .one, .one, .row 11 .one, .one])), (97, (.row 1 .one)), (98, (.row 1 .one)), (110, (.row 4 .one)), (111, (.row 4 .one)), (142, (.agg [.one, .one, .row 1 .one])), (144, (.agg [.one, .one, .row 1 .one])), (147, (.agg [.one, .row 2 .one, .one])), (148, (.agg [.one, .row 2 .one, .one])), (149, (.agg [.one, .rrow 2, .one])), (165, (.agg [(.agg [.one, .rrow 2, .one]), .one])), (175, (.row 1 .one)), (176, (.agg [.one, .one, .rrow 1])), (178, (.row 2 .one)), (179, (.row 2 .one)), (180, (.row 1 .one)), (183, (.agg [.one, .one, .one, .one, .one, .row 11 .one, .one])), (192, (.agg [(.agg [.row 1 .one]), .one])), (193, (.agg [.row 1 .one, .row 1 .one, .row 3 .one, .row 3 (.agg [.one, .row 2 .one, .one])])), (194, (.agg [.row 1 .one, .row 1 .one, .row 3 .one, .row 3 (.agg [.one, .row 2 .one, .one])])), (195, (.agg [(.agg [.row 1 .one]), .one])), (199, (.agg [.row 1 .one, .row 1 .one])), (201, (.row 4 .one)), (202, (.row 4 .one)), (203, (.row 4 .one)), (208, (.row 1 .one)), (217, (.row 1 .one)), (233, (.agg [.row 1 .one, .row 1 .one])), (238, (.row 1 .one)), (239, (.row 11 .one)), (256, (.row 1 .one))]
def orcs : List (Nat × (List AV → Mem → Option (AV × Mem))) := [(191, sortO)]
noncomputable def T : FuncId → Option EF := orcT (tableOf Try.prog tt pures hints wids) orcs
theorem tab {f : FuncId} {fn : Func} {F : EF} (hf : Try.prog.funcs[f]? = some fn) (h : (match compileF Try.prog tt pures fn with | some A => annF (hintOf hints f) (widOf wids f) A | none => none) = some F) (ho : (orcs.all fun p => !(p.1 == f)) = true) : T f = some F := orcT_at (table_at' hf h) ho
theorem hTT : ∀ t U, tt.get t = some U → tyOf Try.prog t = some U := Types.ok tt_rows
theorem calls {f : FuncId} {args : List AV} {res : AV} (h : E T f args [] = some (res, [])) : ACalls Try.prog f args res := E_calls mixed hTT (orcT_ok (table_ok _ _ _ _ _) (fun p hp => by cases List.mem_singleton.1 hp; exact sortOk)) h
theorem get_at {α : Type} {l : List α} {i : Nat} (h : i < l.length) : ∃ x, l[i]? = some x := Go.Abs.get_at h
end Go.Proofs.Ytaaajjinpppgeaa

/- The code of some functions, as the evaluator reads it (printed by a program of ours), checked against the program. Own work; no condition. -/
set_option linter.unusedVariables false
set_option linter.unusedSimpArgs false
set_option linter.unusedSectionVars false
namespace Go.Proofs.Ytaaajjinpppgeaa
open Go Go.Abs
set_option maxRecDepth 100000
-- laws.FnExactShared
def F5 : EF := ⟨(.seq (.region [(.op (.box 4) [(.tmp 0)] (some 1) true), (.op .mv [(.const (.bool false))] (some 2) true)] false) (.seq (.region [(.op .mv [(.const (.int .i64 1048576))] (some 3) true)] false) (.seq (.region [(.op (.loadN 4) [(.tmp 1)] (some 7) true), (.op .mv [(.tmp 3)] (some 8) true), (.pc (.const (.fn 38 [])) [(.tmp 7), (.tmp 8)] (some 9) true), (.op .mv [(.tmp 9)] (some 3) true)] false) (.seq (.seq (.region [(.op .mv [(.tmp 3)] (some 10) true), (.op (.bin .lss) [(.tmp 10), (.const (.int .i64 0))] (some 11) true)] false) (.cond (.tmp 11) (.seq (.region [(.op .mv [(.const (.bool true))] (some 2) true)] false) .ret) .skip)) (.seq (.region [(.op (.loadN 4) [(.tmp 1)] (some 12) true), (.pc (.const (.fn 40 [])) [(.tmp 12)] (some 13) true), (.pc (.const (.fn 39 [])) [(.tmp 13)] (some 14) true), (.op .mv [(.tmp 14)] (some 4) true)] false) (.seq (.region [(.op (.loadN 4) [(.tmp 1)] (some 15) true), (.pc (.const (.fn 40 [])) [(.tmp 15)] (some 16) true), (.op (.alloc (.agg [.nil, .nil, .nil, .nil])) [] (some 5) true), (.op (.storeN 4) [(.tmp 5), (.tmp 16)] none true)] false) (.seq (.region [(.op (.loadN 4) [(.tmp 5)] (some 17) true), (.pc (.const (.fn 41 [])) [(.tmp 17)] (some 18) true), (.op .mv [(.tmp 18)] (some 6) true)] false) (.seq (.seq (.region [(.op .mv [(.tmp 6)] (some 19) true), (.op .mv [(.tmp 4)] (some 20) true), (.op (.bin .neq) [(.tmp 19), (.tmp 20)] (some 21) true)] false) (.cond (.tmp 21) (.seq (.region [(.op .mv [(.const (.bool false))] (some 2) true)] false) .ret) .skip)) (.seq (.seq (.region [(.op (.loadN 4) [(.tmp 5)] (some 22) false), (.op (.loadN 4) [(.tmp 1)] (some 23) false), (.pc (.const (.fn 40 [])) [(.tmp 23)] (some 24) false), (.pc (.const (.fn 42 [])) [(.tmp 22), (.tmp 24)] (some 25) true), (.op .not [(.tmp 25)] (some 26) true)] true) (.cond (.tmp 26) (.seq (.region [(.op .mv [(.const (.bool false))] (some 2) true)] false) .ret) .skip)) (.seq (.region [(.op .mv [(.const (.bool true))] (some 2) true)] false) .ret)))))))))), [(.tmp 2)], 27, .one, none⟩
theorem t5 : T 5 = some F5 := tab Try.func5 (by kernel_rfl) rfl
-- laws.szDisk
def F38 : EF := ⟨(.seq (.region [(.op (.box 4) [(.tmp 0)] (some 2) true), (.op .mv [(.const (.int .i64 0))] (some 4) true)] false) (.seq (.region [(.op (.faddr 0) [(.tmp 2)] (some 5) true), (.op (.loadN 2) [(.tmp 5)] (some 6) true), (.op .mv [(.tmp 1)] (some 7) true), (.pc (.const (.fn 123 [])) [(.tmp 6), (.tmp 7)] (some 8) true), (.op .mv [(.tmp 8)] (some 1) true)] false) (.seq (.seq (.region [(.op .mv [(.tmp 1)] (some 9) true), (.op (.bin .lss) [(.tmp 9), (.const (.int .i64 0))] (some 10) true)] false) (.cond (.tmp 10) (.seq (.region [(.op .mv [(.const (.int .i64 (-1)))] (some 4) true)] false) .ret) .skip)) (.seq (.region [(.op (.faddr 2) [(.tmp 2)] (some 11) true), (.op .load1 [(.tmp 11)] (some 12) true), (.op .mv [(.tmp 1)] (some 13) true), (.pc (.const (.fn 124 [])) [(.tmp 12), (.tmp 13)] (some 14) true), (.op .mv [(.tmp 14)] (some 1) true)] false) (.seq (.seq (.region [(.op .mv [(.tmp 1)] (some 15) true), (.op (.bin .lss) [(.tmp 15), (.const (.int .i64 0))] (some 16) true)] false) (.cond (.tmp 16) (.seq (.region [(.op .mv [(.const (.int .i64 (-1)))] (some 4) true)] false) .ret) .skip)) (.seq (.region [(.op (.faddr 3) [(.tmp 2)] (some 17) true), (.op .load1 [(.tmp 17)] (some 18) true), (.op .mv [(.tmp 1)] (some 19) true), (.pc (.const (.fn 125 [])) [(.tmp 18), (.tmp 19)] (some 20) true), (.op .mv [(.tmp 20)] (some 1) true)] false) (.seq (.seq (.region [(.op .mv [(.tmp 1)] (some 21) true), (.op (.bin .lss) [(.tmp 21), (.const (.int .i64 0))] (some 22) true)] false) (.cond (.tmp 22) (.seq (.region [(.op .mv [(.const (.int .i64 (-1)))] (some 4) true)] false) .ret) .skip)) (.seq (.region [(.op .mv [(.tmp 1)] (some 23) true), (.op .mv [(.tmp 23)] (some 4) true)] false) .ret)))))))), [(.tmp 4)], 24, .one, none⟩
theorem t38 : T 38 = some F38 := tab Try.func38 (by kernel_rfl) rfl
-- spec.Shared
-- laws.toDisk
def F40 : EF := ⟨(.seq (.region [(.op (.box 4) [(.tmp 0)] (some 1) true), (.op (.alloc (.agg [.nil, .nil, .nil, .nil])) [] (some 2) true)] false) (.seq (.region [(.op (.alloc (.agg [.nil, .nil, .nil, .nil])) [] (some 3) true)] false) (.seq (.region [(.op (.faddr 0) [(.tmp 1)] (some 4) true), (.op (.loadN 2) [(.tmp 4)] (some 5) true), (.pc (.const (.fn 127 [])) [(.tmp 5)] (some 6) true), (.op (.faddr 0) [(.tmp 3)] (some 7) true), (.op (.storeN 2) [(.tmp 7), (.tmp 6)] none true)] false) (.seq (.region [(.op (.faddr 2) [(.tmp 1)] (some 8) true), (.op .load1 [(.tmp 8)] (some 9) true), (.pc (.const (.fn 128 [])) [(.tmp 9)] (some 10) true), (.op (.faddr 2) [(.tmp 3)] (some 11) true), (.op .store1 [(.tmp 11), (.tmp 10)] none true)] false) (.seq (.region [(.op (.faddr 3) [(.tmp 1)] (some 12) true), (.op .load1 [(.tmp 12)] (some 13) true), (.pc (.const (.fn 129 [])) [(.tmp 13)] (some 14) true), (.op (.faddr 3) [(.tmp 3)] (some 15) true), (.op .store1 [(.tmp 15), (.tmp 14)] none true)] false) (.seq (.region [(.op (.loadN 4) [(.tmp 3)] (some 16) true), (.op (.storeN 4) [(.tmp 2), (.tmp 16)] none true)] false) .ret)))))), [(.cell 2 (.loadN 4))], 17, .one, none⟩
theorem t40 : T 40 = some F40 := tab Try.func40 (by kernel_rfl) rfl
-- impl.Shared
-- laws.eqDisk
def F42 : EF := ⟨(.seq (.region [(.op (.box 4) [(.tmp 0)] (some 2) true), (.op (.box 4) [(.tmp 1)] (some 3) true), (.op .mv [(.const (.bool false))] (some 4) true)] false) (.seq (.seq (.region [(.op (.faddr 0) [(.tmp 2)] (some 5) true), (.op (.loadN 2) [(.tmp 5)] (some 6) true), (.op (.faddr 0) [(.tmp 3)] (some 7) true), (.op (.loadN 2) [(.tmp 7)] (some 8) true), (.pc (.const (.fn 131 [])) [(.tmp 6), (.tmp 8)] (some 9) true), (.op .not [(.tmp 9)] (some 10) true)] false) (.cond (.tmp 10) (.seq (.region [(.op .mv [(.const (.bool false))] (some 4) true)] false) .ret) .skip)) (.seq (.seq (.region [(.op (.faddr 2) [(.tmp 2)] (some 11) true), (.op .load1 [(.tmp 11)] (some 12) true), (.op (.faddr 2) [(.tmp 3)] (some 13) true), (.op .load1 [(.tmp 13)] (some 14) true), (.pc (.const (.fn 132 [])) [(.tmp 12), (.tmp 14)] (some 15) true), (.op .not [(.tmp 15)] (some 16) true)] false) (.cond (.tmp 16) (.seq (.region [(.op .mv [(.const (.bool false))] (some 4) true)] false) .ret) .skip)) (.seq (.seq (.region [(.op (.faddr 3) [(.tmp 2)] (some 17) true), (.op .load1 [(.tmp 17)] (some 18) true), (.op (.faddr 3) [(.tmp 3)] (some 19) true), (.op .load1 [(.tmp 19)] (some 20) true), (.pc (.const (.fn 133 [])) [(.tmp 18), (.tmp 20)] (some 21) true), (.op .not [(.tmp 21)] (some 22) true)] false) (.cond (.tmp 22) (.seq (.region [(.op .mv [(.const (.bool false))] (some 4) true)] false) .ret) .skip)) (.seq (.region [(.op .mv [(.const (.bool true))] (some 4) true)] false) .ret))))), [(.tmp 4)], 23, .one, none⟩
theorem t42 : T 42 = some F42 := tab Try.func42 (by kernel_rfl) rfl
-- laws.szBits
def F123 : EF := ⟨(.seq (.region [(.op (.box 2) [(.tmp 0)] (some 2) true), (.op .mv [(.const (.int .i64 0))] (some 4) true)] false) (.seq (.region [(.op (.faddr 0) [(.tmp 2)] (some 5) true), (.op .load1 [(.tmp 5)] (some 6) true), (.op .mv [(.tmp 1)] (some 7) true), (.pc (.const (.fn 134 [])) [(.tmp 6), (.tmp 7)] (some 8) true), (.op .mv [(.tmp 8)] (some 1) true)] false) (.seq (.seq (.region [(.op .mv [(.tmp 1)] (some 9) true), (.op (.bin .lss) [(.tmp 9), (.const (.int .i64 0))] (some 10) true)] false) (.cond (.tmp 10) (.seq (.region [(.op .mv [(.const (.int .i64 (-1)))] (some 4) true)] false) .ret) .skip)) (.seq (.region [(.op (.faddr 1) [(.tmp 2)] (some 11) true), (.op .load1 [(.tmp 11)] (some 12) true), (.op .mv [(.tmp 1)] (some 13) true), (.pc (.const (.fn 134 [])) [(.tmp 12), (.tmp 13)] (some 14) true), (.op .mv [(.tmp 14)] (some 1) true)] false) (.seq (.seq (.region [(.op .mv [(.tmp 1)] (some 15) true), (.op (.bin .lss) [(.tmp 15), (.const (.int .i64 0))] (some 16) true)] false) (.cond (.tmp 16) (.seq (.region [(.op .mv [(.const (.int .i64 (-1)))] (some 4) true)] false) .ret) .skip)) (.seq (.region [(.op .mv [(.tmp 1)] (some 17) true), (.op .mv [(.tmp 17)] (some 4) true)] false) .ret)))))), [(.tmp 4)], 18, .one, none⟩
theorem t123 : T 123 = some F123 := tab Try.func123 (by kernel_rfl) rfl
def H126_2 : List Vw := [.tidy [0, 1, 5] [(0, none), (1, none), (5, none)]]
theorem h126_2 (b : Nat) (s : St) : vwL b H126_2 s = vwL b [.tidy [0, 1, 5] [(0, none), (1, none), (5, none)]] s := rfl
def L126_2 : EC := (.seq (.seq (.region [(.op .mv [(.tmp 5)] (some 6) true), (.op .mv [(.tmp 0)] (some 7) true), (.op .len [(.tmp 7)] (some 8) true), (.op (.bin .lss) [(.tmp 6), (.tmp 8)] (some 9) true)] false) (.cond (.tmp 9) .skip (.exit 0))) (.seq (.block 1 (.seq (.region [(.op .mv [(.tmp 0)] (some 12) true), (.op .mv [(.tmp 5)] (some 13) true), (.op (.iaddr 1) [(.tmp 12), (.tmp 13)] (some 14) true), (.op .load1 [(.tmp 14)] (some 15) true), (.op .mv [(.tmp 1)] (some 16) true), (.op (.bin .eql) [(.tmp 15), (.tmp 16)] (some 17) true)] false) (.cond (.tmp 17) (.seq (.region [(.op .mv [(.const (.bool true))] (some 4) true)] false) .ret) .skip))) (.region [(.op .mv [(.tmp 5)] (some 10) true), (.op (.bin .add) [(.tmp 10), (.const (.int .i64 1))] (some 11) true), (.op .mv [(.tmp 11)] (some 5) true)] false)))
-- spec.l10Has
def F126 : EF := ⟨(.seq (.region [(.op .mv [(.const (.bool false))] (some 4) true)] false) (.seq (.seq (.region [(.op .mv [(.const (.int .i64 0))] (some 5) true)] false) (.block 0 (.loop H126_2 L126_2))) (.seq (.region [(.op .mv [(.const (.bool false))] (some 4) true)] false) .ret))), [(.tmp 4)], 18, .one, none⟩
theorem t126 : T 126 = some F126 := tab Try.func126 (by kernel_rfl) rfl
-- laws.toBits
def F127 : EF := ⟨(.seq (.region [(.op (.box 2) [(.tmp 0)] (some 1) true), (.op (.alloc (.agg [.nil, .nil])) [] (some 2) true)] false) (.seq (.region [(.op (.alloc (.agg [.nil, .nil])) [] (some 3) true)] false) (.seq (.region [(.op (.faddr 0) [(.tmp 1)] (some 4) true), (.op .load1 [(.tmp 4)] (some 5) true), (.pc (.const (.fn 136 [])) [(.tmp 5)] (some 6) true), (.op (.faddr 0) [(.tmp 3)] (some 7) true), (.op .store1 [(.tmp 7), (.tmp 6)] none true)] false) (.seq (.region [(.op (.faddr 1) [(.tmp 1)] (some 8) true), (.op .load1 [(.tmp 8)] (some 9) true), (.pc (.const (.fn 136 [])) [(.tmp 9)] (some 10) true), (.op (.faddr 1) [(.tmp 3)] (some 11) true), (.op .store1 [(.tmp 11), (.tmp 10)] none true)] false) (.seq (.region [(.op (.loadN 2) [(.tmp 3)] (some 12) true), (.op (.storeN 2) [(.tmp 2), (.tmp 12)] none true)] false) .ret))))), [(.cell 2 (.loadN 2))], 13, .one, none⟩
theorem t127 : T 127 = some F127 := tab Try.func127 (by kernel_rfl) rfl
-- slices.Contains[[]int,int]
def F130 : EF := ⟨(.seq (.region [(.op .mv [(.const (.bool false))] (some 4) true)] false) (.seq (.region [(.op .mv [(.tmp 0)] (some 5) true), (.op .mv [(.tmp 1)] (some 6) true), (.pc (.const (.fn 215 [])) [(.tmp 5), (.tmp 6)] (some 7) true), (.op (.bin .geq) [(.tmp 7), (.const (.int .i64 0))] (some 8) true), (.op .mv [(.tmp 8)] (some 4) true)] false) .ret)), [(.tmp 4)], 9, .one, none⟩
theorem t130 : T 130 = some F130 := tab Try.func130 (by kernel_rfl) rfl
-- laws.eqBits
def F131 : EF := ⟨(.seq (.region [(.op (.box 2) [(.tmp 0)] (some 2) true), (.op (.box 2) [(.tmp 1)] (some 3) true), (.op .mv [(.const (.bool false))] (some 4) true)] false) (.seq (.seq (.region [(.op (.faddr 0) [(.tmp 2)] (some 5) true), (.op .load1 [(.tmp 5)] (some 6) true), (.op (.faddr 0) [(.tmp 3)] (some 7) true), (.op .load1 [(.tmp 7)] (some 8) true), (.pc (.const (.fn 139 [])) [(.tmp 6), (.tmp 8)] (some 9) true), (.op .not [(.tmp 9)] (some 10) true)] false) (.cond (.tmp 10) (.seq (.region [(.op .mv [(.const (.bool false))] (some 4) true)] false) .ret) .skip)) (.seq (.seq (.region [(.op (.faddr 1) [(.tmp 2)] (some 11) true), (.op .load1 [(.tmp 11)] (some 12) true), (.op (.faddr 1) [(.tmp 3)] (some 13) true), (.op .load1 [(.tmp 13)] (some 14) true), (.pc (.const (.fn 139 [])) [(.tmp 12), (.tmp 14)] (some 15) true), (.op .not [(.tmp 15)] (some 16) true)] false) (.cond (.tmp 16) (.seq (.region [(.op .mv [(.const (.bool false))] (some 4) true)] false) .ret) .skip)) (.seq (.region [(.op .mv [(.const (.bool true))] (some 4) true)] false) .ret)))), [(.tmp 4)], 17, .one, none⟩
theorem t131 : T 131 = some F131 := tab Try.func131 (by kernel_rfl) rfl
-- laws.szBoolS
def F134 : EF := ⟨(.seq (.region [(.op .mv [(.const (.int .i64 0))] (some 4) true)] false) (.seq (.region [(.op .mv [(.tmp 1)] (some 5) true), (.op .mv [(.tmp 0)] (some 6) true), (.op .len [(.tmp 6)] (some 7) true), (.op (.bin .sub) [(.tmp 5), (.tmp 7)] (some 8) true), (.op .mv [(.tmp 8)] (some 1) true)] false) (.seq (.seq (.region [(.op .mv [(.tmp 1)] (some 9) true), (.op (.bin .lss) [(.tmp 9), (.const (.int .i64 0))] (some 10) true)] false) (.cond (.tmp 10) (.seq (.region [(.op .mv [(.const (.int .i64 (-1)))] (some 4) true)] false) .ret) .skip)) (.seq (.region [(.op .mv [(.tmp 1)] (some 11) true), (.op .mv [(.tmp 11)] (some 4) true)] false) .ret)))), [(.tmp 4)], 12, .one, none⟩
theorem t134 : T 134 = some F134 := tab Try.func134 (by kernel_rfl) rfl
def H136_3 : List Vw := [.tidy [0, 3, 4] [(0, none), (3, none), (4, none)]]
theorem h136_3 (b : Nat) (s : St) : vwL b H136_3 s = vwL b [.tidy [0, 3, 4] [(0, none), (3, none), (4, none)]] s := rfl
def L136_3 : EC := (.seq (.seq (.region [(.op .mv [(.tmp 4)] (some 8) true), (.op .mv [(.tmp 0)] (some 9) true), (.op .len [(.tmp 9)] (some 10) true), (.op (.bin .lss) [(.tmp 8), (.tmp 10)] (some 11) true)] false) (.cond (.tmp 11) .skip (.exit 0))) (.seq (.block 1 (.region [(.op .mv [(.tmp 3)] (some 14) true), (.op .mv [(.tmp 4)] (some 15) true), (.op .mv [(.tmp 0)] (some 16) true), (.op .mv [(.tmp 4)] (some 17) true), (.op (.iaddr 1) [(.tmp 16), (.tmp 17)] (some 18) true), (.op .load1 [(.tmp 18)] (some 19) true), (.op (.iaddr 1) [(.tmp 14), (.tmp 15)] (some 20) true), (.op .store1 [(.tmp 20), (.tmp 19)] none true)] false)) (.region [(.op .mv [(.tmp 4)] (some 12) true), (.op (.bin .add) [(.tmp 12), (.const (.int .i64 1))] (some 13) true), (.op .mv [(.tmp 13)] (some 4) true)] false)))
-- laws.toBoolS
def F136 : EF := ⟨(.seq (.region [(.op .mv [(.const .nil)] (some 2) true)] false) (.seq (.region [(.op .mv [(.tmp 0)] (some 5) true), (.op .len [(.tmp 5)] (some 6) true), (.op (.mkslice 1 1 (.bool false)) [(.tmp 6), (.tmp 6)] (some 7) true), (.op .mv [(.tmp 7)] (some 3) true)] false) (.seq (.seq (.region [(.op .mv [(.const (.int .i64 0))] (some 4) true)] false) (.block 0 (.loop H136_3 L136_3))) (.seq (.region [(.op .mv [(.tmp 3)] (some 21) true), (.op .mv [(.tmp 21)] (some 2) true)] false) .ret)))), [(.tmp 2)], 22, .one, none⟩
theorem t136 : T 136 = some F136 := tab Try.func136 (by kernel_rfl) rfl
def H139_4 : List Vw := [.tidy [0, 1, 5] [(0, none), (1, none), (5, none)]]
theorem h139_4 (b : Nat) (s : St) : vwL b H139_4 s = vwL b [.tidy [0, 1, 5] [(0, none), (1, none), (5, none)]] s := rfl
def L139_4 : EC := (.seq (.seq (.region [(.op .mv [(.tmp 5)] (some 11) true), (.op .mv [(.tmp 0)] (some 12) true), (.op .len [(.tmp 12)] (some 13) true), (.op (.bin .lss) [(.tmp 11), (.tmp 13)] (some 14) true)] false) (.cond (.tmp 14) .skip (.exit 0))) (.seq (.block 1 (.seq (.region [(.op .mv [(.tmp 0)] (some 17) false), (.op .mv [(.tmp 5)] (some 18) false), (.op (.iaddr 1) [(.tmp 17), (.tmp 18)] (some 19) false), (.op .load1 [(.tmp 19)] (some 20) false), (.op .mv [(.tmp 1)] (some 21) false), (.op .mv [(.tmp 5)] (some 22) false), (.op (.iaddr 1) [(.tmp 21), (.tmp 22)] (some 23) false), (.op .load1 [(.tmp 23)] (some 24) false), (.op (.binB true) [(.tmp 20), (.tmp 24)] (some 25) true)] true) (.cond (.tmp 25) (.seq (.region [(.op .mv [(.const (.bool false))] (some 4) true)] false) .ret) .skip))) (.region [(.op .mv [(.tmp 5)] (some 15) true), (.op (.bin .add) [(.tmp 15), (.const (.int .i64 1))] (some 16) true), (.op .mv [(.tmp 16)] (some 5) true)] false)))
-- laws.eqBoolS
def F139 : EF := ⟨(.seq (.region [(.op .mv [(.const (.bool false))] (some 4) true)] false) (.seq (.seq (.region [(.op .mv [(.tmp 0)] (some 6) true), (.op .len [(.tmp 6)] (some 7) true), (.op .mv [(.tmp 1)] (some 8) true), (.op .len [(.tmp 8)] (some 9) true), (.op (.bin .neq) [(.tmp 7), (.tmp 9)] (some 10) true)] false) (.cond (.tmp 10) (.seq (.region [(.op .mv [(.const (.bool false))] (some 4) true)] false) .ret) .skip)) (.seq (.seq (.region [(.op .mv [(.const (.int .i64 0))] (some 5) true)] false) (.block 0 (.loop H139_4 L139_4))) (.seq (.region [(.op .mv [(.const (.bool true))] (some 4) true)] false) .ret)))), [(.tmp 4)], 26, .one, none⟩
theorem t139 : T 139 = some F139 := tab Try.func139 (by kernel_rfl) rfl
def H99_4 : List Vw := [.tidy [0, 1, 5] [(0, none), (1, none), (5, none)]]
theorem h99_4 (b : Nat) (s : St) : vwL b H99_4 s = vwL b [.tidy [0, 1, 5] [(0, none), (1, none), (5, none)]] s := rfl
def L99_4 : EC := (.seq (.seq (.region [(.op .mv [(.tmp 5)] (some 11) true), (.op .mv [(.tmp 0)] (some 12) true), (.op .len [(.tmp 12)] (some 13) true), (.op (.bin .lss) [(.tmp 11), (.tmp 13)] (some 14) true)] false) (.cond (.tmp 14) .skip (.exit 0))) (.seq (.block 1 (.seq (.region [(.op .mv [(.tmp 0)] (some 17) false), (.op .mv [(.tmp 5)] (some 18) false), (.op (.iaddr 1) [(.tmp 17), (.tmp 18)] (some 19) false), (.op .load1 [(.tmp 19)] (some 20) false), (.op .mv [(.tmp 1)] (some 21) false), (.op .mv [(.tmp 5)] (some 22) false), (.op (.iaddr 1) [(.tmp 21), (.tmp 22)] (some 23) false), (.op .load1 [(.tmp 23)] (some 24) false), (.op (.bin .neq) [(.tmp 20), (.tmp 24)] (some 25) true)] true) (.cond (.tmp 25) (.seq (.region [(.op .mv [(.const (.bool false))] (some 4) true)] false) .ret) .skip))) (.region [(.op .mv [(.tmp 5)] (some 15) true), (.op (.bin .add) [(.tmp 15), (.const (.int .i64 1))] (some 16) true), (.op .mv [(.tmp 16)] (some 5) true)] false)))
-- laws.eqIntS
def F99 : EF := ⟨(.seq (.region [(.op .mv [(.const (.bool false))] (some 4) true)] false) (.seq (.seq (.region [(.op .mv [(.tmp 0)] (some 6) true), (.op .len [(.tmp 6)] (some 7) true), (.op .mv [(.tmp 1)] (some 8) true), (.op .len [(.tmp 8)] (some 9) true), (.op (.bin .neq) [(.tmp 7), (.tmp 9)] (some 10) true)] false) (.cond (.tmp 10) (.seq (.region [(.op .mv [(.const (.bool false))] (some 4) true)] false) .ret) .skip)) (.seq (.seq (.region [(.op .mv [(.const (.int .i64 0))] (some 5) true)] false) (.block 0 (.loop H99_4 L99_4))) (.seq (.region [(.op .mv [(.const (.bool true))] (some 4) true)] false) .ret)))), [(.tmp 4)], 26, .one, none⟩
theorem t99 : T 99 = some F99 := tab Try.func99 (by kernel_rfl) rfl
-- laws.szIntS
def F182 : EF := ⟨(.seq (.region [(.op .mv [(.const (.int .i64 0))] (some 4) true)] false) (.seq (.region [(.op .mv [(.tmp 1)] (some 5) true), (.op .mv [(.tmp 0)] (some 6) true), (.op .len [(.tmp 6)] (some 7) true), (.op (.bin .sub) [(.tmp 5), (.tmp 7)] (some 8) true), (.op .mv [(.tmp 8)] (some 1) true)] false) (.seq (.seq (.region [(.op .mv [(.tmp 1)] (some 9) true), (.op (.bin .lss) [(.tmp 9), (.const (.int .i64 0))] (some 10) true)] false) (.cond (.tmp 10) (.seq (.region [(.op .mv [(.const (.int .i64 (-1)))] (some 4) true)] false) .ret) .skip)) (.seq (.region [(.op .mv [(.tmp 1)] (some 11) true), (.op .mv [(.tmp 11)] (some 4) true)] false) .ret)))), [(.tmp 4)], 12, .one, none⟩
theorem t182 : T 182 = some F182 := tab Try.func182 (by kernel_rfl) rfl
def H184_3 : List Vw := [.tidy [0, 3, 4] [(0, none), (3, none), (4, none)]]
theorem h184_3 (b : Nat) (s : St) : vwL b H184_3 s = vwL b [.tidy [0, 3, 4] [(0, none), (3, none), (4, none)]] s := rfl
def L184_3 : EC := (.seq (.seq (.region [(.op .mv [(.tmp 4)] (some 8) true), (.op .mv [(.tmp 0)] (some 9) true), (.op .len [(.tmp 9)] (some 10) true), (.op (.bin .lss) [(.tmp 8), (.tmp 10)] (some 11) true)] false) (.cond (.tmp 11) .skip (.exit 0))) (.seq (.block 1 (.region [(.op .mv [(.tmp 3)] (some 14) true), (.op .mv [(.tmp 4)] (some 15) true), (.op .mv [(.tmp 0)] (some 16) true), (.op .mv [(.tmp 4)] (some 17) true), (.op (.iaddr 1) [(.tmp 16), (.tmp 17)] (some 18) true), (.op .load1 [(.tmp 18)] (some 19) true), (.op (.iaddr 1) [(.tmp 14), (.tmp 15)] (some 20) true), (.op .store1 [(.tmp 20), (.tmp 19)] none true)] false)) (.region [(.op .mv [(.tmp 4)] (some 12) true), (.op (.bin .add) [(.tmp 12), (.const (.int .i64 1))] (some 13) true), (.op .mv [(.tmp 13)] (some 4) true)] false)))
-- laws.toIntS
def F184 : EF := ⟨(.seq (.region [(.op .mv [(.const .nil)] (some 2) true)] false) (.seq (.region [(.op .mv [(.tmp 0)] (some 5) true), (.op .len [(.tmp 5)] (some 6) true), (.op (.mkslice 1 8 (.int .i64 0)) [(.tmp 6), (.tmp 6)] (some 7) true), (.op .mv [(.tmp 7)] (some 3) true)] false) (.seq (.seq (.region [(.op .mv [(.const (.int .i64 0))] (some 4) true)] false) (.block 0 (.loop H184_3 L184_3))) (.seq (.region [(.op .mv [(.tmp 3)] (some 21) true), (.op .mv [(.tmp 21)] (some 2) true)] false) .ret)))), [(.tmp 2)], 22, .one, none⟩
theorem t184 : T 184 = some F184 := tab Try.func184 (by kernel_rfl) rfl
-- laws.szInode
def F211 : EF := ⟨(.seq (.region [(.op (.box 3) [(.tmp 0)] (some 2) true), (.op .mv [(.const (.int .i64 0))] (some 4) true)] false) (.seq (.region [(.op (.faddr 2) [(.tmp 2)] (some 5) true), (.op .load1 [(.tmp 5)] (some 6) true), (.op .mv [(.tmp 1)] (some 7) true), (.pc (.const (.fn 182 [])) [(.tmp 6), (.tmp 7)] (some 8) true), (.op .mv [(.tmp 8)] (some 1) true)] false) (.seq (.seq (.region [(.op .mv [(.tmp 1)] (some 9) true), (.op (.bin .lss) [(.tmp 9), (.const (.int .i64 0))] (some 10) true)] false) (.cond (.tmp 10) (.seq (.region [(.op .mv [(.const (.int .i64 (-1)))] (some 4) true)] false) .ret) .skip)) (.seq (.region [(.op .mv [(.tmp 1)] (some 11) true), (.op .mv [(.tmp 11)] (some 4) true)] false) .ret)))), [(.tmp 4)], 12, .one, none⟩
theorem t211 : T 211 = some F211 := tab Try.func211 (by kernel_rfl) rfl
-- laws.szBlock
def F212 : EF := ⟨(.seq (.region [(.op (.box 3) [(.tmp 0)] (some 2) true), (.op .mv [(.const (.int .i64 0))] (some 4) true)] false) (.seq (.region [(.op (.faddr 1) [(.tmp 2)] (some 5) true), (.op .load1 [(.tmp 5)] (some 6) true), (.op .mv [(.tmp 1)] (some 7) true), (.pc (.const (.fn 263 [])) [(.tmp 6), (.tmp 7)] (some 8) true), (.op .mv [(.tmp 8)] (some 1) true)] false) (.seq (.seq (.region [(.op .mv [(.tmp 1)] (some 9) true), (.op (.bin .lss) [(.tmp 9), (.const (.int .i64 0))] (some 10) true)] false) (.cond (.tmp 10) (.seq (.region [(.op .mv [(.const (.int .i64 (-1)))] (some 4) true)] false) .ret) .skip)) (.seq (.region [(.op .mv [(.tmp 1)] (some 11) true), (.op (.faddr 2) [(.tmp 2)] (some 12) true), (.op .load1 [(.tmp 12)] (some 13) true), (.op .lenStr [(.tmp 13)] (some 14) true), (.op (.bin .sub) [(.tmp 11), (.tmp 14)] (some 15) true), (.op .mv [(.tmp 15)] (some 1) true)] false) (.seq (.seq (.region [(.op .mv [(.tmp 1)] (some 16) true), (.op (.bin .lss) [(.tmp 16), (.const (.int .i64 0))] (some 17) true)] false) (.cond (.tmp 17) (.seq (.region [(.op .mv [(.const (.int .i64 (-1)))] (some 4) true)] false) .ret) .skip)) (.seq (.region [(.op .mv [(.tmp 1)] (some 18) true), (.op .mv [(.tmp 18)] (some 4) true)] false) .ret)))))), [(.tmp 4)], 19, .one, none⟩
theorem t212 : T 212 = some F212 := tab Try.func212 (by kernel_rfl) rfl
-- laws.toInode
def F213 : EF := ⟨(.seq (.region [(.op (.box 3) [(.tmp 0)] (some 1) true), (.op (.alloc (.agg [(.int .i64 0), (.int .i64 0), .nil])) [] (some 2) true)] false) (.seq (.region [(.op (.alloc (.agg [(.int .i64 0), (.int .i64 0), .nil])) [] (some 3) true)] false) (.seq (.region [(.op (.faddr 0) [(.tmp 1)] (some 4) true), (.op .load1 [(.tmp 4)] (some 5) true), (.op (.faddr 0) [(.tmp 3)] (some 6) true), (.op .store1 [(.tmp 6), (.tmp 5)] none true)] false) (.seq (.region [(.op (.faddr 1) [(.tmp 1)] (some 7) true), (.op .load1 [(.tmp 7)] (some 8) true), (.op (.faddr 1) [(.tmp 3)] (some 9) true), (.op .store1 [(.tmp 9), (.tmp 8)] none true)] false) (.seq (.region [(.op (.faddr 2) [(.tmp 1)] (some 10) true), (.op .load1 [(.tmp 10)] (some 11) true), (.pc (.const (.fn 184 [])) [(.tmp 11)] (some 12) true), (.op (.faddr 2) [(.tmp 3)] (some 13) true), (.op .store1 [(.tmp 13), (.tmp 12)] none true)] false) (.seq (.region [(.op (.loadN 3) [(.tmp 3)] (some 14) true), (.op (.storeN 3) [(.tmp 2), (.tmp 14)] none true)] false) .ret)))))), [(.cell 2 (.loadN 3))], 15, .one, none⟩
theorem t213 : T 213 = some F213 := tab Try.func213 (by kernel_rfl) rfl
-- laws.toBlock
def F214 : EF := ⟨(.seq (.region [(.op (.box 3) [(.tmp 0)] (some 1) true), (.op (.alloc (.agg [(.bool false), .nil, (.str ⟨#[]⟩)])) [] (some 2) true)] false) (.seq (.region [(.op (.alloc (.agg [(.bool false), .nil, (.str ⟨#[]⟩)])) [] (some 3) true)] false) (.seq (.region [(.op (.faddr 0) [(.tmp 1)] (some 4) true), (.op .load1 [(.tmp 4)] (some 5) true), (.op (.faddr 0) [(.tmp 3)] (some 6) true), (.op .store1 [(.tmp 6), (.tmp 5)] none true)] false) (.seq (.region [(.op (.faddr 1) [(.tmp 1)] (some 7) true), (.op .load1 [(.tmp 7)] (some 8) true), (.pc (.const (.fn 264 [])) [(.tmp 8)] (some 9) true), (.op (.faddr 1) [(.tmp 3)] (some 10) true), (.op .store1 [(.tmp 10), (.tmp 9)] none true)] false) (.seq (.region [(.op (.faddr 2) [(.tmp 1)] (some 11) true), (.op .load1 [(.tmp 11)] (some 12) true), (.op (.faddr 2) [(.tmp 3)] (some 13) true), (.op .store1 [(.tmp 13), (.tmp 12)] none true)] false) (.seq (.region [(.op (.loadN 3) [(.tmp 3)] (some 14) true), (.op (.storeN 3) [(.tmp 2), (.tmp 14)] none true)] false) .ret)))))), [(.cell 2 (.loadN 3))], 15, .one, none⟩
theorem t214 : T 214 = some F214 := tab Try.func214 (by kernel_rfl) rfl
def H215_2 : List Vw := [.tidy [0, 1, 7, 8] [(0, none), (1, none), (7, none), (8, none)]]
theorem h215_2 (b : Nat) (s : St) : vwL b H215_2 s = vwL b [.tidy [0, 1, 7, 8] [(0, none), (1, none), (7, none), (8, none)]] s := rfl
def L215_2 : EC := (.seq (.region [(.op (.bin .lss) [(.tmp 8), (.tmp 7)] (some 9) true)] false) (.seq (.cond (.tmp 9) .skip (.exit 0)) (.seq (.block 1 (.seq (.region [(.op .mv [(.tmp 8)] (some 10) true), (.op .mv [(.tmp 10)] (some 5) true)] false) (.seq (.region [(.op .mv [(.tmp 1)] (some 11) true), (.op .mv [(.tmp 0)] (some 12) true), (.op .mv [(.tmp 5)] (some 13) true), (.op (.iaddr 1) [(.tmp 12), (.tmp 13)] (some 14) true), (.op .load1 [(.tmp 14)] (some 15) true), (.op (.bin .eql) [(.tmp 11), (.tmp 15)] (some 16) true)] false) (.cond (.tmp 16) (.seq (.region [(.op .mv [(.tmp 5)] (some 17) true), (.op .mv [(.tmp 17)] (some 4) true)] false) .ret) .skip)))) (.region [(.op (.bin .add) [(.tmp 8), (.const (.int .i64 1))] (some 18) true), (.op .mv [(.tmp 18)] (some 8) true)] false))))
-- slices.Index[[]int,int]
def F215 : EF := ⟨(.seq (.region [(.op .mv [(.const (.int .i64 0))] (some 4) true)] false) (.seq (.seq (.region [(.op .mv [(.tmp 0)] (some 6) true), (.op .len [(.tmp 6)] (some 7) true), (.op .mv [(.const (.int .i64 0))] (some 8) true)] false) (.block 0 (.loop H215_2 L215_2))) (.seq (.region [(.op .mv [(.const (.int .i64 (-1)))] (some 4) true)] false) .ret))), [(.tmp 4)], 19, .one, none⟩
theorem t215 : T 215 = some F215 := tab Try.func215 (by kernel_rfl) rfl
-- laws.eqSlot
def F218 : EF := ⟨(.seq (.region [(.op (.box 2) [(.tmp 0)] (some 2) true), (.op (.box 2) [(.tmp 1)] (some 3) true), (.op .mv [(.const (.bool false))] (some 4) true)] false) (.seq (.seq (.region [(.op (.faddr 0) [(.tmp 2)] (some 5) true), (.op .load1 [(.tmp 5)] (some 6) true), (.op (.faddr 0) [(.tmp 3)] (some 7) true), (.op .load1 [(.tmp 7)] (some 8) true), (.op (.bin .neq) [(.tmp 6), (.tmp 8)] (some 9) true)] false) (.cond (.tmp 9) (.seq (.region [(.op .mv [(.const (.bool false))] (some 4) true)] false) .ret) .skip)) (.seq (.seq (.region [(.op (.faddr 1) [(.tmp 2)] (some 10) true), (.op .load1 [(.tmp 10)] (some 11) true), (.op (.faddr 1) [(.tmp 3)] (some 12) true), (.op .load1 [(.tmp 12)] (some 13) true), (.op (.bin .neq) [(.tmp 11), (.tmp 13)] (some 14) true)] false) (.cond (.tmp 14) (.seq (.region [(.op .mv [(.const (.bool false))] (some 4) true)] false) .ret) .skip)) (.seq (.region [(.op .mv [(.const (.bool true))] (some 4) true)] false) .ret)))), [(.tmp 4)], 15, .one, none⟩
theorem t218 : T 218 = some F218 := tab Try.func218 (by kernel_rfl) rfl
-- laws.eqInode
def F50 : EF := ⟨(.seq (.region [(.op (.box 3) [(.tmp 0)] (some 2) true), (.op (.box 3) [(.tmp 1)] (some 3) true), (.op .mv [(.const (.bool false))] (some 4) true)] false) (.seq (.seq (.region [(.op (.faddr 0) [(.tmp 2)] (some 5) true), (.op .load1 [(.tmp 5)] (some 6) true), (.op (.faddr 0) [(.tmp 3)] (some 7) true), (.op .load1 [(.tmp 7)] (some 8) true), (.op (.bin .neq) [(.tmp 6), (.tmp 8)] (some 9) true)] false) (.cond (.tmp 9) (.seq (.region [(.op .mv [(.const (.bool false))] (some 4) true)] false) .ret) .skip)) (.seq (.seq (.region [(.op (.faddr 1) [(.tmp 2)] (some 10) true), (.op .load1 [(.tmp 10)] (some 11) true), (.op (.faddr 1) [(.tmp 3)] (some 12) true), (.op .load1 [(.tmp 12)] (some 13) true), (.op (.bin .neq) [(.tmp 11), (.tmp 13)] (some 14) true)] false) (.cond (.tmp 14) (.seq (.region [(.op .mv [(.const (.bool false))] (some 4) true)] false) .ret) .skip)) (.seq (.seq (.region [(.op (.faddr 2) [(.tmp 2)] (some 15) true), (.op .load1 [(.tmp 15)] (some 16) true), (.op (.faddr 2) [(.tmp 3)] (some 17) true), (.op .load1 [(.tmp 17)] (some 18) true), (.pc (.const (.fn 99 [])) [(.tmp 16), (.tmp 18)] (some 19) true), (.op .not [(.tmp 19)] (some 20) true)] false) (.cond (.tmp 20) (.seq (.region [(.op .mv [(.const (.bool false))] (some 4) true)] false) .ret) .skip)) (.seq (.region [(.op .mv [(.const (.bool true))] (some 4) true)] false) .ret))))), [(.tmp 4)], 21, .one, none⟩
theorem t50 : T 50 = some F50 := tab Try.func50 (by kernel_rfl) rfl
-- laws.eqBlock
def F56 : EF := ⟨(.seq (.region [(.op (.box 3) [(.tmp 0)] (some 2) true), (.op (.box 3) [(.tmp 1)] (some 3) true), (.op .mv [(.const (.bool false))] (some 4) true)] false) (.seq (.seq (.region [(.op (.faddr 0) [(.tmp 2)] (some 5) true), (.op .load1 [(.tmp 5)] (some 6) true), (.op (.faddr 0) [(.tmp 3)] (some 7) true), (.op .load1 [(.tmp 7)] (some 8) true), (.op (.binB true) [(.tmp 6), (.tmp 8)] (some 9) true)] false) (.cond (.tmp 9) (.seq (.region [(.op .mv [(.const (.bool false))] (some 4) true)] false) .ret) .skip)) (.seq (.seq (.region [(.op (.faddr 1) [(.tmp 2)] (some 10) true), (.op .load1 [(.tmp 10)] (some 11) true), (.op (.faddr 1) [(.tmp 3)] (some 12) true), (.op .load1 [(.tmp 12)] (some 13) true), (.pc (.const (.fn 150 [])) [(.tmp 11), (.tmp 13)] (some 14) true), (.op .not [(.tmp 14)] (some 15) true)] false) (.cond (.tmp 15) (.seq (.region [(.op .mv [(.const (.bool false))] (some 4) true)] false) .ret) .skip)) (.seq (.seq (.region [(.op (.faddr 2) [(.tmp 2)] (some 16) true), (.op .load1 [(.tmp 16)] (some 17) true), (.op (.faddr 2) [(.tmp 3)] (some 18) true), (.op .load1 [(.tmp 18)] (some 19) true), (.op (.bin .neq) [(.tmp 17), (.tmp 19)] (some 20) true)] false) (.cond (.tmp 20) (.seq (.region [(.op .mv [(.const (.bool false))] (some 4) true)] false) .ret) .skip)) (.seq (.region [(.op .mv [(.const (.bool true))] (some 4) true)] false) .ret))))), [(.tmp 4)], 21, .one, none⟩
theorem t56 : T 56 = some F56 := tab Try.func56 (by kernel_rfl) rfl
-- laws.szSlot
def F292 : EF := ⟨(.seq (.region [(.op (.box 2) [(.tmp 0)] (some 2) true), (.op .mv [(.const (.int .i64 0))] (some 4) true)] false) (.seq (.region [(.op .mv [(.tmp 1)] (some 5) true), (.op (.faddr 0) [(.tmp 2)] (some 6) true), (.op .load1 [(.tmp 6)] (some 7) true), (.op .lenStr [(.tmp 7)] (some 8) true), (.op (.bin .sub) [(.tmp 5), (.tmp 8)] (some 9) true), (.op .mv [(.tmp 9)] (some 1) true)] false) (.seq (.seq (.region [(.op .mv [(.tmp 1)] (some 10) true), (.op (.bin .lss) [(.tmp 10), (.const (.int .i64 0))] (some 11) true)] false) (.cond (.tmp 11) (.seq (.region [(.op .mv [(.const (.int .i64 (-1)))] (some 4) true)] false) .ret) .skip)) (.seq (.region [(.op .mv [(.tmp 1)] (some 12) true), (.op .mv [(.tmp 12)] (some 4) true)] false) .ret)))), [(.tmp 4)], 13, .one, none⟩
theorem t292 : T 292 = some F292 := tab Try.func292 (by kernel_rfl) rfl
-- laws.toSlot
def F293 : EF := ⟨(.seq (.region [(.op (.box 2) [(.tmp 0)] (some 1) true), (.op (.alloc (.agg [(.str ⟨#[]⟩), (.int .i64 0)])) [] (some 2) true)] false) (.seq (.region [(.op (.alloc (.agg [(.str ⟨#[]⟩), (.int .i64 0)])) [] (some 3) true)] false) (.seq (.region [(.op (.faddr 0) [(.tmp 1)] (some 4) true), (.op .load1 [(.tmp 4)] (some 5) true), (.op (.faddr 0) [(.tmp 3)] (some 6) true), (.op .store1 [(.tmp 6), (.tmp 5)] none true)] false) (.seq (.region [(.op (.faddr 1) [(.tmp 1)] (some 7) true), (.op .load1 [(.tmp 7)] (some 8) true), (.op (.faddr 1) [(.tmp 3)] (some 9) true), (.op .store1 [(.tmp 9), (.tmp 8)] none true)] false) (.seq (.region [(.op (.loadN 2) [(.tmp 3)] (some 10) true), (.op (.storeN 2) [(.tmp 2), (.tmp 10)] none true)] false) .ret))))), [(.cell 2 (.loadN 2))], 11, .one, none⟩
theorem t293 : T 293 = some F293 := tab Try.func293 (by kernel_rfl) rfl
end Go.Proofs.Ytaaajjinpppgeaa

/- Rows of structs: comparing, counting, copying: one proof for all kinds. Own work; no condition. -/
set_option linter.unusedVariables false
set_option linter.unusedSimpArgs false
set_option linter.unusedSectionVars false
namespace Go.Proofs.Ytaaajjinpppgeaa
open Go Go.Abs
set_option maxRecDepth 100000
def Heq : List Vw := [.tidy [0, 1, 5] [(0, none), (1, none), (5, none)]]
theorem heq (b : Nat) (s : St) : vwL b Heq s = vwL b [.tidy [0, 1, 5] [(0, none), (1, none), (5, none)]] s := rfl
def Leq (s : Nat) (n : Nat) (f : Nat) : EC := (.seq (.seq (.region [(.op .mv [(.tmp 5)] (some 11) true), (.op .mv [(.tmp 0)] (some 12) true), (.op .len [(.tmp 12)] (some 13) true), (.op (.bin .lss) [(.tmp 11), (.tmp 13)] (some 14) true)] false) (.cond (.tmp 14) .skip (.exit 0))) (.seq (.block 1 (.seq (.region [(.op .mv [(.tmp 0)] (some 17) false), (.op .mv [(.tmp 5)] (some 18) false), (.op (.iaddr s) [(.tmp 17), (.tmp 18)] (some 19) false), (.op (.loadN n) [(.tmp 19)] (some 20) false), (.op .mv [(.tmp 1)] (some 21) false), (.op .mv [(.tmp 5)] (some 22) false), (.op (.iaddr s) [(.tmp 21), (.tmp 22)] (some 23) false), (.op (.loadN n) [(.tmp 23)] (some 24) false), (.pc (.const (.fn f [])) [(.tmp 20), (.tmp 24)] (some 25) true), (.op .not [(.tmp 25)] (some 26) true)] true) (.cond (.tmp 26) (.seq (.region [(.op .mv [(.const (.bool false))] (some 4) true)] false) .ret) .skip))) (.region [(.op .mv [(.tmp 5)] (some 15) true), (.op (.bin .add) [(.tmp 15), (.const (.int .i64 1))] (some 16) true), (.op .mv [(.tmp 16)] (some 5) true)] false)))
def Feq (s : Nat) (n : Nat) (f : Nat) : EF := ⟨(.seq (.region [(.op .mv [(.const (.bool false))] (some 4) true)] false) (.seq (.seq (.region [(.op .mv [(.tmp 0)] (some 6) true), (.op .len [(.tmp 6)] (some 7) true), (.op .mv [(.tmp 1)] (some 8) true), (.op .len [(.tmp 8)] (some 9) true), (.op (.bin .neq) [(.tmp 7), (.tmp 9)] (some 10) true)] false) (.cond (.tmp 10) (.seq (.region [(.op .mv [(.const (.bool false))] (some 4) true)] false) .ret) .skip)) (.seq (.seq (.region [(.op .mv [(.const (.int .i64 0))] (some 5) true)] false) (.block 0 (.loop Heq (Leq s n f)))) (.seq (.region [(.op .mv [(.const (.bool true))] (some 4) true)] false) .ret)))), [(.tmp 4)], 27, .one, none⟩
def Hsz : List Vw := [.tidy [0, 1, 5] [(0, none), (1, none), (5, none)]]
theorem hsz (b : Nat) (s : St) : vwL b Hsz s = vwL b [.tidy [0, 1, 5] [(0, none), (1, none), (5, none)]] s := rfl
def Lsz (s : Nat) (n : Nat) (f : Nat) : EC := (.seq (.seq (.region [(.op .mv [(.tmp 5)] (some 12) true), (.op .mv [(.tmp 0)] (some 13) true), (.op .len [(.tmp 13)] (some 14) true), (.op (.bin .lss) [(.tmp 12), (.tmp 14)] (some 15) true)] false) (.cond (.tmp 15) .skip (.exit 0))) (.seq (.block 1 (.seq (.region [(.op .mv [(.tmp 0)] (some 18) true), (.op .mv [(.tmp 5)] (some 19) true), (.op (.iaddr s) [(.tmp 18), (.tmp 19)] (some 20) true), (.op (.loadN n) [(.tmp 20)] (some 21) true), (.op .mv [(.tmp 1)] (some 22) true), (.pc (.const (.fn f [])) [(.tmp 21), (.tmp 22)] (some 23) true), (.op .mv [(.tmp 23)] (some 1) true)] false) (.seq (.region [(.op .mv [(.tmp 1)] (some 24) true), (.op (.bin .lss) [(.tmp 24), (.const (.int .i64 0))] (some 25) true)] false) (.cond (.tmp 25) (.seq (.region [(.op .mv [(.const (.int .i64 (-1)))] (some 4) true)] false) .ret) .skip)))) (.region [(.op .mv [(.tmp 5)] (some 16) true), (.op (.bin .add) [(.tmp 16), (.const (.int .i64 1))] (some 17) true), (.op .mv [(.tmp 17)] (some 5) true)] false)))
def Fsz (s : Nat) (n : Nat) (f : Nat) : EF := ⟨(.seq (.region [(.op .mv [(.const (.int .i64 0))] (some 4) true)] false) (.seq (.region [(.op .mv [(.tmp 1)] (some 6) true), (.op .mv [(.tmp 0)] (some 7) true), (.op .len [(.tmp 7)] (some 8) true), (.op (.bin .sub) [(.tmp 6), (.tmp 8)] (some 9) true), (.op .mv [(.tmp 9)] (some 1) true)] false) (.seq (.seq (.region [(.op .mv [(.tmp 1)] (some 10) true), (.op (.bin .lss) [(.tmp 10), (.const (.int .i64 0))] (some 11) true)] false) (.cond (.tmp 11) (.seq (.region [(.op .mv [(.const (.int .i64 (-1)))] (some 4) true)] false) .ret) .skip)) (.seq (.seq (.region [(.op .mv [(.const (.int .i64 0))] (some 5) true)] false) (.block 0 (.loop Hsz (Lsz s n f)))) (.seq (.region [(.op .mv [(.tmp 1)] (some 26) true), (.op .mv [(.tmp 26)] (some 4) true)] false) .ret))))), [(.tmp 4)], 27, .one, none⟩
def Hto : List Vw := [.tidy [0, 3, 4] [(0, none), (3, none), (4, none)]]
theorem hto (b : Nat) (s : St) : vwL b Hto s = vwL b [.tidy [0, 3, 4] [(0, none), (3, none), (4, none)]] s := rfl
def Lto (s : Nat) (by_ : Nat) (z : AV) (n : Nat) (f : Nat) : EC := (.seq (.seq (.region [(.op .mv [(.tmp 4)] (some 8) true), (.op .mv [(.tmp 0)] (some 9) true), (.op .len [(.tmp 9)] (some 10) true), (.op (.bin .lss) [(.tmp 8), (.tmp 10)] (some 11) true)] false) (.cond (.tmp 11) .skip (.exit 0))) (.seq (.block 1 (.region [(.op .mv [(.tmp 3)] (some 14) true), (.op .mv [(.tmp 4)] (some 15) true), (.op .mv [(.tmp 0)] (some 16) true), (.op .mv [(.tmp 4)] (some 17) true), (.op (.iaddr s) [(.tmp 16), (.tmp 17)] (some 18) true), (.op (.loadN n) [(.tmp 18)] (some 19) true), (.pc (.const (.fn f [])) [(.tmp 19)] (some 20) true), (.op (.iaddr s) [(.tmp 14), (.tmp 15)] (some 21) true), (.op (.storeN n) [(.tmp 21), (.tmp 20)] none true)] false)) (.region [(.op .mv [(.tmp 4)] (some 12) true), (.op (.bin .add) [(.tmp 12), (.const (.int .i64 1))] (some 13) true), (.op .mv [(.tmp 13)] (some 4) true)] false)))
def Fto (s : Nat) (by_ : Nat) (z : AV) (n : Nat) (f : Nat) : EF := ⟨(.seq (.region [(.op .mv [(.const .nil)] (some 2) true)] false) (.seq (.region [(.op .mv [(.tmp 0)] (some 5) true), (.op .len [(.tmp 5)] (some 6) true), (.op (.mkslice s by_ z) [(.tmp 6), (.tmp 6)] (some 7) true), (.op .mv [(.tmp 7)] (some 3) true)] false) (.seq (.seq (.region [(.op .mv [(.const (.int .i64 0))] (some 4) true)] false) (.block 0 (.loop Hto (Lto s by_ z n f)))) (.seq (.region [(.op .mv [(.tmp 3)] (some 22) true), (.op .mv [(.tmp 22)] (some 2) true)] false) .ret)))), [(.tmp 2)], 23, .one, none⟩


section
variable {α : Type} [DecidableEq α] {enc : α → AV} {s n f k : Nat}
theorem geq (ht : T k = some (Feq s n f)) (henc : ∀ x, AV.agg ((enc x).cells.take n) = enc x) (hln : ∀ x, n ≤ (enc x).cells.length) (hcl : ∀ x, (enc x).cells.all closedC = true) (hd : ∀ x, isDef (enc x) = true)
    (hf : ∀ x y, E T f [enc x, enc y] [] = some (.bool (decide (x = y)), [])) (xs ys : List α) (ha : xs.length ≤ maxLen) : E T k [.ro s (xs.map enc), .ro s (ys.map enc)] [] = some (.bool (decide (xs = ys)), []) := by
  rw [E_eq ht (Nat.le_of_ble_eq_true rfl)]
  simp only [Feq, heq, go_sem, seval, bnd_ite]
  unfold maxLen at ha
  by_cases hl : xs.length = ys.length
  case neg =>
    have : xs ≠ ys := fun e => hl (by rw [e])
    simp [this, show ¬ (xs.length : Int) = ys.length by omega]
  refine (XL_inv (T := T) (b := 0) (hd := Heq) (x := Leq s n f) (β := Unit) (fun i _ => ⟨[(0, .ro s (xs.map enc)), (1, .ro s (ys.map enc)), (5, .int .i64 (i : Nat))], []⟩)
    (fun i _ => xs.take i = ys.take i) xs.length (fun r => (r.1 = .exit 0 ∧ xs = ys) ∨ (r.1 = .ret ∧ lookA r.2.env 4 = .bool false ∧ xs ≠ ys)) ?step ?last 0 () (by omega) rfl).elim ?main
  case step =>
    intro i _ hi hI
    obtain ⟨p, hp⟩ := get_at hi
    obtain ⟨q, hq⟩ := get_at (show i < ys.length by omega)
    have hi1 : (i : Int) < (xs.length : Int) := by omega
    have hi2 : (i : Int) < (ys.length : Int) := by omega
    simp only [XG, Leq, heq, go_sem, seval, bnd_ite, hi1, hi2, gD_map hp, gD_map hq, hln p, hln q, henc, hcl, hd, hf, Int.natCast_nonneg, w_i64 ((i : Int) + 1) (by omega)]
    by_cases he : p = q
    · left
      subst he
      exact ⟨(), by simp, by rw [take_eq_snoc hp hq]; exact ⟨hI, rfl⟩⟩
    · right
      have hne : xs ≠ ys := fun e => he (by rw [e] at hp; rw [hp] at hq; exact Option.some.inj hq)
      simp only [he, decide_false, Bool.not_false, if_true]
      exact .mk (by simp) (.inr ⟨rfl, rfl, hne⟩)
  case last =>
    intro _ hI
    have e : xs = ys := by rw [List.take_length] at hI; rw [hI, hl, List.take_length]
    simp only [XG, Leq, heq, go_sem, seval, bnd_ite, Int.lt_irrefl, decide_false]
    exact .mk (by simp) (.inl ⟨rfl, e⟩)
  case main =>
  rintro ⟨x, st⟩ ⟨h1, h2, h3⟩
  have hs : (0 : Int) = ((0 : Nat) : Int) := rfl
  simp only [hl, decide_true, Bool.not_true, Bool.false_eq_true, if_false]
  rw [hs, h1]
  obtain ⟨e, m⟩ := st
  rcases h3 with ⟨hx, h4⟩ | ⟨hx, h4, h5⟩
  · simp only at hx; subst hx; subst h4
    simp only [go_sem, seval]; simp
  · simp only at hx h4; subst hx
    simp only [go_sem, seval, h4]; simp [h5]

omit [DecidableEq α] in
theorem gsz {ok sm : α → Prop} (ht : T k = some (Fsz s n f)) (henc : ∀ x, AV.agg ((enc x).cells.take n) = enc x) (hln : ∀ x, n ≤ (enc x).cells.length) (hcl : ∀ x, (enc x).cells.all closedC = true) (hd : ∀ x, isDef (enc x) = true)
    (hf : ∀ x (r : Int), ok x → 0 ≤ r → r ≤ 1048576 → ∃ v : Int, E T f [enc x, .int .i64 r] [] = some (.int .i64 v, []) ∧ -1 ≤ v ∧ v ≤ r ∧ (0 ≤ v → sm x))
    (l : List α) (c : Int) (h0 : 0 ≤ c) (hn : c ≤ 1048576) (hl : l.length ≤ maxLen) (hok : ∀ x ∈ l, ok x) :
    ∃ r : Int, E T k [.ro s (l.map enc), .int .i64 c] [] = some (.int .i64 r, []) ∧ -1 ≤ r ∧ r ≤ c ∧ (0 ≤ r → l.length ≤ 1048576 ∧ ∀ x ∈ l, sm x) := by
  rw [E_eq ht (Nat.le_of_ble_eq_true rfl)]
  simp only [Fsz, hsz, go_sem, seval, bnd_ite]
  unfold maxLen at hl
  rw [w_i64 (c - (l.length : Int)) (by omega)]
  by_cases c1 : c - (l.length : Int) < 0
  · rw [if_pos c1]; exact ⟨_, rfl, by omega, by omega, fun h => by omega⟩
  rw [if_neg c1]
  refine (XL_inv (T := T) (b := 0) (hd := Hsz) (x := Lsz s n f) (β := Int) (fun i r => ⟨[(0, .ro s (l.map enc)), (1, .int .i64 r), (5, .int .i64 (i : Nat))], []⟩)
    (fun i r => 0 ≤ r ∧ r ≤ c ∧ ∀ x ∈ l.take i, sm x) l.length (fun r => (r.1 = .exit 0 ∧ ∃ v : Int, lookA r.2.env 1 = .int .i64 v ∧ 0 ≤ v ∧ v ≤ c ∧ ∀ x ∈ l, sm x) ∨ (r.1 = .ret ∧ lookA r.2.env 4 = .int .i64 (-1))) ?step ?last 0 (c - (l.length : Int)) (by omega) ⟨by omega, by omega, fun x hx => by simp at hx⟩).elim ?main
  case step =>
    intro i r hi ⟨hI0, hI1, hI2⟩
    obtain ⟨p, hp⟩ := get_at hi
    have hi1 : (i : Int) < (l.length : Int) := by omega
    obtain ⟨v, hv, hv1, hv2, hv3⟩ := hf p r (hok p (List.mem_of_getElem? hp)) hI0 (by omega)
    simp only [XG, Lsz, hsz, go_sem, seval, bnd_ite, hi1, gD_map hp, hln p, henc, hcl, hd, hv, Int.natCast_nonneg, w_i64 ((i : Int) + 1) (by omega)]
    by_cases c : v < 0
    · right; rw [if_pos c]
      exact .mk (by simp) (.inr ⟨rfl, rfl⟩)
    · left; rw [if_neg c]
      refine ⟨v, by simp, by omega, by omega, fun x hx => ?_⟩
      rw [take_snoc hp, List.mem_append, List.mem_singleton] at hx
      rcases hx with hx | rfl
      · exact hI2 x hx
      · exact hv3 (by omega)
  case last =>
    intro r ⟨hI0, hI1, hI2⟩
    simp only [XG, Lsz, hsz, go_sem, seval, bnd_ite, Int.lt_irrefl, decide_false]
    exact .mk (by simp) (.inl ⟨rfl, r, rfl, hI0, hI1, by rwa [List.take_length] at hI2⟩)
  case main =>
  rintro ⟨x, st⟩ ⟨h1, h2, h3⟩
  have hs : (0 : Int) = ((0 : Nat) : Int) := rfl
  rw [hs] at *
  simp only [h1]
  obtain ⟨e, m⟩ := st
  rcases h3 with ⟨hx, v, h4, h5, h6, h7⟩ | ⟨hx, h4⟩
  · simp only at hx h4; subst hx
    simp only [go_sem, seval, h4]
    exact ⟨v, rfl, by omega, by omega, fun _ => ⟨by omega, h7⟩⟩
  · simp only at hx h4; subst hx
    simp only [go_sem, seval, h4]
    exact ⟨-1, rfl, by omega, by omega, fun h => by omega⟩

omit [DecidableEq α] in
theorem gto {cs : α → List AV} {zc : List AV} {by_ : Nat} (ht : T k = some (Fto s by_ (.agg zc) n f)) (hby : by_ ≤ 1000) (hlen : ∀ x, (cs x).length = n) (hzl : zc.length = n) (hcl : ∀ x, (cs x).all closedC = true)
    (hu : ∀ m x, unpL m (cs x) = (cs x, [])) (huo : ∀ x, (cs x).all unpOk1 = true) (hco : ∀ x, coolL (cs x) = true) (hzo : coolL zc = true) (hoc : ∀ live x, (cs x).all (okC live) = true) (hset : ∀ x, Abs.setCells zc 0 (cs x) = cs x)
    (hf : ∀ x, E T f [.agg (cs x)] [] = some (.agg (cs x), [])) (l : List α) (hl : l.length ≤ 1048576) :
    E T k [.ro s (l.map fun x => .agg (cs x))] [] = some (.own s (l.map fun x => .agg (cs x)), []) := by
  have hcx : ∀ x, coolX (.agg (cs x)) = true := hco
  have hmi : ∀ g x, mapIdL g (cs x) = cs x := fun g x => by
    have := ((cool_ids g (fun _ _ _ _ => []) (.agg (cs x))).2 (hco x)).1
    simpa [mapId] using this
  have his : ∀ u x, idsL u (cs x) = [] := fun u x => by
    have := ((cool_ids (fun _ _ _ _ => .undef) u (.agg (cs x))).2 (hco x)).2
    simpa [idsV] using this
  have hzx : coolX (.agg zc) = true := hzo
  have hb : (by_ : Int) * (l.length : Int) ≤ 140737488355328 := by
    have : by_ * l.length ≤ 1000 * 1048576 := Nat.mul_le_mul hby hl
    have : ((by_ * l.length : Nat) : Int) ≤ ((1000 * 1048576 : Nat) : Int) := by exact_mod_cast this
    rw [Int.natCast_mul] at this
    omega
  rw [E_eq ht (Nat.le_of_ble_eq_true rfl)]
  simp only [Fto, hto, go_sem, seval, bnd_ite]
  rw [if_pos ⟨by omega, hb, by omega⟩]
  have hzm : ∀ g, mapIdL g zc = zc := fun g => by
    have := ((cool_ids g (fun _ _ _ _ => []) (.agg zc)).2 hzo).1
    simpa [mapId] using this
  have hzi : ∀ u, idsV u (.agg zc) = [] := fun u => ((cool_ids (fun _ _ _ _ => .undef) u (.agg zc)).2 hzo).2
  have hzj : ∀ u, idsL u zc = [] := fun u => by simpa [idsV] using hzi u
  have hir : ∀ u n, idsL u (List.replicate n (AV.agg zc)) = [] := fun u n => is_rep u n _ (hzi u)
  have htk : ∀ x, (cs x).take n = cs x := fun x => List.take_of_length_le (by rw [hlen]; exact Nat.le_refl _)
  have tk : ∀ (f : α → AV), (l.map f).take l.length = l.map f := fun f => by rw [List.take_of_length_le]; simp
  simp only [go_sem, seval, hir, hzm]
  have key := XL_fold (T := T) (b := 0) (hd := Hto) (x := Lto s by_ (.agg zc) n f) l (fun (_ : Unit) _ => ()) (fun i _ => ⟨[(0, .ro s (l.map fun x => .agg (cs x))), (3, .sl 0 0 l.length), (4, .int .i64 (i : Nat))], [some (s, fill (fun x => .agg (cs x)) (.agg zc) l i)]⟩)
    (r := (.exit 0, ⟨[(11, .bool false), (10, .int .i64 l.length), (9, .ro s (l.map fun x => .agg (cs x))), (8, .int .i64 l.length), (0, .ro s (l.map fun x => .agg (cs x))), (3, .sl 0 0 l.length), (4, .int .i64 l.length)], [some (s, l.map fun x => .agg (cs x))]⟩)) ?step () ?last
  case step =>
    intro i _ p hp hi
    have hi1 : (i : Int) < (l.length : Int) := by omega
    have fs := fill_set (f := fun x => AV.agg (cs x)) (z := .agg zc) hp
    simp only [XG, Lto, hto, go_sem, seval, bnd_ite, hi1, gD_map hp, hlen, htk, hcl, hu, huo, hoc, hf, hset, hmi, his, hzl, hzm, hzj, Int.natCast_nonneg, w_i64 ((i : Int) + 1) (by omega), fill_len (Nat.le_of_lt hi), fill_get hi, hi,
      fill_mi _ hcx hzx, fill_is _ hcx hzx, is_set]
    rw [fs]; rfl
  case last =>
    refine XL_out ?_ (by simp)
    simp only [XG, Lto, hto, go_sem, seval, bnd_ite, Int.lt_irrefl, decide_false, fill_all]
  have hs : (0 : Int) = ((0 : Nat) : Int) := rfl
  rw [fill_0] at key
  rw [hs, key]
  simp only [go_sem, seval, tk, is_map _ _ _ hcx, mi_map _ _ _ hcx, Nat.le_refl]
end
end Go.Proofs.Ytaaajjinpppgeaa

/- Disks: counting, copying, comparing. Own work; no condition. -/
set_option linter.unusedVariables false
set_option linter.unusedSimpArgs false
set_option linter.unusedSectionVars false
namespace Go.Proofs.Ytaaajjinpppgeaa
open Go Go.Abs
set_option maxRecDepth 100000
def iv (z : Int) : AV := .int .i64 z
def bv (b : Bool) : AV := .bool b

theorem iv_cool (x : Int) : coolX (iv x) = true := rfl
theorem iv_len (x : Int) : (iv x).cells.length = 1 := rfl
theorem iv_mi (g : Bool → Nat → Nat → Nat → AV) (l : List Int) : mapIdL g (l.map iv) = l.map iv := mi_map g iv l iv_cool
theorem iv_is (u : Bool → Nat → Nat → Nat → List Nat) (l : List Int) : idsL u (l.map iv) = [] := is_map u iv l iv_cool
theorem iv_coR (l : List Int) : coolR 1 (l.map iv) = true := coR_map 1 iv l iv_len iv_cool
theorem iv_ice (x : Int) : ice (iv x) = iv x := rfl
theorem iv_ic (l : List Int) : iceL (l.map iv) = l.map iv := by rw [ice_m]; exact List.map_congr_left fun x _ => iv_ice x
theorem iv_rf (x : Int) : (iv x).roFree = true := rfl
theorem iv_rfL (l : List Int) : roFreeL (l.map iv) = true := rf_map iv l iv_rf
theorem iv_no (x : Int) : (iv x).cells.all noOwnC = true := rfl
theorem iv_noL (l : List Int) : (l.map iv).all (fun x => x.cells.all noOwnC) = true := no_map iv l iv_no
attribute [go_sem] iv_mi iv_is iv_coR iv_ic iv_ice iv_rfL iv_noL

theorem bv_cool (x : Bool) : coolX (bv x) = true := rfl
theorem bv_len (x : Bool) : (bv x).cells.length = 1 := rfl
theorem bv_mi (g : Bool → Nat → Nat → Nat → AV) (l : List Bool) : mapIdL g (l.map bv) = l.map bv := mi_map g bv l bv_cool
theorem bv_is (u : Bool → Nat → Nat → Nat → List Nat) (l : List Bool) : idsL u (l.map bv) = [] := is_map u bv l bv_cool
theorem bv_coR (l : List Bool) : coolR 1 (l.map bv) = true := coR_map 1 bv l bv_len bv_cool
theorem bv_ice (x : Bool) : ice (bv x) = bv x := rfl
theorem bv_ic (l : List Bool) : iceL (l.map bv) = l.map bv := by rw [ice_m]; exact List.map_congr_left fun x _ => bv_ice x
theorem bv_rf (x : Bool) : (bv x).roFree = true := rfl
theorem bv_rfL (l : List Bool) : roFreeL (l.map bv) = true := rf_map bv l bv_rf
theorem bv_no (x : Bool) : (bv x).cells.all noOwnC = true := rfl
theorem bv_noL (l : List Bool) : (l.map bv).all (fun x => x.cells.all noOwnC) = true := no_map bv l bv_no
attribute [go_sem] bv_mi bv_is bv_coR bv_ic bv_ice bv_rfL bv_noL

structure Slt where
  name : ByteArray
  ino : Int
  deriving DecidableEq
def slt (x : Slt) : AV := .agg [.str x.name, .int .i64 x.ino]
def Slt.ok (x : Slt) : Prop := x.name.size ≤ maxLen

theorem slt_cool (x : Slt) : coolX (slt x) = true := rfl
theorem slt_len (x : Slt) : (slt x).cells.length = 2 := rfl
theorem slt_mi (g : Bool → Nat → Nat → Nat → AV) (l : List Slt) : mapIdL g (l.map slt) = l.map slt := mi_map g slt l slt_cool
theorem slt_is (u : Bool → Nat → Nat → Nat → List Nat) (l : List Slt) : idsL u (l.map slt) = [] := is_map u slt l slt_cool
theorem slt_coR (l : List Slt) : coolR 2 (l.map slt) = true := coR_map 2 slt l slt_len slt_cool
theorem slt_ice (x : Slt) : ice (slt x) = slt x := rfl
theorem slt_ic (l : List Slt) : iceL (l.map slt) = l.map slt := by rw [ice_m]; exact List.map_congr_left fun x _ => slt_ice x
theorem slt_rf (x : Slt) : (slt x).roFree = true := rfl
theorem slt_rfL (l : List Slt) : roFreeL (l.map slt) = true := rf_map slt l slt_rf
theorem slt_no (x : Slt) : (slt x).cells.all noOwnC = true := rfl
theorem slt_noL (l : List Slt) : (l.map slt).all (fun x => x.cells.all noOwnC) = true := no_map slt l slt_no
attribute [go_sem] slt_mi slt_is slt_coR slt_ic slt_ice slt_rfL slt_noL

structure Ino where
  kind : Int
  links : Int
  ptrs : List Int
  deriving DecidableEq
def ino (x : Ino) : AV := .agg [.int .i64 x.kind, .int .i64 x.links, .ro 1 (x.ptrs.map iv)]
def inoO (x : Ino) : AV := .agg [.int .i64 x.kind, .int .i64 x.links, .own 1 (x.ptrs.map iv)]
def Ino.ok (x : Ino) : Prop := x.ptrs.length ≤ maxLen
def Ino.sm (x : Ino) : Prop := x.ptrs.length ≤ 1048576

theorem ino_cool (x : Ino) : coolX (ino x) = true := rfl
theorem ino_len (x : Ino) : (ino x).cells.length = 3 := rfl
theorem ino_mi (g : Bool → Nat → Nat → Nat → AV) (l : List Ino) : mapIdL g (l.map ino) = l.map ino := mi_map g ino l ino_cool
theorem ino_is (u : Bool → Nat → Nat → Nat → List Nat) (l : List Ino) : idsL u (l.map ino) = [] := is_map u ino l ino_cool
theorem ino_coR (l : List Ino) : coolR 3 (l.map ino) = true := coR_map 3 ino l ino_len ino_cool
theorem ino_ice (x : Ino) : ice (ino x) = ino x := rfl
theorem ino_ic (l : List Ino) : iceL (l.map ino) = l.map ino := by rw [ice_m]; exact List.map_congr_left fun x _ => ino_ice x
theorem ino_no (x : Ino) : (ino x).cells.all noOwnC = true := rfl
theorem ino_noL (l : List Ino) : (l.map ino).all (fun x => x.cells.all noOwnC) = true := no_map ino l ino_no
attribute [go_sem] ino_mi ino_is ino_coR ino_ic ino_ice ino_noL

theorem inoO_cool (x : Ino) : coolX (inoO x) = true := by simp only [inoO, go_sem, Bool.and_self]
theorem inoO_len (x : Ino) : (inoO x).cells.length = 3 := rfl
theorem inoO_mi (g : Bool → Nat → Nat → Nat → AV) (l : List Ino) : mapIdL g (l.map inoO) = l.map inoO := mi_map g inoO l inoO_cool
theorem inoO_is (u : Bool → Nat → Nat → Nat → List Nat) (l : List Ino) : idsL u (l.map inoO) = [] := is_map u inoO l inoO_cool
theorem inoO_coR (l : List Ino) : coolR 3 (l.map inoO) = true := coR_map 3 inoO l inoO_len inoO_cool
theorem inoO_ice (x : Ino) : ice (inoO x) = ino x := by simp only [inoO, ino, go_sem]
theorem inoO_ic (l : List Ino) : iceL (l.map inoO) = l.map ino := by rw [ice_m]; exact List.map_congr_left fun x _ => inoO_ice x
theorem inoO_rf (x : Ino) : (inoO x).roFree = true := by simp [inoO, AV.roFree, roFreeL, iv_rfL]
theorem inoO_rfL (l : List Ino) : roFreeL (l.map inoO) = true := rf_map inoO l inoO_rf
attribute [go_sem] inoO_mi inoO_is inoO_coR inoO_ic inoO_ice inoO_rfL

structure Blk where
  dir : Bool
  slots : List Slt
  text : ByteArray
  deriving DecidableEq
def blk (x : Blk) : AV := .agg [.bool x.dir, .ro 2 (x.slots.map slt), .str x.text]
def blkO (x : Blk) : AV := .agg [.bool x.dir, .own 2 (x.slots.map slt), .str x.text]
def Blk.ok (x : Blk) : Prop := x.slots.length ≤ maxLen ∧ x.text.size ≤ maxLen ∧ ∀ s ∈ x.slots, s.ok
def Blk.sm (x : Blk) : Prop := x.slots.length ≤ 1048576

theorem blk_cool (x : Blk) : coolX (blk x) = true := rfl
theorem blk_len (x : Blk) : (blk x).cells.length = 3 := rfl
theorem blk_mi (g : Bool → Nat → Nat → Nat → AV) (l : List Blk) : mapIdL g (l.map blk) = l.map blk := mi_map g blk l blk_cool
theorem blk_is (u : Bool → Nat → Nat → Nat → List Nat) (l : List Blk) : idsL u (l.map blk) = [] := is_map u blk l blk_cool
theorem blk_coR (l : List Blk) : coolR 3 (l.map blk) = true := coR_map 3 blk l blk_len blk_cool
theorem blk_ice (x : Blk) : ice (blk x) = blk x := rfl
theorem blk_ic (l : List Blk) : iceL (l.map blk) = l.map blk := by rw [ice_m]; exact List.map_congr_left fun x _ => blk_ice x
theorem blk_no (x : Blk) : (blk x).cells.all noOwnC = true := rfl
theorem blk_noL (l : List Blk) : (l.map blk).all (fun x => x.cells.all noOwnC) = true := no_map blk l blk_no
attribute [go_sem] blk_mi blk_is blk_coR blk_ic blk_ice blk_noL

theorem blkO_cool (x : Blk) : coolX (blkO x) = true := by simp only [blkO, go_sem, Bool.and_self]
theorem blkO_len (x : Blk) : (blkO x).cells.length = 3 := rfl
theorem blkO_mi (g : Bool → Nat → Nat → Nat → AV) (l : List Blk) : mapIdL g (l.map blkO) = l.map blkO := mi_map g blkO l blkO_cool
theorem blkO_is (u : Bool → Nat → Nat → Nat → List Nat) (l : List Blk) : idsL u (l.map blkO) = [] := is_map u blkO l blkO_cool
theorem blkO_coR (l : List Blk) : coolR 3 (l.map blkO) = true := coR_map 3 blkO l blkO_len blkO_cool
theorem blkO_ice (x : Blk) : ice (blkO x) = blk x := by simp only [blkO, blk, go_sem]
theorem blkO_ic (l : List Blk) : iceL (l.map blkO) = l.map blk := by rw [ice_m]; exact List.map_congr_left fun x _ => blkO_ice x
theorem blkO_rf (x : Blk) : (blkO x).roFree = true := by simp [blkO, AV.roFree, roFreeL, slt_rfL]
theorem blkO_rfL (l : List Blk) : roFreeL (l.map blkO) = true := rf_map blkO l blkO_rf
attribute [go_sem] blkO_mi blkO_is blkO_coR blkO_ic blkO_ice blkO_rfL

theorem slt_eq (a b : Slt) : a = b ↔ a.name = b.name ∧ a.ino = b.ino := by cases a; cases b; simp
theorem ino_eq (a b : Ino) : a = b ↔ a.kind = b.kind ∧ a.links = b.links ∧ a.ptrs = b.ptrs := by cases a; cases b; simp
theorem blk_eq (a b : Blk) : a = b ↔ a.dir = b.dir ∧ a.slots = b.slots ∧ a.text = b.text := by cases a; cases b; simp

/-! ### Counting -/
theorem e182 (l : List Int) (n : Int) (h0 : 0 ≤ n) (hn : n ≤ 1048576) (hl : l.length ≤ maxLen) :
    ∃ r : Int, E T 182 [.ro 1 (l.map iv), .int .i64 n] [] = some (.int .i64 r, []) ∧ -1 ≤ r ∧ r ≤ n ∧ (0 ≤ r → l.length ≤ 1048576) := by
  rw [E_eq t182 (Nat.le_of_ble_eq_true rfl)]
  simp only [F182, go_sem, seval, bnd_ite]
  unfold maxLen at hl
  rw [w_i64 (n - (l.length : Int)) (by omega)]
  by_cases c1 : n - (l.length : Int) < 0
  · rw [if_pos c1]; exact ⟨_, rfl, by omega, by omega, fun h => by omega⟩
  rw [if_neg c1]; exact ⟨_, rfl, by omega, by omega, fun h => by omega⟩
theorem e134 (l : List Bool) (n : Int) (h0 : 0 ≤ n) (hn : n ≤ 1048576) (hl : l.length ≤ maxLen) :
    ∃ r : Int, E T 134 [.ro 1 (l.map bv), .int .i64 n] [] = some (.int .i64 r, []) ∧ -1 ≤ r ∧ r ≤ n ∧ (0 ≤ r → l.length ≤ 1048576) := by
  rw [E_eq t134 (Nat.le_of_ble_eq_true rfl)]
  simp only [F134, go_sem, seval, bnd_ite]
  unfold maxLen at hl
  rw [w_i64 (n - (l.length : Int)) (by omega)]
  by_cases c1 : n - (l.length : Int) < 0
  · rw [if_pos c1]; exact ⟨_, rfl, by omega, by omega, fun h => by omega⟩
  rw [if_neg c1]; exact ⟨_, rfl, by omega, by omega, fun h => by omega⟩
theorem e211 (x : Ino) (n : Int) (h0 : 0 ≤ n) (hn : n ≤ 1048576) (hl : x.ok) :
    ∃ r : Int, E T 211 [ino x, .int .i64 n] [] = some (.int .i64 r, []) ∧ -1 ≤ r ∧ r ≤ n ∧ (0 ≤ r → x.sm) := by
  rw [E_eq t211 (Nat.le_of_ble_eq_true rfl)]
  obtain ⟨r, h1, h2, h3, h4⟩ := e182 x.ptrs n h0 hn hl
  simp only [ino, F211, go_sem, seval, bnd_ite, h1]
  by_cases c1 : r < 0
  · rw [if_pos c1]; exact ⟨_, rfl, by omega, by omega, fun h => by omega⟩
  rw [if_neg c1]; exact ⟨_, rfl, by omega, by omega, fun h => h4 (by omega)⟩
theorem e292 (x : Slt) (n : Int) (h0 : 0 ≤ n) (hn : n ≤ 1048576) (hl : x.ok) :
    ∃ r : Int, E T 292 [slt x, .int .i64 n] [] = some (.int .i64 r, []) ∧ -1 ≤ r ∧ r ≤ n ∧ (0 ≤ r → True) := by
  rw [E_eq t292 (Nat.le_of_ble_eq_true rfl)]
  unfold Slt.ok maxLen at hl
  simp only [slt, F292, go_sem, seval, bnd_ite]
  rw [w_i64 (n - (x.name.size : Int)) (by omega)]
  by_cases c1 : n - (x.name.size : Int) < 0
  · rw [if_pos c1]; exact ⟨_, rfl, by omega⟩
  rw [if_neg c1]; exact ⟨_, rfl, by omega⟩
theorem t263 : T 263 = some (Fsz 2 2 292) := tab Try.func263 (by kernel_rfl) rfl
theorem t124 : T 124 = some (Fsz 3 3 211) := tab Try.func124 (by kernel_rfl) rfl
theorem t125 : T 125 = some (Fsz 3 3 212) := tab Try.func125 (by kernel_rfl) rfl
theorem e263 (l : List Slt) (n : Int) (h0 : 0 ≤ n) (hn : n ≤ 1048576) (hl : l.length ≤ maxLen) (hok : ∀ x ∈ l, x.ok) :
    ∃ r : Int, E T 263 [.ro 2 (l.map slt), .int .i64 n] [] = some (.int .i64 r, []) ∧ -1 ≤ r ∧ r ≤ n ∧ (0 ≤ r → l.length ≤ 1048576 ∧ ∀ x ∈ l, True) :=
  gsz (ok := Slt.ok) t263 (fun _ => rfl) (fun _ => Nat.le_refl _) (fun _ => rfl) (fun _ => rfl) (fun x r h h0 h1 => e292 x r h0 h1 h) l n h0 hn hl hok
theorem e212 (x : Blk) (n : Int) (h0 : 0 ≤ n) (hn : n ≤ 1048576) (hl : x.ok) :
    ∃ r : Int, E T 212 [blk x, .int .i64 n] [] = some (.int .i64 r, []) ∧ -1 ≤ r ∧ r ≤ n ∧ (0 ≤ r → x.sm) := by
  rw [E_eq t212 (Nat.le_of_ble_eq_true rfl)]
  obtain ⟨hl1, hl2, hl3⟩ := hl
  obtain ⟨r, h1, h2, h3, h4⟩ := e263 x.slots n h0 hn hl1 hl3
  unfold maxLen at hl2
  simp only [blk, F212, go_sem, seval, bnd_ite, h1]
  by_cases c1 : r < 0
  · rw [if_pos c1]; exact ⟨_, rfl, by omega, by omega, fun h => by omega⟩
  rw [if_neg c1, w_i64 (r - (x.text.size : Int)) (by omega)]
  by_cases c2 : r - (x.text.size : Int) < 0
  · rw [if_pos c2]; exact ⟨_, rfl, by omega, by omega, fun h => by omega⟩
  rw [if_neg c2]; exact ⟨_, rfl, by omega, by omega, fun h => (h4 (by omega)).1⟩
theorem e124 (l : List Ino) (n : Int) (h0 : 0 ≤ n) (hn : n ≤ 1048576) (hl : l.length ≤ maxLen) (hok : ∀ x ∈ l, x.ok) :
    ∃ r : Int, E T 124 [.ro 3 (l.map ino), .int .i64 n] [] = some (.int .i64 r, []) ∧ -1 ≤ r ∧ r ≤ n ∧ (0 ≤ r → l.length ≤ 1048576 ∧ ∀ x ∈ l, x.sm) :=
  gsz (ok := Ino.ok) t124 (fun _ => rfl) (fun _ => Nat.le_refl _) (fun _ => rfl) (fun _ => rfl) (fun x r h h0 h1 => e211 x r h0 h1 h) l n h0 hn hl hok
theorem e125 (l : List Blk) (n : Int) (h0 : 0 ≤ n) (hn : n ≤ 1048576) (hl : l.length ≤ maxLen) (hok : ∀ x ∈ l, x.ok) :
    ∃ r : Int, E T 125 [.ro 3 (l.map blk), .int .i64 n] [] = some (.int .i64 r, []) ∧ -1 ≤ r ∧ r ≤ n ∧ (0 ≤ r → l.length ≤ 1048576 ∧ ∀ x ∈ l, x.sm) :=
  gsz (ok := Blk.ok) t125 (fun _ => rfl) (fun _ => Nat.le_refl _) (fun _ => rfl) (fun _ => rfl) (fun x r h h0 h1 => e212 x r h0 h1 h) l n h0 hn hl hok

structure Dsk where
  used : List Bool
  taken : List Bool
  inos : List Ino
  blks : List Blk
  deriving DecidableEq
def dsk (x : Dsk) : AV := .agg [.ro 1 (x.used.map bv), .ro 1 (x.taken.map bv), .ro 3 (x.inos.map ino), .ro 3 (x.blks.map blk)]
def dskO (x : Dsk) : AV := .agg [.own 1 (x.used.map bv), .own 1 (x.taken.map bv), .own 3 (x.inos.map inoO), .own 3 (x.blks.map blkO)]
structure Dsk.ok (x : Dsk) : Prop where
  used : x.used.length ≤ maxLen
  taken : x.taken.length ≤ maxLen
  inos : x.inos.length ≤ maxLen
  blks : x.blks.length ≤ maxLen
  ino : ∀ y ∈ x.inos, y.ok
  blk : ∀ y ∈ x.blks, y.ok
structure Dsk.sm (x : Dsk) : Prop where
  used : x.used.length ≤ 1048576
  taken : x.taken.length ≤ 1048576
  inos : x.inos.length ≤ 1048576
  blks : x.blks.length ≤ 1048576
  ino : ∀ y ∈ x.inos, y.sm
  blk : ∀ y ∈ x.blks, y.sm
theorem e123 (a b : List Bool) (n : Int) (h0 : 0 ≤ n) (hn : n ≤ 1048576) (ha : a.length ≤ maxLen) (hb : b.length ≤ maxLen) :
    ∃ r : Int, E T 123 [.agg [.ro 1 (a.map bv), .ro 1 (b.map bv)], .int .i64 n] [] = some (.int .i64 r, []) ∧ -1 ≤ r ∧ r ≤ n ∧ (0 ≤ r → a.length ≤ 1048576 ∧ b.length ≤ 1048576) := by
  rw [E_eq t123 (Nat.le_of_ble_eq_true rfl)]
  obtain ⟨r, h1, h2, h3, h4⟩ := e134 a n h0 hn ha
  simp only [F123, go_sem, seval, bnd_ite, h1]
  by_cases c1 : r < 0
  · rw [if_pos c1]; exact ⟨_, rfl, by omega, by omega, fun h => by omega⟩
  obtain ⟨r2, g1, g2, g3, g4⟩ := e134 b r (by omega) (by omega) hb
  rw [if_neg c1]
  simp only [go_sem, seval, bnd_ite, g1]
  by_cases c2 : r2 < 0
  · rw [if_pos c2]; exact ⟨_, rfl, by omega, by omega, fun h => by omega⟩
  rw [if_neg c2]; exact ⟨_, rfl, by omega, by omega, fun h => ⟨h4 (by omega), g4 (by omega)⟩⟩
theorem e38 (x : Dsk) (n : Int) (h0 : 0 ≤ n) (hn : n ≤ 1048576) (hk : x.ok) :
    ∃ r : Int, E T 38 [dsk x, .int .i64 n] [] = some (.int .i64 r, []) ∧ -1 ≤ r ∧ r ≤ n ∧ (0 ≤ r → x.sm) := by
  rw [E_eq t38 (Nat.le_of_ble_eq_true rfl)]
  obtain ⟨r, h1, h2, h3, h4⟩ := e123 x.used x.taken n h0 hn hk.used hk.taken
  simp only [dsk, F38, go_sem, seval, bnd_ite, h1]
  by_cases c1 : r < 0
  · rw [if_pos c1]; exact ⟨_, rfl, by omega, by omega, fun h => by omega⟩
  obtain ⟨r2, g1, g2, g3, g4⟩ := e124 x.inos r (by omega) (by omega) hk.inos hk.ino
  rw [if_neg c1]
  simp only [go_sem, seval, bnd_ite, g1]
  by_cases c2 : r2 < 0
  · rw [if_pos c2]; exact ⟨_, rfl, by omega, by omega, fun h => by omega⟩
  obtain ⟨r3, f1, f2, f3, f4⟩ := e125 x.blks r2 (by omega) (by omega) hk.blks hk.blk
  rw [if_neg c2]
  simp only [go_sem, seval, bnd_ite, f1]
  by_cases c3 : r3 < 0
  · rw [if_pos c3]; exact ⟨_, rfl, by omega, by omega, fun h => by omega⟩
  rw [if_neg c3]; exact ⟨_, rfl, by omega, by omega, fun h => ⟨(h4 (by omega)).1, (h4 (by omega)).2, (g4 (by omega)).1, (f4 (by omega)).1, (g4 (by omega)).2, (f4 (by omega)).2⟩⟩
end Go.Proofs.Ytaaajjinpppgeaa

/- Disks: copying. Own work; no condition. -/
set_option linter.unusedVariables false
set_option linter.unusedSimpArgs false
set_option linter.unusedSectionVars false
namespace Go.Proofs.Ytaaajjinpppgeaa
open Go Go.Abs
set_option maxRecDepth 100000
theorem e184 (l : List Int) (hl : l.length ≤ 1048576) : E T 184 [.ro 1 (l.map iv)] [] = some (.own 1 (l.map iv), []) := by
  rw [E_eq t184 (Nat.le_of_ble_eq_true rfl)]
  simp only [F184, h184_3, go_sem, seval, bnd_ite]
  rw [if_pos ⟨by omega, by omega, by omega⟩]
  have key := XL_fold (T := T) (b := 0) (hd := H184_3) (x := L184_3) l (fun (_ : Unit) _ => ()) (fun i _ => ⟨[(0, .ro 1 (l.map iv)), (3, .sl 0 0 l.length), (4, .int .i64 (i : Nat))], [some (1, fill iv (.int .i64 0) l i)]⟩)
    (r := (.exit 0, ⟨[(11, .bool false), (10, .int .i64 l.length), (9, .ro 1 (l.map iv)), (8, .int .i64 l.length), (0, .ro 1 (l.map iv)), (3, .sl 0 0 l.length), (4, .int .i64 l.length)], [some (1, l.map iv)]⟩)) ?step () ?last
  case step =>
    intro i _ p hp hi
    have hi1 : (i : Int) < (l.length : Int) := by omega
    have fs : (fill iv (.int .i64 0) l i).set i (.int .i64 p) = _ := fill_set (f := iv) (z := .int .i64 0) hp
    simp only [XG, L184_3, h184_3, go_sem, seval, bnd_ite, hi1, gD_map hp, iv, Int.natCast_nonneg, w_i64 ((i : Int) + 1) (by omega), fill_len (Nat.le_of_lt hi), fill_get hi, hi,
      fill_mi _ iv_cool (z := .int .i64 0) rfl, fill_is _ iv_cool (z := .int .i64 0) rfl, is_set]
    rw [fs]; rfl
  case last =>
    refine XL_out ?_ (by simp)
    simp only [XG, L184_3, h184_3, go_sem, seval, bnd_ite, Int.lt_irrefl, decide_false, fill_all]
  have hir : ∀ u n, idsL u (List.replicate n (.int .i64 0 : AV)) = [] := fun u n => is_rep u n _ rfl
  have e0 : ((0 : Nat) : Int) = 0 := rfl
  rw [fill_0, e0] at key
  simp only [key, hir]
  simp only [go_sem, seval, tk_map, Nat.le_refl]
theorem e136 (l : List Bool) (hl : l.length ≤ 1048576) : E T 136 [.ro 1 (l.map bv)] [] = some (.own 1 (l.map bv), []) := by
  rw [E_eq t136 (Nat.le_of_ble_eq_true rfl)]
  simp only [F136, h136_3, go_sem, seval, bnd_ite]
  rw [if_pos ⟨by omega, by omega, by omega⟩]
  have key := XL_fold (T := T) (b := 0) (hd := H136_3) (x := L136_3) l (fun (_ : Unit) _ => ()) (fun i _ => ⟨[(0, .ro 1 (l.map bv)), (3, .sl 0 0 l.length), (4, .int .i64 (i : Nat))], [some (1, fill bv (.bool false) l i)]⟩)
    (r := (.exit 0, ⟨[(11, .bool false), (10, .int .i64 l.length), (9, .ro 1 (l.map bv)), (8, .int .i64 l.length), (0, .ro 1 (l.map bv)), (3, .sl 0 0 l.length), (4, .int .i64 l.length)], [some (1, l.map bv)]⟩)) ?step () ?last
  case step =>
    intro i _ p hp hi
    have hi1 : (i : Int) < (l.length : Int) := by omega
    have fs : (fill bv (.bool false) l i).set i (.bool p) = _ := fill_set (f := bv) (z := .bool false) hp
    simp only [XG, L136_3, h136_3, go_sem, seval, bnd_ite, hi1, gD_map hp, bv, Int.natCast_nonneg, w_i64 ((i : Int) + 1) (by omega), fill_len (Nat.le_of_lt hi), fill_get hi, hi,
      fill_mi _ bv_cool (z := .bool false) rfl, fill_is _ bv_cool (z := .bool false) rfl, is_set]
    rw [fs]; rfl
  case last =>
    refine XL_out ?_ (by simp)
    simp only [XG, L136_3, h136_3, go_sem, seval, bnd_ite, Int.lt_irrefl, decide_false, fill_all]
  have hir : ∀ u n, idsL u (List.replicate n (.bool false : AV)) = [] := fun u n => is_rep u n _ rfl
  have e0 : ((0 : Nat) : Int) = 0 := rfl
  rw [fill_0, e0] at key
  simp only [key, hir]
  simp only [go_sem, seval, tk_map, Nat.le_refl]

theorem e293 (x : Slt) : E T 293 [slt x] [] = some (slt x, []) := by
  rw [E_eq t293 (Nat.le_of_ble_eq_true rfl)]; simp only [slt, F293, go_sem, seval]
theorem t264 : T 264 = some (Fto 2 24 (.agg [.str ⟨#[]⟩, .int .i64 0]) 2 293) := tab Try.func264 (by kernel_rfl) rfl
theorem e264 (l : List Slt) (hl : l.length ≤ 1048576) : E T 264 [.ro 2 (l.map slt)] [] = some (.own 2 (l.map slt), []) :=
  gto (cs := fun x : Slt => [.str x.name, .int .i64 x.ino]) t264 (by omega) (fun _ => rfl) rfl (fun _ => rfl) (fun _ _ => rfl) (fun _ => rfl) (fun _ => rfl) rfl (fun _ _ => rfl) (fun _ => rfl) (fun x => e293 x) l hl
theorem e213 (x : Ino) (h : x.sm) : E T 213 [ino x] [] = some (inoO x, []) := by
  rw [E_eq t213 (Nat.le_of_ble_eq_true rfl)]; simp only [ino, inoO, F213, go_sem, seval, e184 x.ptrs h]
theorem e214 (x : Blk) (h : x.sm) : E T 214 [blk x] [] = some (blkO x, []) := by
  rw [E_eq t214 (Nat.le_of_ble_eq_true rfl)]; simp only [blk, blkO, F214, go_sem, seval, e264 x.slots h]
theorem t128 : T 128 = some (Fto 3 40 (.agg [.int .i64 0, .int .i64 0, .nil]) 3 213) := tab Try.func128 (by kernel_rfl) rfl
theorem e128 (l : List Ino) (hl : l.length ≤ 1048576) (hs : ∀ x ∈ l, x.sm) : E T 128 [.ro 3 (l.map ino)] [] = some (.own 3 (l.map inoO), []) := by
  rw [E_eq t128 (Nat.le_of_ble_eq_true rfl)]
  simp only [Fto, hto, go_sem, seval, bnd_ite]
  rw [if_pos ⟨by omega, by omega, by omega⟩]
  have key := XL_fold (T := T) (b := 0) (hd := Hto) (x := Lto 3 40 (.agg [.int .i64 0, .int .i64 0, .nil]) 3 213) l (fun (_ : Unit) _ => ()) (fun i _ => ⟨[(0, .ro 3 (l.map ino)), (3, .sl 0 0 l.length), (4, .int .i64 (i : Nat))], [some (3, fill inoO (.agg [.int .i64 0, .int .i64 0, .nil]) l i)]⟩)
    (r := (.exit 0, ⟨[(11, .bool false), (10, .int .i64 l.length), (9, .ro 3 (l.map ino)), (8, .int .i64 l.length), (0, .ro 3 (l.map ino)), (3, .sl 0 0 l.length), (4, .int .i64 l.length)], [some (3, l.map inoO)]⟩)) ?step () ?last
  case step =>
    intro i _ p hp hi
    have hi1 : (i : Int) < (l.length : Int) := by omega
    have fs : (fill inoO (.agg [.int .i64 0, .int .i64 0, .nil]) l i).set i (.agg [.int .i64 p.kind, .int .i64 p.links, .own 1 (p.ptrs.map iv)]) = _ := fill_set (f := inoO) (z := .agg [.int .i64 0, .int .i64 0, .nil]) hp
    have hc := e213 p (hs p (List.mem_of_getElem? hp))
    unfold ino inoO at hc
    simp only [XG, Lto, hto, go_sem, seval, bnd_ite, hi1, gD_map hp, ino, hc, Int.natCast_nonneg, w_i64 ((i : Int) + 1) (by omega), fill_len (Nat.le_of_lt hi), fill_get hi, hi,
      fill_mi _ inoO_cool (z := .agg [.int .i64 0, .int .i64 0, .nil]) rfl, fill_is _ inoO_cool (z := .agg [.int .i64 0, .int .i64 0, .nil]) rfl, is_set]
    rw [fs]; rfl
  case last =>
    refine XL_out ?_ (by simp)
    simp only [XG, Lto, hto, go_sem, seval, bnd_ite, Int.lt_irrefl, decide_false, fill_all]
  have hir : ∀ u n, idsL u (List.replicate n (.agg [.int .i64 0, .int .i64 0, .nil] : AV)) = [] := fun u n => is_rep u n _ rfl
  have e0 : ((0 : Nat) : Int) = 0 := rfl
  rw [fill_0, e0] at key
  simp only [key, hir]
  simp only [go_sem, seval, tk_map, Nat.le_refl]
theorem t129 : T 129 = some (Fto 3 48 (.agg [.bool false, .nil, .str ⟨#[]⟩]) 3 214) := tab Try.func129 (by kernel_rfl) rfl
theorem e129 (l : List Blk) (hl : l.length ≤ 1048576) (hs : ∀ x ∈ l, x.sm) : E T 129 [.ro 3 (l.map blk)] [] = some (.own 3 (l.map blkO), []) := by
  rw [E_eq t129 (Nat.le_of_ble_eq_true rfl)]
  simp only [Fto, hto, go_sem, seval, bnd_ite]
  rw [if_pos ⟨by omega, by omega, by omega⟩]
  have key := XL_fold (T := T) (b := 0) (hd := Hto) (x := Lto 3 48 (.agg [.bool false, .nil, .str ⟨#[]⟩]) 3 214) l (fun (_ : Unit) _ => ()) (fun i _ => ⟨[(0, .ro 3 (l.map blk)), (3, .sl 0 0 l.length), (4, .int .i64 (i : Nat))], [some (3, fill blkO (.agg [.bool false, .nil, .str ⟨#[]⟩]) l i)]⟩)
    (r := (.exit 0, ⟨[(11, .bool false), (10, .int .i64 l.length), (9, .ro 3 (l.map blk)), (8, .int .i64 l.length), (0, .ro 3 (l.map blk)), (3, .sl 0 0 l.length), (4, .int .i64 l.length)], [some (3, l.map blkO)]⟩)) ?step () ?last
  case step =>
    intro i _ p hp hi
    have hi1 : (i : Int) < (l.length : Int) := by omega
    have fs : (fill blkO (.agg [.bool false, .nil, .str ⟨#[]⟩]) l i).set i (.agg [.bool p.dir, .own 2 (p.slots.map slt), .str p.text]) = _ := fill_set (f := blkO) (z := .agg [.bool false, .nil, .str ⟨#[]⟩]) hp
    have hc := e214 p (hs p (List.mem_of_getElem? hp))
    unfold blk blkO at hc
    simp only [XG, Lto, hto, go_sem, seval, bnd_ite, hi1, gD_map hp, blk, hc, Int.natCast_nonneg, w_i64 ((i : Int) + 1) (by omega), fill_len (Nat.le_of_lt hi), fill_get hi, hi,
      fill_mi _ blkO_cool (z := .agg [.bool false, .nil, .str ⟨#[]⟩]) rfl, fill_is _ blkO_cool (z := .agg [.bool false, .nil, .str ⟨#[]⟩]) rfl, is_set]
    rw [fs]; rfl
  case last =>
    refine XL_out ?_ (by simp)
    simp only [XG, Lto, hto, go_sem, seval, bnd_ite, Int.lt_irrefl, decide_false, fill_all]
  have hir : ∀ u n, idsL u (List.replicate n (.agg [.bool false, .nil, .str ⟨#[]⟩] : AV)) = [] := fun u n => is_rep u n _ rfl
  have e0 : ((0 : Nat) : Int) = 0 := rfl
  rw [fill_0, e0] at key
  simp only [key, hir]
  simp only [go_sem, seval, tk_map, Nat.le_refl]
theorem e127 (a b : List Bool) (ha : a.length ≤ 1048576) (hb : b.length ≤ 1048576) : E T 127 [.agg [.ro 1 (a.map bv), .ro 1 (b.map bv)]] [] = some (.agg [.own 1 (a.map bv), .own 1 (b.map bv)], []) := by
  rw [E_eq t127 (Nat.le_of_ble_eq_true rfl)]; simp only [F127, go_sem, seval, e136 a ha, e136 b hb]
theorem e40 (x : Dsk) (h : x.sm) : E T 40 [dsk x] [] = some (dskO x, []) := by
  rw [E_eq t40 (Nat.le_of_ble_eq_true rfl)]; simp only [dsk, dskO, F40, go_sem, seval, e127 _ _ h.used h.taken, e128 _ h.inos h.ino, e129 _ h.blks h.blk]
end Go.Proofs.Ytaaajjinpppgeaa

/- Disks: comparing. Own work; no condition. -/
set_option linter.unusedVariables false
set_option linter.unusedSimpArgs false
set_option linter.unusedSectionVars false
namespace Go.Proofs.Ytaaajjinpppgeaa
open Go Go.Abs
set_option maxRecDepth 100000
theorem bdec (x y : Bool) : (x == y) = decide (x = y) := by cases x <;> cases y <;> rfl
theorem bne_dec (x y : Bool) : (x != y) = !decide (x = y) := by cases x <;> cases y <;> rfl
theorem e99 (xs ys : List Int) (ha : xs.length ≤ maxLen) : E T 99 [.ro 1 (xs.map iv), .ro 1 (ys.map iv)] [] = some (.bool (decide (xs = ys)), []) := by
  rw [E_eq t99 (Nat.le_of_ble_eq_true rfl)]
  simp only [F99, h99_4, go_sem, seval, bnd_ite]
  unfold maxLen at ha
  by_cases hl : xs.length = ys.length
  case neg =>
    have : xs ≠ ys := fun e => hl (by rw [e])
    simp [this, show ¬ (xs.length : Int) = ys.length by omega]
  refine (XL_inv (T := T) (b := 0) (hd := H99_4) (x := L99_4) (β := Unit) (fun i _ => ⟨[(0, .ro 1 (xs.map iv)), (1, .ro 1 (ys.map iv)), (5, .int .i64 (i : Nat))], []⟩)
    (fun i _ => xs.take i = ys.take i) xs.length (fun r => (r.1 = .exit 0 ∧ xs = ys) ∨ (r.1 = .ret ∧ lookA r.2.env 4 = .bool false ∧ xs ≠ ys)) ?step ?last 0 () (by omega) rfl).elim ?main
  case step =>
    intro i _ hi hI
    obtain ⟨p, hp⟩ := get_at hi
    obtain ⟨q, hq⟩ := get_at (show i < ys.length by omega)
    have hi1 : (i : Int) < (xs.length : Int) := by omega
    have hi2 : (i : Int) < (ys.length : Int) := by omega
    simp only [XG, L99_4, h99_4, go_sem, seval, bnd_ite, hi1, hi2, gD_map hp, gD_map hq, iv, bdec, bne_dec, Int.natCast_nonneg, w_i64 ((i : Int) + 1) (by omega)]
    by_cases he : p = q
    · left
      subst he
      exact ⟨(), by simp, by rw [take_eq_snoc hp hq]; exact ⟨hI, rfl⟩⟩
    · right
      have hne : xs ≠ ys := fun e => he (by rw [e] at hp; rw [hp] at hq; exact Option.some.inj hq)
      simp only [he, decide_false, Bool.not_false, if_true]
      exact .mk (by simp) (.inr ⟨rfl, rfl, hne⟩)
  case last =>
    intro _ hI
    have e : xs = ys := by rw [List.take_length] at hI; rw [hI, hl, List.take_length]
    simp only [XG, L99_4, h99_4, go_sem, seval, bnd_ite, Int.lt_irrefl, decide_false]
    exact .mk (by simp) (.inl ⟨rfl, e⟩)
  case main =>
  rintro ⟨x, st⟩ ⟨h1, h2, h3⟩
  have hs : (0 : Int) = ((0 : Nat) : Int) := rfl
  simp only [hl, decide_true, Bool.not_true, Bool.false_eq_true, if_false]
  rw [hs, h1]
  obtain ⟨e, m⟩ := st
  rcases h3 with ⟨hx, h4⟩ | ⟨hx, h4, h5⟩
  · simp only at hx; subst hx; subst h4
    simp only [go_sem, seval]; simp
  · simp only at hx h4; subst hx
    simp only [go_sem, seval, h4]; simp [h5]
theorem e139 (xs ys : List Bool) (ha : xs.length ≤ maxLen) : E T 139 [.ro 1 (xs.map bv), .ro 1 (ys.map bv)] [] = some (.bool (decide (xs = ys)), []) := by
  rw [E_eq t139 (Nat.le_of_ble_eq_true rfl)]
  simp only [F139, h139_4, go_sem, seval, bnd_ite]
  unfold maxLen at ha
  by_cases hl : xs.length = ys.length
  case neg =>
    have : xs ≠ ys := fun e => hl (by rw [e])
    simp [this, show ¬ (xs.length : Int) = ys.length by omega]
  refine (XL_inv (T := T) (b := 0) (hd := H139_4) (x := L139_4) (β := Unit) (fun i _ => ⟨[(0, .ro 1 (xs.map bv)), (1, .ro 1 (ys.map bv)), (5, .int .i64 (i : Nat))], []⟩)
    (fun i _ => xs.take i = ys.take i) xs.length (fun r => (r.1 = .exit 0 ∧ xs = ys) ∨ (r.1 = .ret ∧ lookA r.2.env 4 = .bool false ∧ xs ≠ ys)) ?step ?last 0 () (by omega) rfl).elim ?main
  case step =>
    intro i _ hi hI
    obtain ⟨p, hp⟩ := get_at hi
    obtain ⟨q, hq⟩ := get_at (show i < ys.length by omega)
    have hi1 : (i : Int) < (xs.length : Int) := by omega
    have hi2 : (i : Int) < (ys.length : Int) := by omega
    simp only [XG, L139_4, h139_4, go_sem, seval, bnd_ite, hi1, hi2, gD_map hp, gD_map hq, bv, bdec, bne_dec, Int.natCast_nonneg, w_i64 ((i : Int) + 1) (by omega)]
    by_cases he : p = q
    · left
      subst he
      exact ⟨(), by simp, by rw [take_eq_snoc hp hq]; exact ⟨hI, rfl⟩⟩
    · right
      have hne : xs ≠ ys := fun e => he (by rw [e] at hp; rw [hp] at hq; exact Option.some.inj hq)
      simp only [he, decide_false, Bool.not_false, if_true]
      exact .mk (by simp) (.inr ⟨rfl, rfl, hne⟩)
  case last =>
    intro _ hI
    have e : xs = ys := by rw [List.take_length] at hI; rw [hI, hl, List.take_length]
    simp only [XG, L139_4, h139_4, go_sem, seval, bnd_ite, Int.lt_irrefl, decide_false]
    exact .mk (by simp) (.inl ⟨rfl, e⟩)
  case main =>
  rintro ⟨x, st⟩ ⟨h1, h2, h3⟩
  have hs : (0 : Int) = ((0 : Nat) : Int) := rfl
  simp only [hl, decide_true, Bool.not_true, Bool.false_eq_true, if_false]
  rw [hs, h1]
  obtain ⟨e, m⟩ := st
  rcases h3 with ⟨hx, h4⟩ | ⟨hx, h4, h5⟩
  · simp only at hx; subst hx; subst h4
    simp only [go_sem, seval]; simp
  · simp only at hx h4; subst hx
    simp only [go_sem, seval, h4]; simp [h5]
theorem e218 (x y : Slt) : E T 218 [slt x, slt y] [] = some (.bool (decide (x = y)), []) := by
  rw [E_eq t218 (Nat.le_of_ble_eq_true rfl)]
  simp only [slt, F218, go_sem, seval, bnd_ite, bdec, bne_dec, slt_eq]
  by_cases h1 : x.name = y.name <;> by_cases h2 : x.ino = y.ino <;> simp [h1, h2]
theorem t150 : T 150 = some (Feq 2 2 218) := tab Try.func150 (by kernel_rfl) rfl
theorem t132 : T 132 = some (Feq 3 3 50) := tab Try.func132 (by kernel_rfl) rfl
theorem t133 : T 133 = some (Feq 3 3 56) := tab Try.func133 (by kernel_rfl) rfl
theorem e150 (xs ys : List Slt) (ha : xs.length ≤ maxLen) : E T 150 [.ro 2 (xs.map slt), .ro 2 (ys.map slt)] [] = some (.bool (decide (xs = ys)), []) :=
  geq t150 (fun _ => rfl) (fun _ => Nat.le_refl _) (fun _ => rfl) (fun _ => rfl) (fun x y => e218 x y) xs ys ha
section
variable {s n f k : Nat}
/-- Rows whose first one is of a kind. -/
theorem geq' {α : Type} [DecidableEq α] {enc : α → AV} {ok : α → Prop} (ht : T k = some (Feq s n f)) (henc : ∀ x, AV.agg ((enc x).cells.take n) = enc x) (hln : ∀ x, n ≤ (enc x).cells.length) (hcl : ∀ x, (enc x).cells.all closedC = true) (hd : ∀ x, isDef (enc x) = true)
    (hf : ∀ x y, ok x → E T f [enc x, enc y] [] = some (.bool (decide (x = y)), [])) (xs ys : List α) (ha : xs.length ≤ maxLen) (hok : ∀ x ∈ xs, ok x) : E T k [.ro s (xs.map enc), .ro s (ys.map enc)] [] = some (.bool (decide (xs = ys)), []) := by
  rw [E_eq ht (Nat.le_of_ble_eq_true rfl)]
  simp only [Feq, heq, go_sem, seval, bnd_ite]
  unfold maxLen at ha
  by_cases hl : xs.length = ys.length
  case neg =>
    have : xs ≠ ys := fun e => hl (by rw [e])
    simp [this, show ¬ (xs.length : Int) = ys.length by omega]
  refine (XL_inv (T := T) (b := 0) (hd := Heq) (x := Leq s n f) (β := Unit) (fun i _ => ⟨[(0, .ro s (xs.map enc)), (1, .ro s (ys.map enc)), (5, .int .i64 (i : Nat))], []⟩)
    (fun i _ => xs.take i = ys.take i) xs.length (fun r => (r.1 = .exit 0 ∧ xs = ys) ∨ (r.1 = .ret ∧ lookA r.2.env 4 = .bool false ∧ xs ≠ ys)) ?step ?last 0 () (by omega) rfl).elim ?main
  case step =>
    intro i _ hi hI
    obtain ⟨p, hp⟩ := get_at hi
    obtain ⟨q, hq⟩ := get_at (show i < ys.length by omega)
    have hi1 : (i : Int) < (xs.length : Int) := by omega
    have hi2 : (i : Int) < (ys.length : Int) := by omega
    simp only [XG, Leq, heq, go_sem, seval, bnd_ite, hi1, hi2, gD_map hp, gD_map hq, hln p, hln q, henc, hcl, hd, hf p _ (hok p (List.mem_of_getElem? hp)), Int.natCast_nonneg, w_i64 ((i : Int) + 1) (by omega)]
    by_cases he : p = q
    · left
      subst he
      exact ⟨(), by simp, by rw [take_eq_snoc hp hq]; exact ⟨hI, rfl⟩⟩
    · right
      have hne : xs ≠ ys := fun e => he (by rw [e] at hp; rw [hp] at hq; exact Option.some.inj hq)
      simp only [he, decide_false, Bool.not_false, if_true]
      exact .mk (by simp) (.inr ⟨rfl, rfl, hne⟩)
  case last =>
    intro _ hI
    have e : xs = ys := by rw [List.take_length] at hI; rw [hI, hl, List.take_length]
    simp only [XG, Leq, heq, go_sem, seval, bnd_ite, Int.lt_irrefl, decide_false]
    exact .mk (by simp) (.inl ⟨rfl, e⟩)
  case main =>
  rintro ⟨x, st⟩ ⟨h1, h2, h3⟩
  have hs : (0 : Int) = ((0 : Nat) : Int) := rfl
  simp only [hl, decide_true, Bool.not_true, Bool.false_eq_true, if_false]
  rw [hs, h1]
  obtain ⟨e, m⟩ := st
  rcases h3 with ⟨hx, h4⟩ | ⟨hx, h4, h5⟩
  · simp only at hx; subst hx; subst h4
    simp only [go_sem, seval]; simp
  · simp only at hx h4; subst hx
    simp only [go_sem, seval, h4]; simp [h5]
end
theorem e50 (x y : Ino) (h : x.ok) : E T 50 [ino x, ino y] [] = some (.bool (decide (x = y)), []) := by
  rw [E_eq t50 (Nat.le_of_ble_eq_true rfl)]
  simp only [ino, F50, go_sem, seval, bnd_ite, bdec, bne_dec, ino_eq, e99 _ y.ptrs h]
  by_cases h1 : x.kind = y.kind <;> by_cases h2 : x.links = y.links <;> by_cases h3 : x.ptrs = y.ptrs <;> simp [h1, h2, h3]
theorem e56 (x y : Blk) (h : x.ok) : E T 56 [blk x, blk y] [] = some (.bool (decide (x = y)), []) := by
  rw [E_eq t56 (Nat.le_of_ble_eq_true rfl)]
  simp only [blk, F56, go_sem, seval, bnd_ite, bdec, bne_dec, blk_eq, e150 _ y.slots h.1]
  by_cases h1 : x.dir = y.dir <;> by_cases h2 : x.slots = y.slots <;> by_cases h3 : x.text = y.text <;> simp [h1, h2, h3]
theorem e132 (xs ys : List Ino) (ha : xs.length ≤ maxLen) (hok : ∀ x ∈ xs, x.ok) : E T 132 [.ro 3 (xs.map ino), .ro 3 (ys.map ino)] [] = some (.bool (decide (xs = ys)), []) :=
  geq' (ok := Ino.ok) t132 (fun _ => rfl) (fun _ => Nat.le_refl _) (fun _ => rfl) (fun _ => rfl) (fun x y h => e50 x y h) xs ys ha hok
theorem e133 (xs ys : List Blk) (ha : xs.length ≤ maxLen) (hok : ∀ x ∈ xs, x.ok) : E T 133 [.ro 3 (xs.map blk), .ro 3 (ys.map blk)] [] = some (.bool (decide (xs = ys)), []) :=
  geq' (ok := Blk.ok) t133 (fun _ => rfl) (fun _ => Nat.le_refl _) (fun _ => rfl) (fun _ => rfl) (fun x y h => e56 x y h) xs ys ha hok
theorem e131 (a b c d : List Bool) (ha : a.length ≤ maxLen) (hb : b.length ≤ maxLen) : E T 131 [.agg [.ro 1 (a.map bv), .ro 1 (b.map bv)], .agg [.ro 1 (c.map bv), .ro 1 (d.map bv)]] [] = some (.bool (decide (a = c ∧ b = d)), []) := by
  rw [E_eq t131 (Nat.le_of_ble_eq_true rfl)]
  simp only [F131, go_sem, seval, bnd_ite, e139 a c ha, e139 b d hb]
  by_cases h1 : a = c <;> by_cases h2 : b = d <;> simp [h1, h2]
theorem dsk_eq (a b : Dsk) : a = b ↔ (a.used = b.used ∧ a.taken = b.taken) ∧ a.inos = b.inos ∧ a.blks = b.blks := by cases a; cases b; simp [and_assoc]
theorem e42 (x y : Dsk) (h : x.ok) : E T 42 [dsk x, dsk y] [] = some (.bool (decide (x = y)), []) := by
  rw [E_eq t42 (Nat.le_of_ble_eq_true rfl)]
  simp only [dsk, F42, go_sem, seval, bnd_ite, e131 _ _ y.used y.taken h.used h.taken, e132 _ y.inos h.inos h.ino, e133 _ y.blks h.blks h.blk, dsk_eq]
  by_cases h1 : x.used = y.used ∧ x.taken = y.taken <;> by_cases h2 : x.inos = y.inos <;> by_cases h3 : x.blks = y.blks <;> simp [h1, h2, h3]
end Go.Proofs.Ytaaajjinpppgeaa

