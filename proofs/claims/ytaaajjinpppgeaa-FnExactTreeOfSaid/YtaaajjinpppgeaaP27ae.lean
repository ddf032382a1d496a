/- Part 5 of the texts of a claim, joined by a program of ours (Ty, Sy, Sw, Sv, Cf, Fd). No condition. -/
import Derived.Test.YtaaajjinpppgeaaP27ad
import Derived.Test.YtaaajjinpppgeaaProg
import Derived.KernelRfl
import Derived.Shelf.SlGeneric
import Derived.Shelf.SlSortCmp.WholeK
import Derived.WalkKit
import Derived.ProofKit
import Derived.Laws.Strings
import Derived.Laws.Cover1
import Derived.Shelf.SlSortCmp.NoneTotal
set_option linter.unusedVariables false
set_option linter.unusedSimpArgs false
set_option linter.unusedSectionVars false
namespace Go.Proofs.Ytaaajjinpppgeaa
open Go Go.Abs
def tt : Types := [
  (1, ⟨.func, 1, 8, .undef⟩),
  (2, ⟨(.int .i64), 1, 8, (.int .i64 0)⟩),
  (3, ⟨(.int .i64), 1, 8, (.int .i64 0)⟩),
  (4, ⟨.bool, 1, 1, (.bool false)⟩),
  (5, ⟨(.int .u8), 1, 1, (.int .u8 0)⟩),
  (6, ⟨(.int .u8), 1, 1, (.int .u8 0)⟩),
  (7, ⟨(.struct [(0, 2), (1, 3), (2, 4), (3, 6)]), 4, 24, (.agg [(.int .i64 0), (.int .i64 0), (.bool false), (.int .u8 0)])⟩),
  (8, ⟨(.struct [(0, 2), (1, 3), (2, 4), (3, 6)]), 4, 24, (.agg [(.int .i64 0), (.int .i64 0), (.bool false), (.int .u8 0)])⟩),
  (9, ⟨.str, 1, 16, (.str ⟨#[]⟩)⟩),
  (10, ⟨.str, 1, 16, (.str ⟨#[]⟩)⟩),
  (11, ⟨.str, 1, 16, (.str ⟨#[]⟩)⟩),
  (12, ⟨(.int .u64), 1, 8, (.int .u64 0)⟩),
  (13, ⟨(.struct [(0, 9), (1, 12)]), 2, 24, (.agg [(.str ⟨#[]⟩), (.int .u64 0)])⟩),
  (14, ⟨(.struct [(0, 9), (1, 12)]), 2, 24, (.agg [(.str ⟨#[]⟩), (.int .u64 0)])⟩),
  (15, ⟨.ptr, 1, 8, .undef⟩),
  (16, ⟨.ptr, 1, 8, .undef⟩),
  (17, ⟨.ptr, 1, 8, .undef⟩),
  (18, ⟨(.struct [(0, 17)]), 1, 8, (.agg [.undef])⟩),
  (19, ⟨(.struct [(0, 17)]), 1, 8, (.agg [.undef])⟩),
  (21, ⟨(.int .i32), 1, 4, (.int .i32 0)⟩),
  (22, ⟨(.struct [(0, 3), (1, 9), (2, 9), (3, 3), (4, 9)]), 5, 64, (.agg [(.int .i64 0), (.str ⟨#[]⟩), (.str ⟨#[]⟩), (.int .i64 0), (.str ⟨#[]⟩)])⟩),
  (23, ⟨(.struct [(0, 3), (1, 9), (2, 9), (3, 3), (4, 9)]), 5, 64, (.agg [(.int .i64 0), (.str ⟨#[]⟩), (.str ⟨#[]⟩), (.int .i64 0), (.str ⟨#[]⟩)])⟩),
  (24, ⟨.func, 1, 8, .undef⟩),
  (25, ⟨.func, 1, 8, .undef⟩),
  (26, ⟨(.struct [(0, 3), (1, 9), (2, 9), (3, 3), (4, 9)]), 5, 64, (.agg [(.int .i64 0), (.str ⟨#[]⟩), (.str ⟨#[]⟩), (.int .i64 0), (.str ⟨#[]⟩)])⟩),
  (27, ⟨.func, 1, 8, .undef⟩),
  (28, ⟨.func, 1, 8, .undef⟩),
  (29, ⟨(.slice 121), 1, 24, .nil⟩),
  (30, ⟨.func, 1, 8, .undef⟩),
  (31, ⟨.func, 1, 8, .undef⟩),
  (32, ⟨(.slice 122), 1, 24, .nil⟩),
  (33, ⟨.func, 1, 8, .undef⟩),
  (34, ⟨.func, 1, 8, .undef⟩),
  (35, ⟨(.slice 4), 1, 24, .nil⟩),
  (36, ⟨(.struct [(0, 35), (1, 35)]), 2, 48, (.agg [.nil, .nil])⟩),
  (37, ⟨(.struct [(0, 35), (1, 35)]), 2, 48, (.agg [.nil, .nil])⟩),
  (38, ⟨(.slice 192), 1, 24, .nil⟩),
  (39, ⟨(.slice 196), 1, 24, .nil⟩),
  (40, ⟨(.struct [(0, 37), (2, 38), (3, 39)]), 4, 96, (.agg [.nil, .nil, .nil, .nil])⟩),
  (41, ⟨(.struct [(0, 37), (2, 38), (3, 39)]), 4, 96, (.agg [.nil, .nil, .nil, .nil])⟩),
  (42, ⟨.func, 1, 8, .undef⟩),
  (43, ⟨.func, 1, 8, .undef⟩),
  (44, ⟨(.struct [(0, 35), (1, 35)]), 2, 48, (.agg [.nil, .nil])⟩),
  (45, ⟨(.slice 65), 1, 24, .nil⟩),
  (46, ⟨(.slice 73), 1, 24, .nil⟩),
  (47, ⟨(.struct [(0, 44), (2, 45), (3, 46)]), 4, 96, (.agg [.nil, .nil, .nil, .nil])⟩),
  (48, ⟨(.struct [(0, 44), (2, 45), (3, 46)]), 4, 96, (.agg [.nil, .nil, .nil, .nil])⟩),
  (49, ⟨.func, 1, 8, .undef⟩),
  (50, ⟨.func, 1, 8, .undef⟩),
  (51, ⟨.func, 1, 8, .undef⟩),
  (52, ⟨(.slice 95), 1, 24, .nil⟩),
  (53, ⟨(.struct [(0, 41), (4, 35), (5, 52), (6, 3)]), 7, 152, (.agg [.nil, .nil, .nil, .nil, .nil, .nil, (.int .i64 0)])⟩),
  (54, ⟨(.struct [(0, 41), (4, 35), (5, 52), (6, 3)]), 7, 152, (.agg [.nil, .nil, .nil, .nil, .nil, .nil, (.int .i64 0)])⟩),
  (55, ⟨.func, 1, 8, .undef⟩),
  (56, ⟨.func, 1, 8, .undef⟩),
  (57, ⟨(.slice 99), 1, 24, .nil⟩),
  (58, ⟨(.struct [(0, 48), (4, 35), (5, 57), (6, 3)]), 7, 152, (.agg [.nil, .nil, .nil, .nil, .nil, .nil, (.int .i64 0)])⟩),
  (59, ⟨(.struct [(0, 48), (4, 35), (5, 57), (6, 3)]), 7, 152, (.agg [.nil, .nil, .nil, .nil, .nil, .nil, (.int .i64 0)])⟩),
  (60, ⟨.func, 1, 8, .undef⟩),
  (61, ⟨.func, 1, 8, .undef⟩),
  (62, ⟨.func, 1, 8, .undef⟩),
  (63, ⟨(.slice 3), 1, 24, .nil⟩),
  (64, ⟨(.struct [(0, 3), (1, 3), (2, 63)]), 3, 40, (.agg [(.int .i64 0), (.int .i64 0), .nil])⟩),
  (65, ⟨(.struct [(0, 3), (1, 3), (2, 63)]), 3, 40, (.agg [(.int .i64 0), (.int .i64 0), .nil])⟩),
  (66, ⟨.func, 1, 8, .undef⟩),
  (67, ⟨.func, 1, 8, .undef⟩),
  (68, ⟨.func, 1, 8, .undef⟩),
  (69, ⟨.func, 1, 8, .undef⟩),
  (70, ⟨.func, 1, 8, .undef⟩),
  (71, ⟨(.slice 147), 1, 24, .nil⟩),
  (72, ⟨(.struct [(0, 4), (1, 71), (2, 9)]), 3, 48, (.agg [(.bool false), .nil, (.str ⟨#[]⟩)])⟩),
  (73, ⟨(.struct [(0, 4), (1, 71), (2, 9)]), 3, 48, (.agg [(.bool false), .nil, (.str ⟨#[]⟩)])⟩),
  (74, ⟨.func, 1, 8, .undef⟩),
  (75, ⟨.func, 1, 8, .undef⟩),
  (76, ⟨.func, 1, 8, .undef⟩),
  (77, ⟨.func, 1, 8, .undef⟩),
  (78, ⟨.func, 1, 8, .undef⟩),
  (79, ⟨.func, 1, 8, .undef⟩),
  (80, ⟨(.slice 9), 1, 24, .nil⟩),
  (81, ⟨(.struct [(0, 80)]), 1, 24, (.agg [.nil])⟩),
  (82, ⟨(.struct [(0, 80)]), 1, 24, (.agg [.nil])⟩),
  (83, ⟨(.struct [(0, 54), (7, 82)]), 8, 176, (.agg [.nil, .nil, .nil, .nil, .nil, .nil, (.int .i64 0), .nil])⟩),
  (84, ⟨(.struct [(0, 54), (7, 82)]), 8, 176, (.agg [.nil, .nil, .nil, .nil, .nil, .nil, (.int .i64 0), .nil])⟩),
  (85, ⟨.func, 1, 8, .undef⟩),
  (86, ⟨.func, 1, 8, .undef⟩),
  (87, ⟨(.struct [(0, 80)]), 1, 24, (.agg [.nil])⟩),
  (88, ⟨(.struct [(0, 59), (7, 87)]), 8, 176, (.agg [.nil, .nil, .nil, .nil, .nil, .nil, (.int .i64 0), .nil])⟩),
  (89, ⟨(.struct [(0, 59), (7, 87)]), 8, 176, (.agg [.nil, .nil, .nil, .nil, .nil, .nil, (.int .i64 0), .nil])⟩),
  (90, ⟨.func, 1, 8, .undef⟩),
  (91, ⟨.func, 1, 8, .undef⟩),
  (92, ⟨.func, 1, 8, .undef⟩),
  (93, ⟨.func, 1, 8, .undef⟩),
  (94, ⟨(.struct [(0, 3), (1, 3), (2, 3), (3, 3), (4, 3), (5, 3), (6, 9), (7, 4), (8, 4), (9, 3), (10, 63)]), 11, 104, (.agg [(.int .i64 0), (.int .i64 0), (.int .i64 0), (.int .i64 0), (.int .i64 0), (.int .i64 0), (.str ⟨#[]⟩), (.bool false), (.bool false), (.int .i64 0), .nil])⟩),
  (95, ⟨(.struct [(0, 3), (1, 3), (2, 3), (3, 3), (4, 3), (5, 3), (6, 9), (7, 4), (8, 4), (9, 3), (10, 63)]), 11, 104, (.agg [(.int .i64 0), (.int .i64 0), (.int .i64 0), (.int .i64 0), (.int .i64 0), (.int .i64 0), (.str ⟨#[]⟩), (.bool false), (.bool false), (.int .i64 0), .nil])⟩),
  (96, ⟨.func, 1, 8, .undef⟩),
  (98, ⟨.func, 1, 8, .undef⟩),
  (99, ⟨(.struct [(0, 3), (1, 3), (2, 3), (3, 3), (4, 3), (5, 3), (6, 9), (7, 4), (8, 4), (9, 3), (10, 63)]), 11, 104, (.agg [(.int .i64 0), (.int .i64 0), (.int .i64 0), (.int .i64 0), (.int .i64 0), (.int .i64 0), (.str ⟨#[]⟩), (.bool false), (.bool false), (.int .i64 0), .nil])⟩),
  (100, ⟨.func, 1, 8, .undef⟩),
  (101, ⟨.func, 1, 8, .undef⟩),
  (102, ⟨.func, 1, 8, .undef⟩),
  (103, ⟨.func, 1, 8, .undef⟩),
  (104, ⟨.func, 1, 8, .undef⟩),
  (105, ⟨.func, 1, 8, .undef⟩),
  (106, ⟨.func, 1, 8, .undef⟩),
  (107, ⟨.func, 1, 8, .undef⟩),
  (108, ⟨.func, 1, 8, .undef⟩),
  (109, ⟨.func, 1, 8, .undef⟩),
  (110, ⟨.func, 1, 8, .undef⟩),
  (111, ⟨.func, 1, 8, .undef⟩),
  (113, ⟨.func, 1, 8, .undef⟩),
  (114, ⟨.func, 1, 8, .undef⟩),
  (115, ⟨.func, 1, 8, .undef⟩),
  (116, ⟨.func, 1, 8, .undef⟩),
  (117, ⟨.func, 1, 8, .undef⟩),
  (118, ⟨.func, 1, 8, .undef⟩),
  (119, ⟨.func, 1, 8, .undef⟩),
  (120, ⟨(.struct [(0, 9), (1, 4), (2, 9), (3, 9)]), 4, 56, (.agg [(.str ⟨#[]⟩), (.bool false), (.str ⟨#[]⟩), (.str ⟨#[]⟩)])⟩),
  (121, ⟨(.struct [(0, 9), (1, 4), (2, 9), (3, 9)]), 4, 56, (.agg [(.str ⟨#[]⟩), (.bool false), (.str ⟨#[]⟩), (.str ⟨#[]⟩)])⟩),
  (122, ⟨(.struct [(0, 9), (1, 4), (2, 9), (3, 9)]), 4, 56, (.agg [(.str ⟨#[]⟩), (.bool false), (.str ⟨#[]⟩), (.str ⟨#[]⟩)])⟩),
  (123, ⟨.func, 1, 8, .undef⟩),
  (124, ⟨.func, 1, 8, .undef⟩),
  (125, ⟨.func, 1, 8, .undef⟩),
  (126, ⟨.func, 1, 8, .undef⟩),
  (127, ⟨.func, 1, 8, .undef⟩),
  (128, ⟨.func, 1, 8, .undef⟩),
  (129, ⟨.func, 1, 8, .undef⟩),
  (130, ⟨.func, 1, 8, .undef⟩),
  (131, ⟨.func, 1, 8, .undef⟩),
  (132, ⟨.func, 1, 8, .undef⟩),
  (133, ⟨.func, 1, 8, .undef⟩),
  (134, ⟨.func, 1, 8, .undef⟩),
  (135, ⟨.func, 1, 8, .undef⟩),
  (136, ⟨.func, 1, 8, .undef⟩),
  (137, ⟨.func, 1, 8, .undef⟩),
  (138, ⟨.func, 1, 8, .undef⟩),
  (139, ⟨.func, 1, 8, .undef⟩),
  (140, ⟨.func, 1, 8, .undef⟩),
  (141, ⟨.func, 1, 8, .undef⟩),
  (142, ⟨.func, 1, 8, .undef⟩),
  (143, ⟨.func, 1, 8, .undef⟩),
  (144, ⟨.func, 1, 8, .undef⟩),
  (145, ⟨.func, 1, 8, .undef⟩),
  (146, ⟨(.struct [(0, 9), (1, 3)]), 2, 24, (.agg [(.str ⟨#[]⟩), (.int .i64 0)])⟩),
  (147, ⟨(.struct [(0, 9), (1, 3)]), 2, 24, (.agg [(.str ⟨#[]⟩), (.int .i64 0)])⟩),
  (148, ⟨.func, 1, 8, .undef⟩),
  (149, ⟨.func, 1, 8, .undef⟩),
  (150, ⟨.func, 1, 8, .undef⟩),
  (151, ⟨.func, 1, 8, .undef⟩),
  (152, ⟨.func, 1, 8, .undef⟩),
  (153, ⟨.func, 1, 8, .undef⟩),
  (154, ⟨.func, 1, 8, .undef⟩),
  (155, ⟨.func, 1, 8, .undef⟩),
  (157, ⟨.func, 1, 8, .undef⟩),
  (158, ⟨.func, 1, 8, .undef⟩),
  (159, ⟨.func, 1, 8, .undef⟩),
  (160, ⟨.func, 1, 8, .undef⟩),
  (161, ⟨.func, 1, 8, .undef⟩),
  (162, ⟨.func, 1, 8, .undef⟩),
  (163, ⟨.func, 1, 8, .undef⟩),
  (164, ⟨.func, 1, 8, .undef⟩),
  (165, ⟨.func, 1, 8, .undef⟩),
  (166, ⟨.func, 1, 8, .undef⟩),
  (167, ⟨.func, 1, 8, .undef⟩),
  (168, ⟨.func, 1, 8, .undef⟩),
  (169, ⟨.func, 1, 8, .undef⟩),
  (170, ⟨.func, 1, 8, .undef⟩),
  (171, ⟨.func, 1, 8, .undef⟩),
  (172, ⟨.func, 1, 8, .undef⟩),
  (173, ⟨.func, 1, 8, .undef⟩),
  (174, ⟨.func, 1, 8, .undef⟩),
  (175, ⟨.func, 1, 8, .undef⟩),
  (176, ⟨.ptr, 1, 8, .undef⟩),
  (177, ⟨.func, 1, 8, .undef⟩),
  (179, ⟨.func, 1, 8, .undef⟩),
  (180, ⟨.func, 1, 8, .undef⟩),
  (181, ⟨.func, 1, 8, .undef⟩),
  (182, ⟨.func, 1, 8, .undef⟩),
  (183, ⟨.func, 1, 8, .undef⟩),
  (184, ⟨.func, 1, 8, .undef⟩),
  (185, ⟨.func, 1, 8, .undef⟩),
  (186, ⟨.func, 1, 8, .undef⟩),
  (187, ⟨.func, 1, 8, .undef⟩),
  (188, ⟨.func, 1, 8, .undef⟩),
  (189, ⟨.func, 1, 8, .undef⟩),
  (190, ⟨.func, 1, 8, .undef⟩),
  (191, ⟨.func, 1, 8, .undef⟩),
  (192, ⟨(.struct [(0, 3), (1, 3), (2, 63)]), 3, 40, (.agg [(.int .i64 0), (.int .i64 0), .nil])⟩),
  (193, ⟨.func, 1, 8, .undef⟩),
  (194, ⟨(.slice 254), 1, 24, .nil⟩),
  (195, ⟨(.struct [(0, 4), (1, 194), (2, 9)]), 3, 48, (.agg [(.bool false), .nil, (.str ⟨#[]⟩)])⟩),
  (196, ⟨(.struct [(0, 4), (1, 194), (2, 9)]), 3, 48, (.agg [(.bool false), .nil, (.str ⟨#[]⟩)])⟩),
  (197, ⟨.func, 1, 8, .undef⟩),
  (198, ⟨.func, 1, 8, .undef⟩),
  (199, ⟨.func, 1, 8, .undef⟩),
  (200, ⟨.func, 1, 8, .undef⟩),
  (201, ⟨.func, 1, 8, .undef⟩),
  (202, ⟨.func, 1, 8, .undef⟩),
  (203, ⟨.func, 1, 8, .undef⟩),
  (204, ⟨.func, 1, 8, .undef⟩),
  (205, ⟨.func, 1, 8, .undef⟩),
  (206, ⟨.func, 1, 8, .undef⟩),
  (207, ⟨.func, 1, 8, .undef⟩),
  (208, ⟨.func, 1, 8, .undef⟩),
  (209, ⟨.func, 1, 8, .undef⟩),
  (210, ⟨.func, 1, 8, .undef⟩),
  (211, ⟨.func, 1, 8, .undef⟩),
  (212, ⟨.func, 1, 8, .undef⟩),
  (213, ⟨.func, 1, 8, .undef⟩),
  (214, ⟨.func, 1, 8, .undef⟩),
  (215, ⟨.func, 1, 8, .undef⟩),
  (216, ⟨(.int .u64), 1, 8, (.int .u64 0)⟩),
  (217, ⟨.func, 1, 8, .undef⟩),
  (218, ⟨.func, 1, 8, .undef⟩),
  (219, ⟨.func, 1, 8, .undef⟩),
  (220, ⟨.func, 1, 8, .undef⟩),
  (221, ⟨.func, 1, 8, .undef⟩),
  (222, ⟨.func, 1, 8, .undef⟩),
  (224, ⟨.func, 1, 8, .undef⟩),
  (226, ⟨.func, 1, 8, .undef⟩),
  (227, ⟨.func, 1, 8, .undef⟩),
  (228, ⟨.func, 1, 8, .undef⟩),
  (229, ⟨(.slice 5), 1, 24, .nil⟩),
  (230, ⟨.func, 1, 8, .undef⟩),
  (231, ⟨.func, 1, 8, .undef⟩),
  (232, ⟨.func, 1, 8, .undef⟩),
  (233, ⟨.func, 1, 8, .undef⟩),
  (234, ⟨(.int .i64), 1, 8, (.int .i64 0)⟩),
  (236, ⟨.func, 1, 8, .undef⟩),
  (237, ⟨.func, 1, 8, .undef⟩),
  (238, ⟨.func, 1, 8, .undef⟩),
  (239, ⟨.func, 1, 8, .undef⟩),
  (241, ⟨.func, 1, 8, .undef⟩),
  (242, ⟨.func, 1, 8, .undef⟩),
  (243, ⟨(.int .u32), 1, 4, (.int .u32 0)⟩),
  (244, ⟨.func, 1, 8, .undef⟩),
  (245, ⟨(.int .u64), 1, 8, (.int .u64 0)⟩),
  (246, ⟨.func, 1, 8, .undef⟩),
  (247, ⟨.func, 1, 8, .undef⟩),
  (248, ⟨.func, 1, 8, .undef⟩),
  (249, ⟨.func, 1, 8, .undef⟩),
  (250, ⟨.func, 1, 8, .undef⟩),
  (251, ⟨.func, 1, 8, .undef⟩),
  (252, ⟨.func, 1, 8, .undef⟩),
  (253, ⟨.func, 1, 8, .undef⟩),
  (254, ⟨(.struct [(0, 9), (1, 3)]), 2, 24, (.agg [(.str ⟨#[]⟩), (.int .i64 0)])⟩),
  (255, ⟨.func, 1, 8, .undef⟩),
  (256, ⟨.func, 1, 8, .undef⟩),
  (257, ⟨.func, 1, 8, .undef⟩),
  (258, ⟨(.int .u64), 1, 8, (.int .u64 0)⟩),
  (259, ⟨.func, 1, 8, .undef⟩),
  (260, ⟨.func, 1, 8, .undef⟩),
  (261, ⟨.func, 1, 8, .undef⟩),
  (262, ⟨.ptr, 1, 8, .undef⟩),
  (263, ⟨.func, 1, 8, .undef⟩),
  (264, ⟨.func, 1, 8, .undef⟩),
  (265, ⟨.func, 1, 8, .undef⟩),
  (266, ⟨.func, 1, 8, .undef⟩),
  (267, ⟨.func, 1, 8, .undef⟩),
  (268, ⟨.ptr, 1, 8, .undef⟩),
  (270, ⟨.func, 1, 8, .undef⟩),
  (271, ⟨.func, 1, 8, .undef⟩),
  (272, ⟨.func, 1, 8, .undef⟩),
  (273, ⟨(.struct [(0, 17), (1, 17), (2, 17), (3, 9)]), 4, 40, (.agg [.undef, .undef, .undef, (.str ⟨#[]⟩)])⟩),
  (274, ⟨(.struct [(0, 17), (1, 17), (2, 17), (3, 9)]), 4, 40, (.agg [.undef, .undef, .undef, (.str ⟨#[]⟩)])⟩),
  (276, ⟨(.struct [(0, 275)]), 0, 0, (.agg [])⟩),
  (277, ⟨(.struct [(0, 275)]), 0, 0, (.agg [])⟩),
  (278, ⟨.func, 1, 8, .undef⟩),
  (279, ⟨(.int .u8), 1, 1, (.int .u8 0)⟩),
  (280, ⟨(.int .u8), 1, 1, (.int .u8 0)⟩),
  (281, ⟨.func, 1, 8, .undef⟩),
  (282, ⟨.ptr, 1, 8, .undef⟩),
  (283, ⟨(.int .i32), 1, 4, (.int .i32 0)⟩),
  (284, ⟨(.int .i32), 1, 4, (.int .i32 0)⟩),
  (285, ⟨(.struct [(0, 12), (1, 12), (2, 243), (3, 279), (4, 5), (5, 5), (6, 280), (7, 281), (8, 282), (9, 283), (10, 284)]), 11, 48, (.agg [(.int .u64 0), (.int .u64 0), (.int .u32 0), (.int .u8 0), (.int .u8 0), (.int .u8 0), (.int .u8 0), .undef, .undef, (.int .i32 0), (.int .i32 0)])⟩),
  (286, ⟨(.struct [(0, 12), (1, 12), (2, 243), (3, 279), (4, 5), (5, 5), (6, 280), (7, 281), (8, 282), (9, 283), (10, 284)]), 11, 48, (.agg [(.int .u64 0), (.int .u64 0), (.int .u32 0), (.int .u8 0), (.int .u8 0), (.int .u8 0), (.int .u8 0), .undef, .undef, (.int .i32 0), (.int .i32 0)])⟩)]
theorem tt_rows : tt.map (fun r => tyOf Try.prog r.1) = tt.map (fun r => some r.2) := by kernel_rfl
theorem mixed : Try.prog.follows .mixedOrders = true := by kernel_rfl
end Go.Proofs.Ytaaajjinpppgeaa
namespace Go.Proofs
open Go.Shelf
def Try.laysSf_ren : Go.Shelf.Ren := ⟨fun | 6 => 204 | 15 => 247 | 14 => 261 | 28 => 275 | 29 => 276 | 20 => 284 | 21 => 285 | 22 => 286 | 23 => 287 | 24 => 288 | 25 => 289 | 26 => 290 | 27 => 291 | 46 => 305 | 47 => 297 | 48 => 298 | 49 => 306 | 50 => 307 | 57 => 309 | n => n, fun | 22 => 32 | 24 => 122 | 25 => 188 | 3 => 3 | 39 => 216 | 0 => 0 | 53 => 243 | 55 => 245 | 4 => 4 | 46 => 235 | 45 => 234 | 50 => 240 | 5 => 5 | 9 => 9 | 66 => 258 | 70 => 262 | 76 => 268 | 77 => 269 | n => n, fun | n => n⟩
theorem Try.laysSf : Go.Proofs.SlLaysF0.n6 Try.prog Try.laysSf_ren := {
  mixed := by kernel_rfl
  f6 := ⟨Try.f204.name, by decide, Try.func204.trans (congrArg some (by kernel_rfl))⟩
  f14 := ⟨Try.f261.name, by decide, Try.func261.trans (congrArg some (by kernel_rfl))⟩
  f15 := Try.func247.trans (congrArg some (by kernel_rfl))
  f20 := ⟨Try.f284.name, by decide, Try.func284.trans (congrArg some (by kernel_rfl))⟩
  f21 := ⟨Try.f285.name, by decide, Try.func285.trans (congrArg some (by kernel_rfl))⟩
  f22 := ⟨Try.f286.name, by decide, Try.func286.trans (congrArg some (by kernel_rfl))⟩
  f23 := ⟨Try.f287.name, by decide, Try.func287.trans (congrArg some (by kernel_rfl))⟩
  f24 := ⟨Try.f288.name, by decide, Try.func288.trans (congrArg some (by kernel_rfl))⟩
  f25 := ⟨Try.f289.name, by decide, Try.func289.trans (congrArg some (by kernel_rfl))⟩
  f26 := ⟨Try.f290.name, by decide, Try.func290.trans (congrArg some (by kernel_rfl))⟩
  f27 := ⟨Try.f291.name, by decide, Try.func291.trans (congrArg some (by kernel_rfl))⟩
  f28 := Try.func275.trans (congrArg some (by kernel_rfl))
  f29 := Try.func276.trans (congrArg some (by kernel_rfl))
  f46 := ⟨Try.f305.name, by decide, Try.func305.trans (congrArg some (by kernel_rfl))⟩
  f47 := Try.func297.trans (congrArg some (by kernel_rfl))
  f48 := Try.func298.trans (congrArg some (by kernel_rfl))
  f49 := ⟨Try.f306.name, by decide, Try.func306.trans (congrArg some (by kernel_rfl))⟩
  f50 := ⟨Try.f307.name, by decide, Try.func307.trans (congrArg some (by kernel_rfl))⟩
  f57 := ⟨Try.f309.name, by decide, Try.func309.trans (congrArg some (by kernel_rfl))⟩
  t0 := Try.underlying0
  a0 := Try.isAgg0
  z0 := Try.sizeOf0
  v0 := Try.zeroValue0
  t3 := Try.underlying3
  a3 := Try.isAgg3
  z3 := Try.sizeOf3
  v3 := Try.zeroValue3
  t4 := Try.underlying4
  a4 := Try.isAgg4
  z4 := Try.sizeOf4
  v4 := Try.zeroValue4
  t5 := Try.underlying5
  a5 := Try.isAgg5
  z5 := Try.sizeOf5
  v5 := Try.zeroValue5
  t9 := Try.underlying9
  a9 := Try.isAgg9
  z9 := Try.sizeOf9
  v9 := Try.zeroValue9
  t22 := Try.underlying32
  a22 := Try.isAgg32
  z22 := Try.sizeOf32
  v22 := Try.zeroValue32
  t25 := Try.underlying188
  a25 := Try.isAgg188
  z25 := Try.sizeOf188
  v25 := Try.zeroValue188
  t39 := Try.underlying216
  a39 := Try.isAgg216
  z39 := Try.sizeOf216
  v39 := Try.zeroValue216
  t45 := Try.underlying234
  a45 := Try.isAgg234
  z45 := Try.sizeOf234
  v45 := Try.zeroValue234
  t46 := Try.underlying235
  a46 := Try.isAgg235
  z46 := Try.sizeOf235
  v46 := Try.zeroValue235
  t50 := Try.underlying240
  a50 := Try.isAgg240
  z50 := Try.sizeOf240
  v50 := Try.zeroValue240
  t53 := Try.underlying243
  a53 := Try.isAgg243
  z53 := Try.sizeOf243
  v53 := Try.zeroValue243
  t55 := Try.underlying245
  a55 := Try.isAgg245
  z55 := Try.sizeOf245
  v55 := Try.zeroValue245
  t66 := Try.underlying258
  a66 := Try.isAgg258
  z66 := Try.sizeOf258
  v66 := Try.zeroValue258
  t70 := Try.underlying262
  a70 := Try.isAgg262
  z70 := Try.sizeOf262
  v70 := Try.zeroValue262
  t76 := Try.underlying268
  a76 := Try.isAgg268
  z76 := Try.sizeOf268
  v76 := Try.zeroValue268
  t77 := Try.underlying269
  a77 := Try.isAgg269
  z77 := Try.sizeOf269
  v77 := Try.zeroValue269 }
end Go.Proofs
namespace Go.Proofs.Ytaaajjinpppgeaa
open Go Go.Abs
structure Nd where
  path : ByteArray
  dir : Bool
  head : ByteArray
  tail : ByteArray
  deriving DecidableEq
def nd (x : Nd) : AV := .agg [.str x.path, .bool x.dir, .str x.head, .str x.tail]
def ndOf : AV → Option Nd
  | .agg [.str p, .bool d, .str h, .str t] => some ⟨p, d, h, t⟩
  | _ => none
def ndsOf : List AV → Option (List Nd)
  | [] => some []
  | x :: xs => match ndOf x, ndsOf xs with
    | some y, some ys => some (y :: ys)
    | _, _ => none
theorem ndsOf_map (l : List Nd) : ndsOf (l.map nd) = some l := by
  induction l with
  | nil => rfl
  | cons x l ih => rw [List.map_cons]; unfold ndsOf; rw [ih]; rfl
theorem ndOf_eq {x : AV} {y : Nd} (h : ndOf x = some y) : x = nd y := by
  unfold ndOf at h
  split at h
  · cases h; rfl
  · cases h
theorem ndsOf_eq : ∀ {xs : List AV} {l : List Nd}, ndsOf xs = some l → xs = l.map nd
  | [], l, h => by cases h; rfl
  | x :: xs, l, h => by
    unfold ndsOf at h
    split at h
    · rename_i y ys h1 h2
      cases h
      rw [List.map_cons, ndOf_eq h1, ndsOf_eq h2]
    · cases h
theorem bl_irr : ∀ a : List UInt8, Op.bytesLess a a = false
  | [] => rfl
  | a :: x => by
    unfold Op.bytesLess
    rw [bl_irr x]; simp
theorem bl_trans : ∀ a b c : List UInt8, Op.bytesLess a b = true → Op.bytesLess b c = true → Op.bytesLess a c = true
  | _, _, [], _, h => by unfold Op.bytesLess at h; cases h
  | _, [], _ :: _, h, _ => by unfold Op.bytesLess at h; cases h
  | [], _ :: _, _ :: _, _, _ => rfl
  | a :: x, b :: y, c :: z, h1, h2 => by
    unfold Op.bytesLess at h1 h2 ⊢
    simp only [Bool.or_eq_true, Bool.and_eq_true, decide_eq_true_eq, beq_iff_eq] at h1 h2 ⊢
    rcases h1 with h1 | ⟨rfl, h1⟩
    · rcases h2 with h2 | ⟨rfl, h2⟩
      · exact .inl (UInt8.lt_trans h1 h2)
      · exact .inl h1
    · rcases h2 with h2 | ⟨rfl, h2⟩
      · exact .inl h2
      · exact .inr ⟨rfl, bl_trans x y z h1 h2⟩
theorem bl_tri : ∀ a b : List UInt8, Op.bytesLess a b = false → Op.bytesLess b a = false → a = b
  | [], [], _, _ => rfl
  | [], _ :: _, h, _ => by cases h
  | _ :: _, [], _, h => by cases h
  | a :: x, b :: y, h1, h2 => by
    unfold Op.bytesLess at h1 h2
    simp only [Bool.or_eq_false_iff, decide_eq_false_iff_not, Bool.and_eq_false_iff, beq_eq_false_iff_ne] at h1 h2
    have e : a = b := by
      by_cases hab : a = b
      · exact hab
      · rcases UInt8.lt_or_lt_of_ne hab with h | h
        · exact absurd h h1.1
        · exact absurd h h2.1
    subst e
    have h3 := h1.2.resolve_left (by simp)
    have h4 := h2.2.resolve_left (by simp)
    rw [bl_tri x y h3 h4]
def ltP (a b : Nd) : Bool := Op.bytesLess a.path.toList b.path.toList
def leP (a b : Nd) : Bool := !ltP b a
theorem leP_iff {a b : Nd} : leP a b = true ↔ ltP b a = false := by unfold leP; cases ltP b a <;> simp
theorem ltP_irr (a : Nd) : ltP a a = false := bl_irr _
theorem ltP_trans {a b c : Nd} (h1 : ltP a b = true) (h2 : ltP b c = true) : ltP a c = true := bl_trans _ _ _ h1 h2
theorem ltP_asym {a b : Nd} (h1 : ltP a b = true) : ltP b a = false := by
  cases h : ltP b a with
  | false => rfl
  | true => have := ltP_trans h1 h; rw [ltP_irr] at this; cases this
theorem leP_trans {a b c : Nd} (h1 : leP a b = true) (h2 : leP b c = true) : leP a c = true := by
  rw [leP_iff] at *
  cases h : ltP c a with
  | false => rfl
  | true =>
    exfalso
    by_cases hab : ltP a b = true
    · have := ltP_trans h hab; rw [h2] at this; cases this
    · have hab : ltP a b = false := by simpa using hab
      have e := bl_tri _ _ hab h1
      have : ltP c b = ltP c a := by unfold ltP; rw [e]
      rw [this, h] at h2; cases h2
theorem leP_total (a b : Nd) : (leP a b || leP b a) = true := by
  cases h : ltP b a with
  | false => rw [leP_iff.2 h]; rfl
  | true => rw [leP_iff.2 (ltP_asym h), Bool.or_true]
theorem toList_inj {a b : ByteArray} (h : a.toList = b.toList) : a = b := by
  have := str_eq a b
  rw [h, beq_self_eq_true] at this
  exact of_decide_eq_true this.symm
theorem gt_lt (a b : Nd) : (!(Op.bytesLess a.path.toList b.path.toList || a.path.toList == b.path.toList)) = ltP b a := by
  cases h : ltP b a with
  | true =>
    have h1 := ltP_asym h
    unfold ltP at h1 h
    rw [h1, Bool.false_or]
    cases he : (a.path.toList == b.path.toList) with
    | false => rfl
    | true =>
      rw [beq_iff_eq] at he
      rw [he, bl_irr] at h; cases h
  | false =>
    cases h2 : ltP a b with
    | true => unfold ltP at h2; rw [h2]; rfl
    | false => rw [bl_tri _ _ h2 h]; simp
theorem sorted_one {a b : List Nd} (hp : a.Perm b) (ha : a.Pairwise fun x y => leP x y = true) (hb : b.Pairwise fun x y => leP x y = true) (hd : a.Pairwise fun x y => x.path ≠ y.path) : a = b := by
  refine hp.eq_of_pairwise (fun x y hx hy h1 h2 => ?_) ha hb
  rw [leP_iff] at h1 h2
  have e : x.path = y.path := toList_inj (bl_tri _ _ h2 h1)
  by_cases hxy : x = y
  · exact hxy
  · exfalso
    have hn : ∀ l : List Nd, l.Pairwise (fun x y => x.path ≠ y.path) → x ∈ l → y ∈ l → False := by
      intro l
      induction l with
      | nil => intro _ h; cases h
      | cons z l ih =>
        intro hpw hx hy
        rw [List.pairwise_cons] at hpw
        rcases List.mem_cons.1 hx with h1 | h1
        · rcases List.mem_cons.1 hy with h2 | h2
          · exact hxy (h1.trans h2.symm)
          · exact hpw.1 y h2 (by rw [← h1]; exact e)
        · rcases List.mem_cons.1 hy with h2 | h2
          · exact hpw.1 x h1 (by rw [← h2]; exact e.symm)
          · exact ih hpw.2 h1 h2
    exact hn a hd hx (hp.mem_iff.2 hy)
def sortNd (l : List Nd) : List Nd := l.mergeSort leP
def apart (l : List Nd) : Prop := l.Pairwise fun x y => x.path ≠ y.path
instance (l : List Nd) : Decidable (apart l) := by unfold apart; exact inferInstance
def sortT (args : List AV) (mem : Mem) : Option (AV × Mem) := match args, mem with
  | [.sl 0 0 n, .fn 205 []], [some (4, xs)] => match ndsOf xs with
    | some l => if n = l.length ∧ l.length < 4611686018427387904 ∧ apart l then some (.tup [], [some (4, (sortNd l).map nd)]) else none
    | none => none
  | _, _ => none
theorem sortNd_len (l : List Nd) : (sortNd l).length = l.length := List.length_mergeSort l
theorem sortNd_perm (l : List Nd) : (sortNd l).Perm l := List.mergeSort_perm l leP
theorem sortNd_sorted (l : List Nd) : (sortNd l).Pairwise fun x y => leP x y = true := List.pairwise_mergeSort (le := leP) (fun a b c h1 h2 => leP_trans h1 h2) leP_total l
end Go.Proofs.Ytaaajjinpppgeaa
namespace Go.Proofs.Ytaaajjinpppgeaa
open Go Go.Abs Go.Proofs Go.Shelf Go.RowKit Go.Lib Go.Sort
set_option maxRecDepth 100000
theorem nan262 (a : ByteArray) (W : World) : Calls Try.prog 262 #[.string a] W fun e w' => e = .returned (.bool false) ∧ w' = W := by
  go_enter Try.func262, Try.ntmps262
  go_wp2
  go_ret
  exact ⟨by simp, rfl⟩
def compareS (a b : ByteArray) : Int := if Op.bytesLess a.toList b.toList = true then -1 else if Op.bytesLess b.toList a.toList = true then 1 else 0
theorem cmp206 (a b : ByteArray) (W : World) : Calls Try.prog 206 #[.string a, .string b] W fun e w' => e = .returned (.int .i64 (compareS a b)) ∧ w' = W := by
  have h1 := nan262 a W
  have h2 := nan262 b W
  unfold compareS
  have h0 : ¬ (Op.bytesLess a.toList b.toList = true ∧ Op.bytesLess b.toList a.toList = true) := by
    rintro ⟨x, y⟩
    have := bl_trans _ _ _ x y
    rw [bl_irr] at this; cases this
  have hg : (!(Op.bytesLess a.toList b.toList || a.toList == b.toList)) = Op.bytesLess b.toList a.toList := by
    cases x : Op.bytesLess a.toList b.toList with
    | true =>
      cases y : Op.bytesLess b.toList a.toList with
      | true => exact absurd ⟨x, y⟩ h0
      | false => rfl
    | false =>
      cases y : Op.bytesLess b.toList a.toList with
      | true =>
        cases z : (a.toList == b.toList) with
        | false => rfl
        | true => rw [beq_iff_eq] at z; rw [z, bl_irr] at y; cases y
      | false => rw [bl_tri _ _ x y]; simp
  cases x : Op.bytesLess a.toList b.toList with
  | true =>
    go_enter Try.func206, Try.ntmps206
    go_wp2_with (go_at_call 262; first | (refine h1.mono ?_; rintro e w' ⟨rfl, rfl⟩) | (refine h2.mono ?_; rintro e w' ⟨rfl, rfl⟩))
    go_ret
    exact ⟨rfl, rfl⟩
  | false =>
    rw [x] at hg
    cases y : Op.bytesLess b.toList a.toList with
    | true =>
      rw [y] at hg
      go_enter Try.func206, Try.ntmps206
      go_wp2_with (go_at_call 262; first | (refine h1.mono ?_; rintro e w' ⟨rfl, rfl⟩) | (refine h2.mono ?_; rintro e w' ⟨rfl, rfl⟩))
      all_goals first
        | (go_ret; exact ⟨rfl, rfl⟩)
        | (exfalso; simp_all)
    | false =>
      rw [y] at hg
      go_enter Try.func206, Try.ntmps206
      go_wp2_with (go_at_call 262; first | (refine h1.mono ?_; rintro e w' ⟨rfl, rfl⟩) | (refine h2.mono ?_; rintro e w' ⟨rfl, rfl⟩))
      all_goals first
        | (go_ret; exact ⟨rfl, rfl⟩)
        | (exfalso; simp_all)
theorem closure205 (p q : ByteArray) (d1 d2 : Bool) (h1 h2 t1 t2 : ByteArray) (W : World) : Calls Try.prog 205 #[.agg #[.string p, .bool d1, .string h1, .string t1], .agg #[.string q, .bool d2, .string h2, .string t2]] W fun e w' => e = .returned (.int .i64 (compareS p q)) ∧ ∃ q os', w' = grow (W.drewN q) os' := by
  have hcon := fun W' => cmp206 p q W'
  generalize compareS p q = r at hcon ⊢
  go_enter Try.func205, Try.ntmps205
  go_wp2_with (go_at_call 206; refine (hcon _).mono ?_; rintro e w' ⟨rfl, rfl⟩)
  go_ret
  exact ⟨rfl, 0, _, by rw [alloc_eq_grow, alloc_eq_grow, grow_grow]; rfl⟩
instance : Inhabited Nd := ⟨⟨⟨#[]⟩, false, ⟨#[]⟩, ⟨#[]⟩⟩⟩
def encN (x : Nd) : List Value := [.string x.path, .bool x.dir, .string x.head, .string x.tail]
def cfN (x y : Nd) : Int := compareS x.path y.path
theorem ltOf_cf (x y : Nd) : ltOf cfN x y = ltP x y := by
  unfold ltOf cfN compareS ltP
  cases h : Op.bytesLess x.path.toList y.path.toList with
  | true => rfl
  | false => cases Op.bytesLess y.path.toList x.path.toList <;> rfl
theorem swoN : SWO (ltOf cfN) where
  irrefl x := by rw [ltOf_cf]; exact ltP_irr x
  trans x y z h1 h2 := by rw [ltOf_cf] at *; exact ltP_trans h1 h2
  ntrans x y z h1 h2 := by
    rw [ltOf_cf] at *
    exact leP_iff.1 (leP_trans (leP_iff.2 h2) (leP_iff.2 h1))
theorem cmpLays205 (blk off size : Nat) (w : World) : CmpLays Try.prog 205 #[] encN 4 cfN blk off size w :=
  fun _ _ _ _ x y => closure205 x.path y.path x.dir y.dir x.head y.head x.tail y.tail _
def valsN (l : List Nd) : List Value := l.flatMap encN
theorem vals_len : ∀ l : List Nd, (valsN l).length = l.length * 4
  | [] => rfl
  | x :: l => by unfold valsN; rw [List.flatMap_cons, List.length_append]; have := vals_len l; unfold valsN at this; rw [this]; simp [encN]; omega
theorem vals_get : ∀ (l : List Nd) (t : Nat), t < l.length * 4 → (valsN l)[t]? = some (encN (l.getD (t / 4) default))[t % 4]!
  | [], t, h => by simp at h
  | x :: l, t, h => by
    unfold valsN
    rw [List.flatMap_cons]
    by_cases h4 : t < 4
    · rw [List.getElem?_append_left (by simpa [encN] using h4)]
      have : t = 0 ∨ t = 1 ∨ t = 2 ∨ t = 3 := by omega
      rcases this with rfl | rfl | rfl | rfl <;> rfl
    · rw [List.getElem?_append_right (by simp [encN]; omega)]
      have e1 : (encN x).length = 4 := rfl
      rw [e1]
      have h2 := vals_get l (t - 4) (by simp at h; omega)
      unfold valsN at h2
      rw [h2]
      have e2 : t / 4 = (t - 4) / 4 + 1 := by omega
      have e3 : t % 4 = (t - 4) % 4 := by omega
      rw [e2, e3]
      rfl
theorem flat_vals (d : Array Nd) : (flatK encN 4 d).toList = valsN d.toList := by
  apply List.ext_getElem?
  intro t
  by_cases h : t < d.size * 4
  · rw [vals_get d.toList t (by simpa using h)]
    have h2 : t < (flatK encN 4 d).size := by rw [size_flatK]; exact h
    rw [Array.getElem?_toList, Array.getElem?_eq_getElem h2]
    have h3 := get_flatK encN 4 d t h
    rw [getElem!_pos (flatK encN 4 d) t h2] at h3
    rw [h3]
    congr 2
    have h5 : t / 4 < d.size := by omega
    simp [List.getD, h5]
  · rw [List.getElem?_eq_none (by simpa using h), List.getElem?_eq_none (by rw [vals_len]; simpa using h)]
theorem rel_nds {w : World} {m : IdMap} {d X : Nat → Prop} : ∀ {l : List Nd} {us : List Value} {F : List Nat}, RelL w m d X (flat (l.map nd)) us F → us = valsN l ∧ F = []
  | [], us, F, h => by cases h; exact ⟨rfl, rfl⟩
  | x :: l, us, F, h => by
    have h : RelL w m d X (.str x.path :: .bool x.dir :: .str x.head :: .str x.tail :: flat (l.map nd)) us F := h
    obtain ⟨v1, vs1, F1, G1, rfl, rfl, h1, h⟩ : ∃ v vs F' G, us = v :: vs ∧ F = F' ++ G ∧ RelV w m d X (.str x.path) v F' ∧ RelL w m d X (.bool x.dir :: .str x.head :: .str x.tail :: flat (l.map nd)) vs G := by
      cases h with | cons aa bb => exact ⟨_, _, _, _, rfl, rfl, aa, bb⟩
    obtain ⟨v2, vs2, F2, G2, rfl, rfl, h2, h⟩ : ∃ v vs F' G, vs1 = v :: vs ∧ G1 = F' ++ G ∧ RelV w m d X (.bool x.dir) v F' ∧ RelL w m d X (.str x.head :: .str x.tail :: flat (l.map nd)) vs G := by
      cases h with | cons aa bb => exact ⟨_, _, _, _, rfl, rfl, aa, bb⟩
    obtain ⟨v3, vs3, F3, G3, rfl, rfl, h3, h⟩ : ∃ v vs F' G, vs2 = v :: vs ∧ G2 = F' ++ G ∧ RelV w m d X (.str x.head) v F' ∧ RelL w m d X (.str x.tail :: flat (l.map nd)) vs G := by
      cases h with | cons aa bb => exact ⟨_, _, _, _, rfl, rfl, aa, bb⟩
    obtain ⟨v4, vs4, F4, G4, rfl, rfl, h4, h⟩ : ∃ v vs F' G, vs3 = v :: vs ∧ G3 = F' ++ G ∧ RelV w m d X (.str x.tail) v F' ∧ RelL w m d X (flat (l.map nd)) vs G := by
      cases h with | cons aa bb => exact ⟨_, _, _, _, rfl, rfl, aa, bb⟩
    obtain ⟨e1, e2⟩ := rel_nds h
    subst e1; subst e2
    cases h1; cases h2; cases h3; cases h4
    exact ⟨rfl, rfl⟩
theorem nds_rel {w : World} {m : IdMap} {d X : Nat → Prop} : ∀ l : List Nd, RelL w m d X (flat (l.map nd)) (valsN l) []
  | [] => .nil
  | x :: l => .cons (F := []) (.str _) (.cons (F := []) (.bool _) (.cons (F := []) (.str _) (.cons (F := []) (.str _) (nds_rel l))))
theorem even_nds (l : List Nd) : Even 4 (l.map nd) := by
  intro x hx
  obtain ⟨z, _, rfl⟩ := List.mem_map.1 hx
  rfl
theorem putCells_id (off : Nat) (F c : Array Value) (h : off + F.size ≤ c.size) : ∀ (j : Nat) (v : Value), F.toList[j]? = some v → (putCells id off F c)[off + j]? = some v := by
  intro j v hv
  have hj : j < F.size := by
    have := (List.getElem?_eq_some_iff.1 hv).1
    simpa using this
  have e : v = F[j] := by
    rw [Array.getElem?_toList, Array.getElem?_eq_getElem hj] at hv
    simpa using hv.symm
  subst e
  unfold putCells
  rw [Array.getElem?_mapIdx, Array.getElem?_eq_getElem (by omega)]
  simp only [Option.map_some]
  rw [if_pos ⟨by omega, by omega⟩]
  congr 1
  have : off + j - off = j := by omega
  simp [this, hj]
theorem sort_uniq {l : List Nd} {d' : Array Nd} (hd : apart l) (hp : PermIn 0 l.toArray.size l.toArray d') (hs : SortedIn (ltOf cfN) 0 l.toArray.size d') : d'.toList = sortNd l := by
  obtain ⟨p1, _, p3⟩ := hp
  have q : d'.toList.Perm l := by
    have e1 : (d'.extract 0 l.toArray.size) = d' := by rw [← p1]; exact Array.extract_size
    have e2 : (l.toArray.extract 0 l.toArray.size) = l.toArray := Array.extract_size
    rw [e1, e2] at p3
    simpa using p3
  have hsrt : d'.toList.Pairwise fun x y => leP x y = true := by
    rw [List.pairwise_iff_getElem]
    intro i j hi hj hij
    have hi' : i < d'.size := by simpa using hi
    have hj' : j < d'.size := by simpa using hj
    have := hs i j (Nat.zero_le _) hij (by rw [← p1]; exact hj')
    rw [ltOf_cf, getElem!_pos d' j hj', getElem!_pos d' i hi'] at this
    exact leP_iff.2 (by simpa using this)
  have hda : d'.toList.Pairwise fun x y => x.path ≠ y.path := q.symm.pairwise hd (fun h => h.symm)
  exact sorted_one (q.trans (sortNd_perm l).symm) hsrt (sortNd_sorted l) hda
theorem agg24 : ∀ w, (isAgg (Try.laysSf_ren.t 24)).run Try.prog w = .ok true w := fun w => by kernel_rfl
theorem size24 : ∀ w, (Go.sizeOf (Try.laysSf_ren.t 24)).run Try.prog w = .ok 4 w := fun w => by kernel_rfl
theorem sort204 (blk off cap : Nat) (l : List Nd) (w : World) (hd : apart l) (hH : HoldsK encN 4 w blk off l.toArray) (hblk : blk < w.heap.size) (hsz : l.length < 4611686018427387904) :
    Calls Try.prog 204 #[.slice (some ⟨blk, off, none⟩) l.length cap, .func (.func 205) #[] #[]] w fun e w' => e = .returned (.tuple #[]) ∧ ∃ n os, w' = grow (putRow id (Sort.ahead w n) blk off (flatK encN 4 (sortNd l).toArray)) os := by
  have eg : ∀ args w, (callFunc 205 args).run Try.prog w = .ok (.enter 205 args) w := enters_of Try.func205 (by kernel_rfl) rfl
  have hcon := AnyQ.slices_SortFunc Try.laysSf 4 agg24 size24 encN (fun _ => rfl) (fun x v hv => by simp [encN] at hv; rcases hv with rfl | rfl | rfl | rfl <;> rfl) cfN swoN 205 #[] blk off cap l.toArray w eg (cmpLays205 blk off _ w) hH hblk (by simpa using hsz)
  change Calls Try.prog 204 _ _ _ at hcon
  rw [List.size_toArray] at hcon
  refine hcon.mono ?_
  rintro e w' ⟨he, d', n, os, hp, hs, hw⟩
  refine ⟨he, n, os, ?_⟩
  have hu := sort_uniq hd (by rw [List.size_toArray]; exact hp) (by rw [List.size_toArray]; exact hs)
  rw [← hu]
  exact hw
end Go.Proofs.Ytaaajjinpppgeaa
namespace Go.Proofs.Ytaaajjinpppgeaa
open Go Go.Abs Go.Proofs Go.Shelf Go.RowKit Go.Lib Go.Sort
set_option maxRecDepth 100000
theorem none204 (p : Option Addr) (cap : Nat) (fv : Value) (w : World) : Calls Try.prog 204 #[.slice p 0 cap, fv] w fun e w' => e = .returned (.tuple #[]) ∧ w' = w :=
  AnyF.slices_SortFunc_none Try.laysSf p cap fv w
theorem rel_nilS {w : World} {m : IdMap} {d X : Nat → Prop} {xs : List AV} {vs : List Value} (h : RelL w m d X xs vs []) {k : Nat} {a : AV} (hk : xs[k]? = some a) : ∃ v, vs[k]? = some v ∧ RelV w m d X a v [] := by
  obtain ⟨u, G, h1, h2, h3⟩ := h.get hk
  have : G = [] := List.eq_nil_iff_forall_not_mem.2 fun x hx => by cases h3 x hx
  subst this
  exact ⟨u, h1, h2⟩
theorem sortTOk : OrcOk Try.prog 204 sortT where
  fn := ⟨Try.f204, _, Try.func204, rfl, rfl⟩
  pure := by
    intro args res h
    unfold sortT at h
    split at h
    · rename_i e; cases e
    · cases h
  qt := by
    intro args mem res h
    unfold sortT at h
    split at h
    · rename_i e; cases e
    · cases h
  wr := by
    intro args mem res mem' h _ _
    unfold sortT at h
    split at h
    case h_2 => cases h
    rename_i n xs
    split at h
    case h_2 => cases h
    rename_i l hz
    split at h
    case isFalse => cases h
    rename_i hlen
    cases h
    have hx := ndsOf_eq hz
    subst hx
    obtain ⟨rfl, hlen, hap⟩ := hlen
    intro Y w0 F0 d m Fs w vs hfr hr ha
    obtain ⟨v, fv, rfl⟩ : ∃ v fv, vs = [v, fv] := by
      have := ha.length
      match vs, this with
      | [v, fv], _ => exact ⟨v, fv, rfl⟩
    obtain ⟨v', hv0, hv⟩ := rel_nilS ha (k := 0) rfl
    obtain ⟨f', hf0, hf⟩ := rel_nilS ha (k := 1) rfl
    obtain rfl : v' = v := by simpa using hv0.symm
    obtain rfl : f' = fv := by simpa using hf0.symm
    obtain rfl : f' = .func (.func 205) #[] #[] := by
      cases hf with
      | fn h => cases h; rfl
    obtain ⟨n0, hg⟩ : ∃ n0, n0 = l.length := ⟨_, rfl⟩
    rw [← hg] at hv
    refine .of_calls Try.func204 rfl rfl ?_
    have hl0 : liveOf [some (4, l.map nd)] 0 = some (4, l.map nd) := rfl
    cases hv with
    | sl hm hcap hc =>
      rename_i b o s cap
      subst hg
      obtain ⟨e1, he, us, hex, hrl⟩ := hr.cells 0 4 _ b o s hl0 hm
      subst e1
      obtain ⟨e2, e3⟩ := rel_nds hrl
      subst e2
      have hbl := hex.lt
      obtain ⟨cc, ty, hh, hcc, hsz⟩ := hex
      have hold : HoldsK encN 4 w b (o + 0 * 4) l.toArray := by
        intro j hj
        have hj4 : j < l.length * 4 := by simpa using hj
        have hF : (flatK encN 4 l.toArray).toList = valsN l := by rw [flat_vals]
        have hjf : j < (flatK encN 4 l.toArray).size := hj
        have hv2 : (valsN l)[j]? = some ((flatK encN 4 l.toArray)[j]!) := by
          rw [← hF, Array.getElem?_toList, Array.getElem?_eq_getElem hjf, getElem!_pos (flatK encN 4 l.toArray) j hjf]
        have h2 := hcc j _ hv2
        refine ⟨?_, by simp [World.frozen?, hh]⟩
        simp only [World.cell?, hh, Option.isSome_none, Bool.false_eq_true, if_false]
        rw [show o + 0 * 4 + j = o + j by omega, h2]
        rfl
      refine Calls.mono (sort204 b (o + 0 * 4) cap l w hap hold hbl hlen) ?_
      rintro e w' ⟨rfl, n, os, rfl⟩
      have o0 : o + 0 * 4 = o := by omega
      rw [o0]
      have hts : (sortNd l).length = l.length := sortNd_len l
      generalize hG : flatK encN 4 (sortNd l).toArray = G
      have hGl : G.toList = valsN (sortNd l) := by rw [← hG, flat_vals]
      have hGs : G.size = l.length * 4 := by rw [← hG, size_flatK, List.size_toArray, hts]
      rw [vals_len] at hsz
      have hW1 : (putRow id (Sort.ahead w n) b o G).heap = w.heap.modify b (onCells (putCells id o G)) := rfl
      have hR : Rewrite b w (putRow id (Sort.ahead w n) b o G) :=
        { os := rfl, tape := rfl, output := rfl
          size := by rw [hW1]; simp
          block := fun b' hb' => by rw [hW1, Array.getElem?_modify, if_neg (fun e => hb' e.symm)]
          cells := fun c1 ty1 fr hc1 => by
            rw [hh] at hc1; cases hc1
            exact ⟨_, by rw [hW1, Array.getElem?_modify, if_pos rfl, hh]; rfl, by simp [putCells]⟩ }
      have hx2 : Excl (putRow id (Sort.ahead w n) b o G) b o (valsN (sortNd l)) (o + (valsN (sortNd l)).length) :=
        ⟨putCells id o G cc, ty, by rw [hW1, Array.getElem?_modify, if_pos rfl, hh]; rfl, by rw [← hGl]; exact putCells_id o G cc (by rw [hGs]; omega), by rw [vals_len, hts]; simp [putCells]; omega⟩
      obtain ⟨r1, c1⟩ := hr.rewrite hl0 hm hR (xs' := (sortNd l).map nd) (vs' := valsN (sortNd l)) (F' := []) (even_nds _) (fun x hx => by cases hx) List.nodup_nil hx2
        (fun _ => nds_rel _)
      have hE : Evo (fun _ => False) (putRow id (Sort.ahead w n) b o G) (grow (putRow id (Sort.ahead w n) b o G) os) :=
        ⟨rfl, rfl, rfl, by simp [grow], fun k hk _ => by simp only [grow]; rw [Array.getElem?_append_left hk], fun k c2 ty2 fr hc2 => ⟨c2, by
          have hk := heap_lt hc2
          simp only [grow]; rw [Array.getElem?_append_left hk]; exact hc2, rfl⟩⟩
      obtain ⟨r2, c2⟩ := r1.aside hE
      refine ⟨d, m, _, r2.relive (fun t ht => ?_) (fun t ht => ?_), fun t ht => hfr t (by simpa using ht), c1.trans c2, .tup .nil⟩
      · by_cases h0 : t = 0
        · subst h0; simp [upd, liveOf]
        · have : liveOf [some (4, l.map nd)] t ≠ none := hr.dom t ht
          exfalso; apply this
          cases t with
          | zero => exact absurd rfl h0
          | succ t => simp [liveOf]
      · have := r2.ddom t ht
        by_cases h0 : t = 0
        · subst h0; simp [upd] at this
        · cases t with
          | zero => exact absurd rfl h0
          | succ t => simp [liveOf]
    | sl0 A =>
      have : l = [] := List.eq_nil_of_length_eq_zero hg.symm
      subst this
      refine Calls.mono (none204 A 0 _ w) ?_
      rintro e w' ⟨rfl, rfl⟩
      have e : sortNd [] = [] := List.eq_nil_of_length_eq_zero (sortNd_len [])
      rw [e]
      exact ⟨d, m, Fs, hr, fun t ht => hfr t ht, .refl, .tup .nil⟩
    | slDead v hd => have := hr.ddom 0 hd; rw [hl0] at this; cases this
end Go.Proofs.Ytaaajjinpppgeaa
namespace Go.Proofs.Ytaaajjinpppgeaa
open Go Go.Abs
def pures : List FuncId := (List.range 600).filter fun k => !([51, 52, 57, 63, 90, 100, 104, 112, 145, 146, 151, 160, 161, 162, 186, 187, 189, 190, 191, 196, 204, 242, 245, 246, 251, 261, 266, 267, 268, 269, 270, 271, 273, 274, 284, 285, 286, 287, 288, 289, 290, 291, 296, 298, 299, 305, 306, 308, 309] : List Nat).contains k
def hints : Hints := [(8, [(6, [.opn 6 none none 1 2]), (8, [.opn 8 none none 1 2]), (25, [.opn 12 none none 1 2])]),
  (33, [(5, [.tidy [0, 1, 5] [(0, none), (1, none), (5, none)]])]),
  (34, [(4, [.tidy [0, 1, 5] [(0, none), (1, none), (5, none)]])]),
  (35, [(3, [.tidy [0, 3, 4] [(0, none), (3, none), (4, none)]])]),
  (37, [(4, [.tidy [0, 1, 5] [(0, none), (1, none), (5, none)]])]),
  (39, [(4, [.lay 4 1, .tidy [1, 3, 4, 5] [(1, none), (3, none), (4, none), (5, none)]]), (7, [.tidy [1, 3, 4, 5, 6] [(1, none), (3, none), (4, none), (5, none), (6, none)]])]),
  (41, [(4, [.lay 4 1, .tidy [3, 4, 11, 12, 13] [(3, none), (4, none), (11, none), (12, none), (13, none)]]), (8, [.tidy [3, 4, 6, 11, 12, 13, 18, 19, 20] [(3, none), (4, none), (6, none), (11, none), (12, none), (13, none), (18, none), (19, none), (20, none)]])]),
  (44, [(2, [.tidy [1, 3] [(1, none), (3, none)]])]),
  (48, [(5, [.opn 5 none none 2 1, .tidy [1, 2, 4, 5, 6] [(1, none), (2, none), (4, none), (5, none), (6, none), (5, some 2)]])]),
  (49, [(5, [.opn 5 none none 2 1, .tidy [1, 4, 5, 25, 26, 27] [(1, none), (4, none), (5, none), (25, none), (26, none), (27, none), (5, some 2)]])]),
  (54, [(5, [.opn 5 none none 1 2, .tidy [1, 2, 4, 5, 6] [(1, none), (2, none), (4, none), (5, none), (6, none), (5, some 1)]])]),
  (55, [(3, [.opn 5 none none 1 2, .tidy [1, 4, 5, 14, 15, 16] [(1, none), (4, none), (5, none), (14, none), (15, none), (16, none), (5, some 1)]])]),
  (59, [(4, [.tidy [1, 3] [(1, none), (3, none)]])]),
  (60, [(4, [.tidy [1, 28, 29, 30] [(1, none), (28, none), (29, none), (30, none)]])]),
  (65, [(8, [.lay 4 1, .tidy [2, 3, 4, 5] [(2, none), (3, none), (4, none), (5, none), (3, some 2)]]), (10, [.opn 3 (some 2) (some (5, 0)) 2 1]), (12, [.tidy [2, 3, 4, 5, 6, 7] [(2, none), (3, none), (4, none), (5, none), (6, none), (7, none), (3, some 2), (6, some 2)]]), (14, [.opn 3 none none 0 1, .opn 3 none none 1 1, .opn 3 none none 3 3]), (21, [.opn 3 none none 0 1, .opn 3 none none 1 1, .opn 3 none none 2 3, .opn 3 none none 3 3])]),
  (66, [(8, [.lay 4 1, .tidy [1, 2, 3, 4, 27, 28, 29] [(1, none), (2, none), (3, none), (4, none), (27, none), (28, none), (29, none)]]), (10, [.opn 27 none (some (29, 0)) 2 1]), (13, [.tidy [1, 2, 3, 4, 6, 27, 28, 29, 37, 38, 39] [(1, none), (2, none), (3, none), (4, none), (6, none), (27, none), (28, none), (29, none), (37, none), (38, none), (39, none)]]), (22, [.opn 3 none none 0 1, .opn 3 none none 1 1, .opn 3 none none 2 3, .opn 3 none none 3 3])]),
  (73, [(7, [.tidy [2, 3, 4, 5, 6] [(2, none), (3, none), (4, none), (5, none), (6, none)]]), (12, [.tidy [2, 3, 4, 5, 6, 7, 8, 9] [(2, none), (3, none), (4, none), (5, none), (6, none), (7, none), (8, none), (9, none)]]), (18, [.tidy [2, 3, 4, 5, 6, 7, 8, 9, 10, 12] [(2, none), (3, none), (4, none), (5, none), (6, none), (7, none), (8, none), (9, none), (10, none), (12, none)]])]),
  (74, [(7, [.tidy [2, 3, 4, 5, 6] [(2, none), (3, none), (4, none), (5, none), (6, none)]]), (12, [.tidy [2, 3, 4, 5, 6, 7, 8, 31, 32, 33] [(2, none), (3, none), (4, none), (5, none), (6, none), (7, none), (8, none), (31, none), (32, none), (33, none)]]), (16, [.tidy [2, 3, 4, 5, 6, 7, 8, 10, 31, 32, 33, 43, 44, 45] [(2, none), (3, none), (4, none), (5, none), (6, none), (7, none), (8, none), (10, none), (31, none), (32, none), (33, none), (43, none), (44, none), (45, none)]])]),
  (75, [(4, [.tidy [1, 3, 4, 5] [(1, none), (3, none), (4, none), (5, none)]]), (8, [.tidy [1, 3, 4, 5, 6, 7] [(1, none), (3, none), (4, none), (5, none), (6, none), (7, none)]])]),
  (76, [(3, [.tidy [1, 3, 9, 10, 11] [(1, none), (3, none), (9, none), (10, none), (11, none)]])]),
  (77, [(4, [.tidy [1, 2, 5, 6, 7] [(1, none), (2, none), (5, none), (6, none), (7, none)]]), (8, [.tidy [1, 2, 5, 6, 7, 8, 9] [(1, none), (2, none), (5, none), (6, none), (7, none), (8, none), (9, none)]])]),
  (78, [(3, [.tidy [1, 5, 11, 12, 13] [(1, none), (5, none), (11, none), (12, none), (13, none)]])]),
  (79, [(4, [.tidy [1, 3, 4, 5] [(1, none), (3, none), (4, none), (5, none)]]), (8, [.tidy [1, 3, 4, 5, 6, 7] [(1, none), (3, none), (4, none), (5, none), (6, none), (7, none)]])]),
  (80, [(3, [.tidy [1, 3, 9, 10, 11] [(1, none), (3, none), (9, none), (10, none), (11, none)]]), (7, [.tidy [1, 3, 5, 9, 10, 11, 18, 19, 20] [(1, none), (3, none), (5, none), (9, none), (10, none), (11, none), (18, none), (19, none), (20, none)]])]),
  (81, [(4, [.tidy [1, 3, 4, 5] [(1, none), (3, none), (4, none), (5, none)]])]),
  (82, [(3, [.tidy [1, 3, 7, 8, 9] [(1, none), (3, none), (7, none), (8, none), (9, none)]])]),
  (83, [(4, [.tidy [1, 3, 4, 5] [(1, none), (3, none), (4, none), (5, none)]]), (11, [.tidy [1, 3, 4, 5, 7, 8] [(1, none), (3, none), (4, none), (5, none), (7, none), (8, none)]])]),
  (84, [(4, [.tidy [1, 3, 4, 13, 14, 15] [(1, none), (3, none), (4, none), (13, none), (14, none), (15, none)]]), (11, [.tidy [1, 3, 27, 28, 29] [(1, none), (3, none), (27, none), (28, none), (29, none)]])]),
  (86, [(3, [.opn 6 none none 0 1, .opn 6 none none 1 1, .opn 6 none none 2 3, .opn 6 none none 3 3, .opn 6 none none 4 1, .opn 6 none none 5 11]), (6, [.opn 6 none none 5 11, .opn 3 none none 10 1]), (8, [.opn 6 none none 0 1, .opn 6 none none 1 1, .opn 6 none none 2 3, .opn 6 none none 3 3, .opn 6 none none 4 1, .opn 6 none none 5 11])]),
  (88, [(2, [.opn 6 none none 0 1, .opn 6 none none 1 1, .opn 6 none none 2 3, .opn 6 none none 3 3, .opn 6 none none 4 1, .opn 6 none none 5 11]), (3, [.opn 6 none none 0 1, .opn 6 none none 1 1, .opn 6 none none 2 3, .opn 6 none none 3 3, .opn 6 none none 4 1, .opn 6 none none 5 11])]),
  (91, [(4, [.lay 6 11, .tidy [1, 4, 5, 6, 7] [(1, none), (4, none), (5, none), (6, none), (7, none), (5, some 5)]]), (7, [.opn 5 (some 5) (some (7, 0)) 10 1]), (8, [.fgt 5 (some 5) (some (7, 0)) 10]), (10, [.opn 5 none none 0 1, .opn 5 none none 1 1, .opn 5 none none 2 3, .opn 5 none none 3 3, .opn 5 none none 4 1, .opn 5 none none 5 11])]),
  (93, [(4, [.opn 4 none none 0 1, .opn 4 none none 1 1, .opn 4 none none 2 3, .opn 4 none none 3 3, .opn 4 none none 4 1, .opn 4 none none 5 11]), (5, [.opn 4 none none 0 1]), (6, [.opn 4 none none 4 1]), (7, [.opn 4 none none 0 1, .opn 4 none none 1 1, .opn 4 none none 2 3, .opn 4 none none 3 3, .opn 4 none none 4 1, .opn 4 none none 5 11])]),
  (94, [(2, [.opn 4 none none 0 1, .opn 4 none none 4 1]), (3, [.opn 4 none none 0 1, .opn 4 none none 1 1, .opn 4 none none 2 3, .opn 4 none none 3 3, .opn 4 none none 4 1, .opn 4 none none 5 11])]),
  (95, [(4, [.opn 4 none none 0 1, .opn 4 none none 1 1, .opn 4 none none 2 3, .opn 4 none none 3 3, .opn 4 none none 4 1, .opn 4 none none 5 11]), (5, [.opn 4 none none 1 1]), (6, [.opn 4 none none 4 1]), (7, [.opn 4 none none 0 1, .opn 4 none none 1 1, .opn 4 none none 2 3, .opn 4 none none 3 3, .opn 4 none none 4 1, .opn 4 none none 5 11])]),
  (96, [(2, [.opn 4 none none 1 1, .opn 4 none none 4 1]), (3, [.opn 4 none none 0 1, .opn 4 none none 1 1, .opn 4 none none 2 3, .opn 4 none none 3 3, .opn 4 none none 4 1, .opn 4 none none 5 11])]),
  (97, [(6, [.tidy [1, 3, 4] [(1, none), (3, none), (4, none)]]), (9, [.tidy [1, 3, 4, 5] [(1, none), (3, none), (4, none), (5, none)]]), (13, [.tidy [1, 3, 4, 5, 6, 7] [(1, none), (3, none), (4, none), (5, none), (6, none), (7, none)]]), (23, [.lay 9 1, .tidy [3, 9, 10] [(3, none), (9, none), (10, none)]])]),
  (98, [(5, [.lay 3 1, .tidy [1, 3, 4] [(1, none), (3, none), (4, none)]]), (8, [.tidy [1, 3, 4, 27, 28, 29] [(1, none), (3, none), (4, none), (27, none), (28, none), (29, none)]])]),
  (99, [(4, [.tidy [0, 1, 5] [(0, none), (1, none), (5, none)]])]),
  (100, [(2, [.tidy [0, 1, 5] [(0, none), (1, none), (5, none)]])]),
  (101, [(2, [.tidy [0, 1, 5] [(0, none), (1, none), (5, none)]])]),
  (106, [(5, [.opn 6 none none 2 3, .tidy [1, 2, 6, 7] [(1, none), (2, none), (6, none), (7, none), (6, some 2)]]), (10, [.opn 6 none none 3 3, .tidy [1, 2, 6, 8] [(1, none), (2, none), (6, none), (8, none), (6, some 3)]]), (14, [.opn 6 none none 0 1, .opn 6 none none 1 1, .opn 6 none none 2 3, .opn 6 none none 3 3])]),
  (107, [(5, [.opn 6 none none 2 3, .tidy [1, 2, 6, 22] [(1, none), (2, none), (6, none), (22, none), (6, some 2)]]), (11, [.opn 6 none none 3 3, .tidy [1, 2, 6, 35] [(1, none), (2, none), (6, none), (35, none), (6, some 3)]]), (16, [.opn 6 none none 0 1, .opn 6 none none 1 1, .opn 6 none none 2 3, .opn 6 none none 3 3])]),
  (112, [(2, [.tidy [0, 1, 5] [(0, none), (1, none), (5, none)]])]),
  (113, [(2, [.tidy [0, 1, 5] [(0, none), (1, none), (5, none)]])]),
  (114, [(5, [.tidy [1, 3, 4] [(1, none), (3, none), (4, none)]]), (17, [.tidy [1, 8, 9] [(1, none), (8, none), (9, none)]])]),
  (115, [(5, [.tidy [1, 3, 4] [(1, none), (3, none), (4, none)]]), (19, [.opn 7 none none 0 1, .opn 7 none none 1 1])]),
  (121, [(4, [.tidy [0, 1, 12, 13] [(0, none), (1, none), (12, none), (13, none)]])]),
  (124, [(5, [.tidy [0, 1, 5] [(0, none), (1, none), (5, none)]])]),
  (125, [(5, [.tidy [0, 1, 5] [(0, none), (1, none), (5, none)]])]),
  (126, [(2, [.tidy [0, 1, 5] [(0, none), (1, none), (5, none)]])]),
  (128, [(3, [.tidy [0, 3, 4] [(0, none), (3, none), (4, none)]])]),
  (129, [(3, [.tidy [0, 3, 4] [(0, none), (3, none), (4, none)]])]),
  (132, [(4, [.tidy [0, 1, 5] [(0, none), (1, none), (5, none)]])]),
  (133, [(4, [.tidy [0, 1, 5] [(0, none), (1, none), (5, none)]])]),
  (135, [(5, [.tidy [0, 1, 5] [(0, none), (1, none), (5, none)]])]),
  (136, [(3, [.tidy [0, 3, 4] [(0, none), (3, none), (4, none)]])]),
  (137, [(3, [.tidy [0, 3, 4] [(0, none), (3, none), (4, none)]])]),
  (139, [(4, [.tidy [0, 1, 5] [(0, none), (1, none), (5, none)]])]),
  (140, [(4, [.tidy [0, 1, 5] [(0, none), (1, none), (5, none)]])]),
  (145, [(2, [.tidy [0, 1, 5] [(0, none), (1, none), (5, none)]])]),
  (146, [(2, [.tidy [0, 1, 5] [(0, none), (1, none), (5, none)]]), (24, [.opn 0 none (some (5, 0)) 10 1])]),
  (150, [(4, [.tidy [0, 1, 5] [(0, none), (1, none), (5, none)]])]),
  (151, [(2, [.tidy [0, 1, 5] [(0, none), (1, none), (5, none)]])]),
  (152, [(2, [.tidy [0, 1, 5] [(0, none), (1, none), (5, none)]])]),
  (153, [(4, [.tidy [1, 3] [(1, none), (3, none)]]), (10, [.tidy [1, 4] [(1, none), (4, none)]])]),
  (154, [(5, [.tidy [1, 2, 5, 6] [(1, none), (2, none), (5, none), (6, none)]]), (11, [.tidy [1, 2, 5, 7] [(1, none), (2, none), (5, none), (7, none)]])]),
  (155, [(2, [.tidy [1, 8, 9, 10] [(1, none), (8, none), (9, none), (10, none)]]), (9, [.tidy [1, 19, 20, 21] [(1, none), (19, none), (20, none), (21, none)]])]),
  (156, [(2, [.tidy [2, 3, 10, 11, 12] [(2, none), (3, none), (10, none), (11, none), (12, none)]])]),
  (158, [(3, [.opn 3 none none 2 3, .tidy [1, 2, 3, 4] [(1, none), (2, none), (3, none), (4, none), (3, some 2)]]), (8, [.opn 3 none none 3 3, .tidy [1, 2, 3, 5] [(1, none), (2, none), (3, none), (5, none), (3, some 3)]]), (12, [.opn 3 none none 0 1, .opn 3 none none 1 1, .opn 3 none none 2 3, .opn 3 none none 3 3])]),
  (159, [(3, [.opn 3 none none 2 3, .tidy [1, 2, 3, 13, 14, 15] [(1, none), (2, none), (3, none), (13, none), (14, none), (15, none), (3, some 2)]]), (9, [.opn 3 none none 3 3, .tidy [2, 3, 28, 29, 30] [(2, none), (3, none), (28, none), (29, none), (30, none), (3, some 3)]]), (14, [.opn 3 none none 0 1, .opn 3 none none 1 1, .opn 3 none none 2 3, .opn 3 none none 3 3])]),
  (161, [(2, [.tidy [0, 1, 5] [(0, none), (1, none), (5, none)]]), (8, [.opn 0 none (some (5, 0)) 2 1])]),
  (162, [(2, [.tidy [0, 1, 5] [(0, none), (1, none), (5, none)]]), (6, [.opn 0 none (some (5, 0)) 1 2])]),
  (163, [(2, [.tidy [0, 1, 5] [(0, none), (1, none), (5, none)]])]),
  (164, [(2, [.tidy [0, 1, 5] [(0, none), (1, none), (5, none)]])]),
  (167, [(2, [.tidy [0, 1, 5] [(0, none), (1, none), (5, none)]])]),
  (168, [(2, [.tidy [0, 1, 5] [(0, none), (1, none), (5, none)]])]),
  (170, [(2, [.tidy [1, 3] [(1, none), (3, none)]])]),
  (172, [(2, [.tidy [1, 6, 7, 8] [(1, none), (6, none), (7, none), (8, none)]])]),
  (174, [(4, [.tidy [2, 5, 9] [(2, none), (5, none), (9, none)]])]),
  (175, [(4, [.tidy [2, 7, 8, 16, 17, 18] [(2, none), (7, none), (8, none), (16, none), (17, none), (18, none)]])]),
  (178, [(5, [.lay 5 2, .tidy [1, 2, 5, 6] [(1, none), (2, none), (5, none), (6, none)]]), (9, [.lay 5 2, .tidy [1, 2, 5, 6, 7, 9] [(1, none), (2, none), (5, none), (6, none), (7, none), (9, none)]])]),
  (179, [(3, [.lay 5 2, .tidy [2, 5, 14, 15, 16] [(2, none), (5, none), (14, none), (15, none), (16, none)]]), (8, [.lay 5 2, .tidy [2, 5, 8, 14, 15, 16, 24, 25, 26] [(2, none), (5, none), (8, none), (14, none), (15, none), (16, none), (24, none), (25, none), (26, none)]]), (13, [.lay 5 2, .tidy [2, 5, 8, 14, 15, 16, 24, 25, 26, 43, 44, 45] [(2, none), (5, none), (8, none), (14, none), (15, none), (16, none), (24, none), (25, none), (26, none), (43, none), (44, none), (45, none)]])]),
  (180, [(3, [.lay 5 1, .tidy [2, 5, 11, 12, 13] [(2, none), (5, none), (11, none), (12, none), (13, none)]]), (7, [.tidy [2, 5, 11, 12, 13, 20, 21, 22] [(2, none), (5, none), (11, none), (12, none), (13, none), (20, none), (21, none), (22, none)]])]),
  (183, [(3, [.opn 3 none none 4 1, .opn 3 none none 5 11, .tidy [1, 2, 3, 4] [(1, none), (2, none), (3, none), (4, none), (3, some 5)]]), (7, [.opn 5 none none 10 1]), (9, [.opn 3 none none 0 1, .opn 3 none none 1 1, .opn 3 none none 2 3, .opn 3 none none 3 3, .opn 3 none none 4 1, .opn 3 none none 5 11])]),
  (184, [(3, [.tidy [0, 3, 4] [(0, none), (3, none), (4, none)]])]),
  (188, [(2, [.tidy [0, 3] [(0, none), (3, none)]])]),
  (192, [(5, [.opn 4 none none 0 1, .tidy [1, 2, 4, 5] [(1, none), (2, none), (4, none), (5, none), (4, some 0)]]), (9, [.opn 4 none none 0 1])]),
  (193, [(3, [.opn 1 none none 2 3, .tidy [0, 1, 2] [(0, none), (1, none), (2, none), (1, some 2)]]), (9, [.opn 1 none none 0 1, .opn 1 none none 1 1, .opn 1 none none 2 3, .opn 1 none none 3 3])]),
  (194, [(3, [.opn 1 none none 2 3, .tidy [0, 1, 7] [(0, none), (1, none), (7, none), (1, some 2)]]), (11, [.opn 1 none none 0 1, .opn 1 none none 1 1, .opn 1 none none 2 3, .opn 1 none none 3 3])]),
  (195, [(5, [.opn 4 none none 0 1, .tidy [1, 2, 4, 13] [(1, none), (2, none), (4, none), (13, none), (4, some 0)]]), (11, [.opn 4 none none 0 1])]),
  (201, [(3, [.lay 3 4, .tidy [3, 4] [(3, none), (4, none)]]), (6, [.lay 3 4, .tidy [3, 4, 5] [(3, none), (4, none), (5, none)]])]),
  (202, [(7, [.lay 9 4, .lay 10 1, .lay 11 1, .tidy [1, 2, 3, 4, 9, 10, 11, 12] [(1, none), (2, none), (3, none), (4, none), (9, none), (10, none), (11, none), (12, none)]]), (11, [.lay 9 4, .lay 10 1, .lay 11 1, .tidy [1, 2, 3, 4, 9, 10, 11, 12, 13, 14] [(1, none), (2, none), (3, none), (4, none), (9, none), (10, none), (11, none), (12, none), (13, none), (14, none)]])]),
  (203, [(7, [.lay 9 4, .lay 10 1, .tidy [2, 3, 4, 9, 10, 31, 32, 33] [(2, none), (3, none), (4, none), (9, none), (10, none), (31, none), (32, none), (33, none)]]), (11, [.lay 9 4, .lay 10 1, .tidy [2, 3, 4, 9, 10, 31, 32, 33, 40, 41, 42] [(2, none), (3, none), (4, none), (9, none), (10, none), (31, none), (32, none), (33, none), (40, none), (41, none), (42, none)]])]),
  (207, [(4, [.tidy [0, 3] [(0, none), (3, none)]])]),
  (208, [(4, [.lay 3 1, .tidy [1, 3, 4, 5] [(1, none), (3, none), (4, none), (5, none)]]), (8, [.tidy [1, 3, 4, 5, 6, 7] [(1, none), (3, none), (4, none), (5, none), (6, none), (7, none)]])]),
  (209, [(4, [.tidy [1, 2, 3, 4, 14, 15, 16] [(1, none), (2, none), (3, none), (4, none), (14, none), (15, none), (16, none), (4, some 0), (4, some 1)]]), (10, [.tidy [2, 4, 28, 29, 30] [(2, none), (4, none), (28, none), (29, none), (30, none), (4, some 0), (4, some 1)]])]),
  (210, [(4, [.tidy [0, 1, 12, 13] [(0, none), (1, none), (12, none), (13, none)]])]),
  (215, [(2, [.tidy [0, 1, 7, 8] [(0, none), (1, none), (7, none), (8, none)]])]),
  (216, [(2, [.tidy [0, 1, 7, 8] [(0, none), (1, none), (7, none), (8, none)]])]),
  (220, [(4, [.tidy [1, 3] [(1, none), (3, none)]])]),
  (221, [(6, [.tidy [1, 3] [(1, none), (3, none)]]), (13, [.tidy [1, 3, 4, 5] [(1, none), (3, none), (4, none), (5, none)]])]),
  (222, [(2, [.tidy [0, 3] [(0, none), (3, none)]])]),
  (223, [(2, [.tidy [1, 6, 7, 8] [(1, none), (6, none), (7, none), (8, none)]])]),
  (224, [(4, [.tidy [1, 19, 20, 21] [(1, none), (19, none), (20, none), (21, none)]])]),
  (230, [(2, [.tidy [0, 5, 6] [(0, none), (5, none), (6, none)]])]),
  (231, [(2, [.tidy [0, 1, 7, 8] [(0, none), (1, none), (7, none), (8, none)]])]),
  (234, [(5, [.tidy [0, 1, 5] [(0, none), (1, none), (5, none)]])]),
  (235, [(3, [.tidy [0, 3, 4] [(0, none), (3, none), (4, none)]])]),
  (236, [(4, [.tidy [0, 1, 5] [(0, none), (1, none), (5, none)]])]),
  (237, [(2, [.tidy [0, 1, 7, 8] [(0, none), (1, none), (7, none), (8, none)]])]),
  (239, [(3, [.lay 3 11, .tidy [3, 7, 8, 9] [(3, none), (7, none), (8, none), (9, none)]])]),
  (242, [(5, [.tidy [0, 1, 5, 6] [(0, none), (1, none), (5, none), (6, none)]]), (7, [.opn 0 none (some (6, 0)) 10 1]), (11, [.fgt 0 none (some (6, 0)) 10])]),
  (244, [(2, [.tidy [5, 6, 7] [(5, none), (6, none), (7, none)]])]),
  (246, [(2, [.tidy [0, 1, 2, 3, 8, 9] [(0, none), (1, none), (2, none), (3, none), (8, none), (9, none)]])]),
  (251, [(2, [.tidy [0, 1, 5] [(0, none), (1, none), (5, none)]])]),
  (252, [(2, [.tidy [0, 1, 5] [(0, none), (1, none), (5, none)]])]),
  (254, [(7, [.tidy [4, 19, 20, 21] [(4, none), (19, none), (20, none), (21, none)]])]),
  (256, [(6, [.lay 5 1, .tidy [2, 5, 6, 7] [(2, none), (5, none), (6, none), (7, none)]]), (10, [.lay 5 1, .tidy [2, 5, 6, 7, 8, 10] [(2, none), (5, none), (6, none), (7, none), (8, none), (10, none)]])]),
  (257, [(5, [.tidy [2, 3, 9, 10] [(2, none), (3, none), (9, none), (10, none)]])]),
  (260, [(6, [.lay 7 1, .tidy [2, 7, 18, 19, 20] [(2, none), (7, none), (18, none), (19, none), (20, none)]])]),
  (261, [(2, [.tidy [0, 1, 2, 3, 4, 10, 11] [(0, none), (1, none), (2, none), (3, none), (4, none), (10, none), (11, none)]])]),
  (263, [(5, [.tidy [0, 1, 5] [(0, none), (1, none), (5, none)]])]),
  (264, [(3, [.tidy [0, 3, 4] [(0, none), (3, none), (4, none)]])]),
  (266, [(1, [.tidy [0, 1, 2, 6] [(0, none), (1, none), (2, none), (6, none)]]), (4, [.tidy [0, 1, 2, 6, 7] [(0, none), (1, none), (2, none), (6, none), (7, none)]])]),
  (267, [(4, [.tidy [0, 6, 7, 8, 9] [(0, none), (6, none), (7, none), (8, none), (9, none)]]), (9, [.tidy [0, 6, 7, 10] [(0, none), (6, none), (7, none), (10, none)]])]),
  (268, [(5, [.tidy [0, 1, 6, 7, 8, 9] [(0, none), (1, none), (6, none), (7, none), (8, none), (9, none)]])]),
  (270, [(2, [.tidy [0, 6, 7] [(0, none), (6, none), (7, none)]])]),
  (271, [(3, [.tidy [0, 1, 2, 7, 8] [(0, none), (1, none), (2, none), (7, none), (8, none)]]), (5, [.tidy [0, 1, 2, 7, 8] [(0, none), (1, none), (2, none), (7, none), (8, none)]]), (15, [.tidy [0, 1, 2, 7, 8, 9] [(0, none), (1, none), (2, none), (7, none), (8, none), (9, none)]]), (22, [.tidy [0, 1, 2, 7, 8, 10] [(0, none), (1, none), (2, none), (7, none), (8, none), (10, none)]])]),
  (273, [(3, [.tidy [0, 1, 9, 10] [(0, none), (1, none), (9, none), (10, none)]]), (4, [.tidy [0, 1, 9, 10] [(0, none), (1, none), (9, none), (10, none)]]), (7, [.tidy [0, 1, 9, 10] [(0, none), (1, none), (9, none), (10, none)]])]),
  (274, [(3, [.tidy [0, 1, 10, 11] [(0, none), (1, none), (10, none), (11, none)]]), (6, [.tidy [0, 1, 10, 11] [(0, none), (1, none), (10, none), (11, none)]]), (15, [.tidy [0, 1, 10, 11] [(0, none), (1, none), (10, none), (11, none)]]), (16, [.tidy [0, 1, 10, 11] [(0, none), (1, none), (10, none), (11, none)]]), (19, [.tidy [0, 1, 10, 11] [(0, none), (1, none), (10, none), (11, none)]])]),
  (279, [(7, [.tidy [1, 4, 5] [(1, none), (4, none), (5, none)]])]),
  (280, [(3, [.lay 3 1, .tidy [3, 7, 8, 9] [(3, none), (7, none), (8, none), (9, none)]])]),
  (281, [(3, [.tidy [3, 6, 7, 8] [(3, none), (6, none), (7, none), (8, none)]])]),
  (283, [(2, [.tidy [1, 2, 5] [(1, none), (2, none), (5, none)]])]),
  (284, [(1, [.tidy [0, 1, 2, 3, 8] [(0, none), (1, none), (2, none), (3, none), (8, none)]]), (4, [.tidy [0, 1, 2, 3, 8, 9] [(0, none), (1, none), (2, none), (3, none), (8, none), (9, none)]])]),
  (285, [(4, [.tidy [0, 3, 8, 9, 10, 11] [(0, none), (3, none), (8, none), (9, none), (10, none), (11, none)]]), (9, [.tidy [0, 3, 8, 9, 12] [(0, none), (3, none), (8, none), (9, none), (12, none)]])]),
  (286, [(5, [.tidy [0, 1, 8, 9, 10, 11] [(0, none), (1, none), (8, none), (9, none), (10, none), (11, none)]])]),
  (288, [(2, [.tidy [0, 8, 9] [(0, none), (8, none), (9, none)]])]),
  (289, [(3, [.tidy [0, 1, 2, 3, 9, 10] [(0, none), (1, none), (2, none), (3, none), (9, none), (10, none)]]), (5, [.tidy [0, 1, 2, 3, 9, 10] [(0, none), (1, none), (2, none), (3, none), (9, none), (10, none)]]), (15, [.tidy [0, 1, 2, 3, 9, 10, 11] [(0, none), (1, none), (2, none), (3, none), (9, none), (10, none), (11, none)]]), (22, [.tidy [0, 1, 2, 3, 9, 10, 12] [(0, none), (1, none), (2, none), (3, none), (9, none), (10, none), (12, none)]])]),
  (290, [(3, [.tidy [0, 1, 4, 11, 12] [(0, none), (1, none), (4, none), (11, none), (12, none)]]), (4, [.tidy [0, 1, 4, 11, 12] [(0, none), (1, none), (4, none), (11, none), (12, none)]]), (7, [.tidy [0, 1, 4, 11, 12] [(0, none), (1, none), (4, none), (11, none), (12, none)]])]),
  (291, [(3, [.tidy [0, 1, 4, 12, 13] [(0, none), (1, none), (4, none), (12, none), (13, none)]]), (6, [.tidy [0, 1, 4, 12, 13] [(0, none), (1, none), (4, none), (12, none), (13, none)]]), (15, [.tidy [0, 1, 4, 12, 13] [(0, none), (1, none), (4, none), (12, none), (13, none)]]), (16, [.tidy [0, 1, 4, 12, 13] [(0, none), (1, none), (4, none), (12, none), (13, none)]]), (19, [.tidy [0, 1, 4, 12, 13] [(0, none), (1, none), (4, none), (12, none), (13, none)]])]),
  (294, [(2, [.tidy [0, 1, 7, 8] [(0, none), (1, none), (7, none), (8, none)]])]),
  (296, [(1, [.tidy [0, 2, 3, 8] [(0, none), (2, none), (3, none), (8, none)]])]),
  (302, [(4, [.tidy [0, 3, 4, 5] [(0, none), (3, none), (4, none), (5, none)]])]),
  (303, [(2, [.lay 3 1, .tidy [0, 3] [(0, none), (3, none)]])]),
  (304, [(4, [.lay 4 1, .tidy [0, 4] [(0, none), (4, none)]])]),
  (305, [(1, [.tidy [0, 2, 3, 4, 10] [(0, none), (2, none), (3, none), (4, none), (10, none)]])])]
def wids : Wids := [(54, (.agg [.one, .row 2 .one, .one])), (61, (.agg [.one, .one, .one, .one, .one, .row 11 .one, .one])), (62, (.agg [.one, .one, .one, .one, .one, .row 11 .one, .one])), (91, (.agg [.one, .one, .one, .one, .one, .row 11 .one, .one])), (97, (.row 1 .one)), (98, (.row 1 .one)), (110, (.row 4 .one)), (111, (.row 4 .one)), (142, (.agg [.one, .one, .row 1 .one])), (144, (.agg [.one, .one, .row 1 .one])), (147, (.agg [.one, .row 2 .one, .one])), (148, (.agg [.one, .row 2 .one, .one])), (149, (.agg [.one, .rrow 2, .one])), (165, (.agg [(.agg [.one, .rrow 2, .one]), .one])), (175, (.row 1 .one)), (176, (.agg [.one, .one, .rrow 1])), (178, (.row 2 .one)), (179, (.row 2 .one)), (180, (.row 1 .one)), (183, (.agg [.one, .one, .one, .one, .one, .row 11 .one, .one])), (192, (.agg [(.agg [.row 1 .one]), .one])), (193, (.agg [.row 1 .one, .row 1 .one, .row 3 .one, .row 3 (.agg [.one, .row 2 .one, .one])])), (194, (.agg [.row 1 .one, .row 1 .one, .row 3 .one, .row 3 (.agg [.one, .row 2 .one, .one])])), (195, (.agg [(.agg [.row 1 .one]), .one])), (199, (.agg [.row 1 .one, .row 1 .one])), (201, (.row 4 .one)), (202, (.row 4 .one)), (203, (.row 4 .one)), (208, (.row 1 .one)), (217, (.row 1 .one)), (233, (.agg [.row 1 .one, .row 1 .one])), (238, (.row 1 .one)), (239, (.row 11 .one)), (256, (.row 1 .one))]
def orcs : List (Nat × (List AV → Mem → Option (AV × Mem))) := [(204, sortT)]
noncomputable def T : FuncId → Option EF := orcT (tableOf Try.prog tt pures hints wids) orcs
theorem tab {f : FuncId} {fn : Func} {F : EF} (hf : Try.prog.funcs[f]? = some fn) (h : (match compileF Try.prog tt pures fn with | some A => annF (hintOf hints f) (widOf wids f) A | none => none) = some F) (ho : (orcs.all fun p => !(p.1 == f)) = true) : T f = some F := orcT_at (table_at' hf h) ho
theorem hTT : ∀ t U, tt.get t = some U → tyOf Try.prog t = some U := Types.ok tt_rows
theorem calls {f : FuncId} {args : List AV} {res : AV} (h : E T f args [] = some (res, [])) : ACalls Try.prog f args res := E_calls mixed hTT (orcT_ok (table_ok _ _ _ _ _) (fun p hp => by cases List.mem_singleton.1 hp; exact sortTOk)) h
theorem get_at {α : Type} {l : List α} {i : Nat} (h : i < l.length) : ∃ x, l[i]? = some x := Go.Abs.get_at h
theorem t204 : T 204 = some ⟨.ret, [], 0, .one, some sortT⟩ := rfl
end Go.Proofs.Ytaaajjinpppgeaa
namespace Go.Proofs.Ytaaajjinpppgeaa
open Go Go.Abs
set_option maxRecDepth 100000
def F2 : EF := ⟨(.region [(.pc (.const (.fn 1 [])) [] (some 0) true)] false),[],1,.one,none⟩
theorem t2 : T 2 = some F2 := tab Try.func2 (by kernel_rfl) rfl
def F4 : EF := ⟨(.seq (.region [(.op .mv [(.const (.bool false))] (some 4) true)] false) (.seq (.region [(.op .mv [(.const (.int .i64 1048576))] (some 5) true)] false) (.seq (.region [(.op .mv [(.tmp 0)] (some 10) true),(.op .mv [(.tmp 5)] (some 11) true),(.pc (.const (.fn 33 [])) [(.tmp 10),(.tmp 11)] (some 12) true),(.op .mv [(.tmp 12)] (some 5) true)] false) (.seq (.seq (.region [(.op .mv [(.tmp 5)] (some 13) true),(.op (.bin .lss) [(.tmp 13),(.const (.int .i64 0))] (some 14) true)] false) (.cond (.tmp 14) (.seq (.region [(.op .mv [(.const (.bool true))] (some 4) true)] false) .ret) .skip)) (.seq (.region [(.op .mv [(.tmp 1)] (some 15) true),(.op .mv [(.tmp 5)] (some 16) true),(.pc (.const (.fn 33 [])) [(.tmp 15),(.tmp 16)] (some 17) true),(.op .mv [(.tmp 17)] (some 5) true)] false) (.seq (.seq (.region [(.op .mv [(.tmp 5)] (some 18) true),(.op (.bin .lss) [(.tmp 18),(.const (.int .i64 0))] (some 19) true)] false) (.cond (.tmp 19) (.seq (.region [(.op .mv [(.const (.bool true))] (some 4) true)] false) .ret) .skip)) (.seq (.region [(.op .mv [(.tmp 0)] (some 20) true),(.pc (.const (.fn 35 [])) [(.tmp 20)] (some 21) true),(.op .mv [(.tmp 1)] (some 22) true),(.pc (.const (.fn 35 [])) [(.tmp 22)] (some 23) true),(.pc (.const (.fn 34 [])) [(.tmp 21),(.tmp 23)] (some 24) true),(.op .mv [(.tmp 24)] (some 6) true)] false) (.seq (.region [(.op .mv [(.tmp 0)] (some 25) true),(.pc (.const (.fn 35 [])) [(.tmp 25)] (some 26) true),(.op .mv [(.tmp 26)] (some 7) true)] false) (.seq (.region [(.op .mv [(.tmp 1)] (some 27) true),(.pc (.const (.fn 35 [])) [(.tmp 27)] (some 28) true),(.op .mv [(.tmp 28)] (some 8) true)] false) (.seq (.region [(.op .mv [(.tmp 7)] (some 29) true),(.op .mv [(.tmp 8)] (some 30) true),(.pc (.const (.fn 36 [])) [(.tmp 29),(.tmp 30)] (some 31) true),(.op .mv [(.tmp 31)] (some 9) true)] false) (.seq (.seq (.region [(.op .mv [(.tmp 9)] (some 32) true),(.op .mv [(.tmp 6)] (some 33) true),(.op (.binB true) [(.tmp 32),(.tmp 33)] (some 34) true)] false) (.cond (.tmp 34) (.seq (.region [(.op .mv [(.const (.bool false))] (some 4) true)] false) .ret) .skip)) (.seq (.seq (.region [(.op .mv [(.tmp 7)] (some 35) true),(.op .mv [(.tmp 0)] (some 36) true),(.pc (.const (.fn 35 [])) [(.tmp 36)] (some 37) true),(.pc (.const (.fn 37 [])) [(.tmp 35),(.tmp 37)] (some 38) true),(.op .not [(.tmp 38)] (some 39) true)] false) (.cond (.tmp 39) (.seq (.region [(.op .mv [(.const (.bool false))] (some 4) true)] false) .ret) .skip)) (.seq (.seq (.region [(.op .mv [(.tmp 8)] (some 40) true),(.op .mv [(.tmp 1)] (some 41) true),(.pc (.const (.fn 35 [])) [(.tmp 41)] (some 42) true),(.pc (.const (.fn 37 [])) [(.tmp 40),(.tmp 42)] (some 43) true),(.op .not [(.tmp 43)] (some 44) true)] false) (.cond (.tmp 44) (.seq (.region [(.op .mv [(.const (.bool false))] (some 4) true)] false) .ret) .skip)) (.seq (.region [(.op .mv [(.const (.bool true))] (some 4) true)] false) .ret)))))))))))))),[(.tmp 4)],45,.one,none⟩
theorem t4 : T 4 = some F4 := tab Try.func4 (by kernel_rfl) rfl
def F27 : EF := ⟨(.seq (.region [(.op (.box 4) [(.tmp 0)] (some 1) true),(.op .mv [(.const (.bool false))] (some 2) true)] false) (.seq (.region [(.op .mv [(.const (.int .i64 1048576))] (some 3) true)] false) (.seq (.region [(.op (.loadN 4) [(.tmp 1)] (some 11) true),(.op .mv [(.tmp 3)] (some 12) true),(.pc (.const (.fn 38 [])) [(.tmp 11),(.tmp 12)] (some 13) true),(.op .mv [(.tmp 13)] (some 3) true)] false) (.seq (.seq (.region [(.op .mv [(.tmp 3)] (some 14) true),(.op (.bin .lss) [(.tmp 14),(.const (.int .i64 0))] (some 15) true)] false) (.cond (.tmp 15) (.seq (.region [(.op .mv [(.const (.bool true))] (some 2) true)] false) .ret) .skip)) (.seq (.region [(.op (.loadN 4) [(.tmp 1)] (some 16) true),(.pc (.const (.fn 40 [])) [(.tmp 16)] (some 17) true),(.pc (.const (.fn 110 [])) [(.tmp 17)] (some 18) true),(.op .mv [(.tmp 18)] (some 4) true)] false) (.seq (.region [(.op (.loadN 4) [(.tmp 1)] (some 19) true),(.pc (.const (.fn 40 [])) [(.tmp 19)] (some 20) true),(.op (.alloc (.agg [.nil,.nil,.nil,.nil])) [] (some 5) true),(.op (.storeN 4) [(.tmp 5),(.tmp 20)] none true)] false) (.seq (.region [(.op (.loadN 4) [(.tmp 5)] (some 21) true),(.pc (.const (.fn 111 [])) [(.tmp 21)] (some 22) true),(.op .mv [(.tmp 22)] (some 6) true)] false) (.seq (.seq (.region [(.op .mv [(.tmp 6)] (some 23) true),(.op .mv [(.tmp 4)] (some 24) true),(.pc (.const (.fn 37 [])) [(.tmp 23),(.tmp 24)] (some 25) true),(.op .not [(.tmp 25)] (some 26) true)] false) (.cond (.tmp 26) (.seq (.region [(.op .mv [(.const (.bool false))] (some 2) true)] false) .ret) .skip)) (.seq (.seq (.region [(.op (.loadN 4) [(.tmp 5)] (some 27) false),(.op (.loadN 4) [(.tmp 1)] (some 28) false),(.pc (.const (.fn 40 [])) [(.tmp 28)] (some 29) false),(.pc (.const (.fn 42 [])) [(.tmp 27),(.tmp 29)] (some 30) true),(.op .not [(.tmp 30)] (some 31) true)] true) (.cond (.tmp 31) (.seq (.region [(.op .mv [(.const (.bool false))] (some 2) true)] false) .ret) .skip)) (.seq (.region [(.op .mv [(.const (.int .i64 1))] (some 7) true)] false) (.seq (.region [(.op (.loadN 4) [(.tmp 5)] (some 32) true),(.op .mv [(.tmp 7)] (some 33) true),(.sc (.const (.fn 63 [])) [(.tmp 32),(.tmp 33)] (some 34) true),(.op .mv [(.tmp 34)] (some 7) true)] false) (.seq (.seq (.region [(.op .mv [(.tmp 7)] (some 35) true),(.op (.bin .lss) [(.tmp 35),(.const (.int .i64 0))] (some 36) true),(.op .mv [(.tmp 36)] (some 37) true),(.grp 37 false [(.op .mv [(.tmp 6)] (some 38) true),(.op .mv [(.tmp 4)] (some 39) true),(.pc (.const (.fn 37 [])) [(.tmp 38),(.tmp 39)] (some 40) true),(.op .not [(.tmp 40)] (some 41) true)] 41 42 true)] false) (.cond (.tmp 42) (.seq (.region [(.op .mv [(.const (.bool false))] (some 2) true)] false) .ret) .skip)) (.seq (.region [(.op .mv [(.const (.int .i64 1))] (some 8) true)] false) (.seq (.region [(.op .mv [(.tmp 6)] (some 43) true),(.op .mv [(.tmp 8)] (some 44) true),(.sc (.const (.fn 112 [])) [(.tmp 43),(.tmp 44)] (some 45) true),(.op .mv [(.tmp 45)] (some 8) true)] false) (.seq (.region [(.op .mv [(.const (.int .i64 1))] (some 9) true)] false) (.seq (.region [(.op .mv [(.tmp 6)] (some 46) true),(.op .mv [(.tmp 9)] (some 47) true),(.pc (.const (.fn 113 [])) [(.tmp 46),(.tmp 47)] (some 48) true),(.op .mv [(.tmp 48)] (some 9) true)] false) (.seq (.seq (.region [(.op .mv [(.tmp 9)] (some 49) true),(.op (.bin .lss) [(.tmp 49),(.const (.int .i64 0))] (some 50) true)] false) (.cond (.tmp 50) (.seq (.region [(.op .mv [(.const (.bool false))] (some 2) true)] false) .ret) .skip)) (.seq (.seq (.region [(.op .mv [(.tmp 9)] (some 51) true),(.op .mv [(.tmp 8)] (some 52) true),(.op (.bin .neq) [(.tmp 51),(.tmp 52)] (some 53) true)] false) (.cond (.tmp 53) (.seq (.region [(.op .mv [(.const (.bool false))] (some 2) true)] false) .ret) .skip)) (.seq (.region [(.op (.loadN 4) [(.tmp 1)] (some 54) true),(.pc (.const (.fn 40 [])) [(.tmp 54)] (some 55) true),(.pc (.const (.fn 111 [])) [(.tmp 55)] (some 56) true),(.op .mv [(.tmp 56)] (some 10) true)] false) (.seq (.seq (.region [(.op .mv [(.tmp 10)] (some 57) true),(.op .mv [(.tmp 4)] (some 58) true),(.pc (.const (.fn 37 [])) [(.tmp 57),(.tmp 58)] (some 59) true),(.op .not [(.tmp 59)] (some 60) true)] false) (.cond (.tmp 60) (.seq (.region [(.op .mv [(.const (.bool false))] (some 2) true)] false) .ret) .skip)) (.seq (.region [(.op .mv [(.const (.int .i64 1))] (some 9) true)] false) (.seq (.region [(.op .mv [(.tmp 6)] (some 61) true),(.op .mv [(.tmp 9)] (some 62) true),(.pc (.const (.fn 113 [])) [(.tmp 61),(.tmp 62)] (some 63) true),(.op .mv [(.tmp 63)] (some 9) true)] false) (.seq (.seq (.region [(.op .mv [(.tmp 9)] (some 64) true),(.op (.bin .lss) [(.tmp 64),(.const (.int .i64 0))] (some 65) true)] false) (.cond (.tmp 65) (.seq (.region [(.op .mv [(.const (.bool false))] (some 2) true)] false) .ret) .skip)) (.seq (.seq (.region [(.op .mv [(.tmp 9)] (some 66) true),(.op .mv [(.tmp 8)] (some 67) true),(.op (.bin .neq) [(.tmp 66),(.tmp 67)] (some 68) true)] false) (.cond (.tmp 68) (.seq (.region [(.op .mv [(.const (.bool false))] (some 2) true)] false) .ret) .skip)) (.seq (.region [(.op .mv [(.const (.bool true))] (some 2) true)] false) .ret))))))))))))))))))))))))),[(.tmp 2)],69,.one,none⟩
theorem t27 : T 27 = some F27 := tab Try.func27 (by kernel_rfl) rfl
def H34_4 : List Vw := [.tidy [0, 1, 5] [(0, none), (1, none), (5, none)]]
theorem h34_4 (b : Nat) (s : St) : vwL b H34_4 s = vwL b [.tidy [0, 1, 5] [(0, none), (1, none), (5, none)]] s := rfl
def L34_4 : EC := (.seq (.seq (.region [(.op .mv [(.tmp 5)] (some 11) true),(.op .mv [(.tmp 0)] (some 12) true),(.op .len [(.tmp 12)] (some 13) true),(.op (.bin .lss) [(.tmp 11),(.tmp 13)] (some 14) true)] false) (.cond (.tmp 14) .skip (.exit 0))) (.seq (.block 1 (.seq (.region [(.op .mv [(.tmp 0)] (some 17) false),(.op .mv [(.tmp 5)] (some 18) false),(.op (.iaddr 4) [(.tmp 17),(.tmp 18)] (some 19) false),(.op (.loadN 4) [(.tmp 19)] (some 20) false),(.op .mv [(.tmp 1)] (some 21) false),(.op .mv [(.tmp 5)] (some 22) false),(.op (.iaddr 4) [(.tmp 21),(.tmp 22)] (some 23) false),(.op (.loadN 4) [(.tmp 23)] (some 24) false),(.op (.eqs true [2,0,2,2]) [(.tmp 20),(.tmp 24)] (some 25) true)] true) (.cond (.tmp 25) (.seq (.region [(.op .mv [(.const (.bool false))] (some 4) true)] false) .ret) .skip))) (.region [(.op .mv [(.tmp 5)] (some 15) true),(.op (.bin .add) [(.tmp 15),(.const (.int .i64 1))] (some 16) true),(.op .mv [(.tmp 16)] (some 5) true)] false)))
def F34 : EF := ⟨(.seq (.region [(.op .mv [(.const (.bool false))] (some 4) true)] false) (.seq (.seq (.region [(.op .mv [(.tmp 0)] (some 6) true),(.op .len [(.tmp 6)] (some 7) true),(.op .mv [(.tmp 1)] (some 8) true),(.op .len [(.tmp 8)] (some 9) true),(.op (.bin .neq) [(.tmp 7),(.tmp 9)] (some 10) true)] false) (.cond (.tmp 10) (.seq (.region [(.op .mv [(.const (.bool false))] (some 4) true)] false) .ret) .skip)) (.seq (.seq (.region [(.op .mv [(.const (.int .i64 0))] (some 5) true)] false) (.block 0 (.loop H34_4 L34_4))) (.seq (.region [(.op .mv [(.const (.bool true))] (some 4) true)] false) .ret)))),[(.tmp 4)],26,.one,none⟩
theorem t34 : T 34 = some F34 := tab Try.func34 (by kernel_rfl) rfl
def F36 : EF := ⟨(.seq (.region [(.op .mv [(.const (.bool false))] (some 4) true)] false) (.seq (.region [(.op .mv [(.tmp 0)] (some 5) true),(.op .mv [(.tmp 1)] (some 6) true),(.pc (.const (.fn 121 [])) [(.tmp 5),(.tmp 6)] (some 7) true),(.op .mv [(.tmp 7)] (some 4) true)] false) .ret)),[(.tmp 4)],8,.one,none⟩
theorem t36 : T 36 = some F36 := tab Try.func36 (by kernel_rfl) rfl
def F38 : EF := ⟨(.seq (.region [(.op (.box 4) [(.tmp 0)] (some 2) true),(.op .mv [(.const (.int .i64 0))] (some 4) true)] false) (.seq (.region [(.op (.faddr 0) [(.tmp 2)] (some 5) true),(.op (.loadN 2) [(.tmp 5)] (some 6) true),(.op .mv [(.tmp 1)] (some 7) true),(.pc (.const (.fn 123 [])) [(.tmp 6),(.tmp 7)] (some 8) true),(.op .mv [(.tmp 8)] (some 1) true)] false) (.seq (.seq (.region [(.op .mv [(.tmp 1)] (some 9) true),(.op (.bin .lss) [(.tmp 9),(.const (.int .i64 0))] (some 10) true)] false) (.cond (.tmp 10) (.seq (.region [(.op .mv [(.const (.int .i64 (-1)))] (some 4) true)] false) .ret) .skip)) (.seq (.region [(.op (.faddr 2) [(.tmp 2)] (some 11) true),(.op .load1 [(.tmp 11)] (some 12) true),(.op .mv [(.tmp 1)] (some 13) true),(.pc (.const (.fn 124 [])) [(.tmp 12),(.tmp 13)] (some 14) true),(.op .mv [(.tmp 14)] (some 1) true)] false) (.seq (.seq (.region [(.op .mv [(.tmp 1)] (some 15) true),(.op (.bin .lss) [(.tmp 15),(.const (.int .i64 0))] (some 16) true)] false) (.cond (.tmp 16) (.seq (.region [(.op .mv [(.const (.int .i64 (-1)))] (some 4) true)] false) .ret) .skip)) (.seq (.region [(.op (.faddr 3) [(.tmp 2)] (some 17) true),(.op .load1 [(.tmp 17)] (some 18) true),(.op .mv [(.tmp 1)] (some 19) true),(.pc (.const (.fn 125 [])) [(.tmp 18),(.tmp 19)] (some 20) true),(.op .mv [(.tmp 20)] (some 1) true)] false) (.seq (.seq (.region [(.op .mv [(.tmp 1)] (some 21) true),(.op (.bin .lss) [(.tmp 21),(.const (.int .i64 0))] (some 22) true)] false) (.cond (.tmp 22) (.seq (.region [(.op .mv [(.const (.int .i64 (-1)))] (some 4) true)] false) .ret) .skip)) (.seq (.region [(.op .mv [(.tmp 1)] (some 23) true),(.op .mv [(.tmp 23)] (some 4) true)] false) .ret)))))))),[(.tmp 4)],24,.one,none⟩
theorem t38 : T 38 = some F38 := tab Try.func38 (by kernel_rfl) rfl
def F40 : EF := ⟨(.seq (.region [(.op (.box 4) [(.tmp 0)] (some 1) true),(.op (.alloc (.agg [.nil,.nil,.nil,.nil])) [] (some 2) true)] false) (.seq (.region [(.op (.alloc (.agg [.nil,.nil,.nil,.nil])) [] (some 3) true)] false) (.seq (.region [(.op (.faddr 0) [(.tmp 1)] (some 4) true),(.op (.loadN 2) [(.tmp 4)] (some 5) true),(.pc (.const (.fn 127 [])) [(.tmp 5)] (some 6) true),(.op (.faddr 0) [(.tmp 3)] (some 7) true),(.op (.storeN 2) [(.tmp 7),(.tmp 6)] none true)] false) (.seq (.region [(.op (.faddr 2) [(.tmp 1)] (some 8) true),(.op .load1 [(.tmp 8)] (some 9) true),(.pc (.const (.fn 128 [])) [(.tmp 9)] (some 10) true),(.op (.faddr 2) [(.tmp 3)] (some 11) true),(.op .store1 [(.tmp 11),(.tmp 10)] none true)] false) (.seq (.region [(.op (.faddr 3) [(.tmp 1)] (some 12) true),(.op .load1 [(.tmp 12)] (some 13) true),(.pc (.const (.fn 129 [])) [(.tmp 13)] (some 14) true),(.op (.faddr 3) [(.tmp 3)] (some 15) true),(.op .store1 [(.tmp 15),(.tmp 14)] none true)] false) (.seq (.region [(.op (.loadN 4) [(.tmp 3)] (some 16) true),(.op (.storeN 4) [(.tmp 2),(.tmp 16)] none true)] false) .ret)))))),[(.cell 2 (.loadN 4))],17,.one,none⟩
theorem t40 : T 40 = some F40 := tab Try.func40 (by kernel_rfl) rfl
def F42 : EF := ⟨(.seq (.region [(.op (.box 4) [(.tmp 0)] (some 2) true),(.op (.box 4) [(.tmp 1)] (some 3) true),(.op .mv [(.const (.bool false))] (some 4) true)] false) (.seq (.seq (.region [(.op (.faddr 0) [(.tmp 2)] (some 5) true),(.op (.loadN 2) [(.tmp 5)] (some 6) true),(.op (.faddr 0) [(.tmp 3)] (some 7) true),(.op (.loadN 2) [(.tmp 7)] (some 8) true),(.pc (.const (.fn 131 [])) [(.tmp 6),(.tmp 8)] (some 9) true),(.op .not [(.tmp 9)] (some 10) true)] false) (.cond (.tmp 10) (.seq (.region [(.op .mv [(.const (.bool false))] (some 4) true)] false) .ret) .skip)) (.seq (.seq (.region [(.op (.faddr 2) [(.tmp 2)] (some 11) true),(.op .load1 [(.tmp 11)] (some 12) true),(.op (.faddr 2) [(.tmp 3)] (some 13) true),(.op .load1 [(.tmp 13)] (some 14) true),(.pc (.const (.fn 132 [])) [(.tmp 12),(.tmp 14)] (some 15) true),(.op .not [(.tmp 15)] (some 16) true)] false) (.cond (.tmp 16) (.seq (.region [(.op .mv [(.const (.bool false))] (some 4) true)] false) .ret) .skip)) (.seq (.seq (.region [(.op (.faddr 3) [(.tmp 2)] (some 17) true),(.op .load1 [(.tmp 17)] (some 18) true),(.op (.faddr 3) [(.tmp 3)] (some 19) true),(.op .load1 [(.tmp 19)] (some 20) true),(.pc (.const (.fn 133 [])) [(.tmp 18),(.tmp 20)] (some 21) true),(.op .not [(.tmp 21)] (some 22) true)] false) (.cond (.tmp 22) (.seq (.region [(.op .mv [(.const (.bool false))] (some 4) true)] false) .ret) .skip)) (.seq (.region [(.op .mv [(.const (.bool true))] (some 4) true)] false) .ret))))),[(.tmp 4)],23,.one,none⟩
theorem t42 : T 42 = some F42 := tab Try.func42 (by kernel_rfl) rfl
def F50 : EF := ⟨(.seq (.region [(.op (.box 3) [(.tmp 0)] (some 2) true),(.op (.box 3) [(.tmp 1)] (some 3) true),(.op .mv [(.const (.bool false))] (some 4) true)] false) (.seq (.seq (.region [(.op (.faddr 0) [(.tmp 2)] (some 5) true),(.op .load1 [(.tmp 5)] (some 6) true),(.op (.faddr 0) [(.tmp 3)] (some 7) true),(.op .load1 [(.tmp 7)] (some 8) true),(.op (.bin .neq) [(.tmp 6),(.tmp 8)] (some 9) true)] false) (.cond (.tmp 9) (.seq (.region [(.op .mv [(.const (.bool false))] (some 4) true)] false) .ret) .skip)) (.seq (.seq (.region [(.op (.faddr 1) [(.tmp 2)] (some 10) true),(.op .load1 [(.tmp 10)] (some 11) true),(.op (.faddr 1) [(.tmp 3)] (some 12) true),(.op .load1 [(.tmp 12)] (some 13) true),(.op (.bin .neq) [(.tmp 11),(.tmp 13)] (some 14) true)] false) (.cond (.tmp 14) (.seq (.region [(.op .mv [(.const (.bool false))] (some 4) true)] false) .ret) .skip)) (.seq (.seq (.region [(.op (.faddr 2) [(.tmp 2)] (some 15) true),(.op .load1 [(.tmp 15)] (some 16) true),(.op (.faddr 2) [(.tmp 3)] (some 17) true),(.op .load1 [(.tmp 17)] (some 18) true),(.pc (.const (.fn 99 [])) [(.tmp 16),(.tmp 18)] (some 19) true),(.op .not [(.tmp 19)] (some 20) true)] false) (.cond (.tmp 20) (.seq (.region [(.op .mv [(.const (.bool false))] (some 4) true)] false) .ret) .skip)) (.seq (.region [(.op .mv [(.const (.bool true))] (some 4) true)] false) .ret))))),[(.tmp 4)],21,.one,none⟩
theorem t50 : T 50 = some F50 := tab Try.func50 (by kernel_rfl) rfl
def F56 : EF := ⟨(.seq (.region [(.op (.box 3) [(.tmp 0)] (some 2) true),(.op (.box 3) [(.tmp 1)] (some 3) true),(.op .mv [(.const (.bool false))] (some 4) true)] false) (.seq (.seq (.region [(.op (.faddr 0) [(.tmp 2)] (some 5) true),(.op .load1 [(.tmp 5)] (some 6) true),(.op (.faddr 0) [(.tmp 3)] (some 7) true),(.op .load1 [(.tmp 7)] (some 8) true),(.op (.binB true) [(.tmp 6),(.tmp 8)] (some 9) true)] false) (.cond (.tmp 9) (.seq (.region [(.op .mv [(.const (.bool false))] (some 4) true)] false) .ret) .skip)) (.seq (.seq (.region [(.op (.faddr 1) [(.tmp 2)] (some 10) true),(.op .load1 [(.tmp 10)] (some 11) true),(.op (.faddr 1) [(.tmp 3)] (some 12) true),(.op .load1 [(.tmp 12)] (some 13) true),(.pc (.const (.fn 150 [])) [(.tmp 11),(.tmp 13)] (some 14) true),(.op .not [(.tmp 14)] (some 15) true)] false) (.cond (.tmp 15) (.seq (.region [(.op .mv [(.const (.bool false))] (some 4) true)] false) .ret) .skip)) (.seq (.seq (.region [(.op (.faddr 2) [(.tmp 2)] (some 16) true),(.op .load1 [(.tmp 16)] (some 17) true),(.op (.faddr 2) [(.tmp 3)] (some 18) true),(.op .load1 [(.tmp 18)] (some 19) true),(.op (.bin .neq) [(.tmp 17),(.tmp 19)] (some 20) true)] false) (.cond (.tmp 20) (.seq (.region [(.op .mv [(.const (.bool false))] (some 4) true)] false) .ret) .skip)) (.seq (.region [(.op .mv [(.const (.bool true))] (some 4) true)] false) .ret))))),[(.tmp 4)],21,.one,none⟩
theorem t56 : T 56 = some F56 := tab Try.func56 (by kernel_rfl) rfl
def F63 : EF := ⟨(.seq (.region [(.op (.box 4) [(.tmp 0)] (some 2) true),(.op .mv [(.const (.int .i64 0))] (some 4) true)] false) (.seq (.region [(.op (.faddr 0) [(.tmp 2)] (some 5) true),(.op (.loadN 2) [(.tmp 5)] (some 6) true),(.op .mv [(.tmp 1)] (some 7) true),(.sc (.const (.fn 160 [])) [(.tmp 6),(.tmp 7)] (some 8) true),(.op .mv [(.tmp 8)] (some 1) true)] false) (.seq (.region [(.op (.faddr 2) [(.tmp 2)] (some 9) true),(.op .load1 [(.tmp 9)] (some 10) true),(.op .mv [(.tmp 1)] (some 11) true),(.sc (.const (.fn 161 [])) [(.tmp 10),(.tmp 11)] (some 12) true),(.op .mv [(.tmp 12)] (some 1) true)] false) (.seq (.region [(.op (.faddr 3) [(.tmp 2)] (some 13) true),(.op .load1 [(.tmp 13)] (some 14) true),(.op .mv [(.tmp 1)] (some 15) true),(.sc (.const (.fn 162 [])) [(.tmp 14),(.tmp 15)] (some 16) true),(.op .mv [(.tmp 16)] (some 1) true)] false) (.seq (.region [(.op .mv [(.tmp 1)] (some 17) true),(.op .mv [(.tmp 17)] (some 4) true)] false) .ret))))),[(.tmp 4)],18,.one,none⟩
theorem t63 : T 63 = some F63 := tab Try.func63 (by kernel_rfl) rfl
def H99_4 : List Vw := [.tidy [0, 1, 5] [(0, none), (1, none), (5, none)]]
theorem h99_4 (b : Nat) (s : St) : vwL b H99_4 s = vwL b [.tidy [0, 1, 5] [(0, none), (1, none), (5, none)]] s := rfl
def L99_4 : EC := (.seq (.seq (.region [(.op .mv [(.tmp 5)] (some 11) true),(.op .mv [(.tmp 0)] (some 12) true),(.op .len [(.tmp 12)] (some 13) true),(.op (.bin .lss) [(.tmp 11),(.tmp 13)] (some 14) true)] false) (.cond (.tmp 14) .skip (.exit 0))) (.seq (.block 1 (.seq (.region [(.op .mv [(.tmp 0)] (some 17) false),(.op .mv [(.tmp 5)] (some 18) false),(.op (.iaddr 1) [(.tmp 17),(.tmp 18)] (some 19) false),(.op .load1 [(.tmp 19)] (some 20) false),(.op .mv [(.tmp 1)] (some 21) false),(.op .mv [(.tmp 5)] (some 22) false),(.op (.iaddr 1) [(.tmp 21),(.tmp 22)] (some 23) false),(.op .load1 [(.tmp 23)] (some 24) false),(.op (.bin .neq) [(.tmp 20),(.tmp 24)] (some 25) true)] true) (.cond (.tmp 25) (.seq (.region [(.op .mv [(.const (.bool false))] (some 4) true)] false) .ret) .skip))) (.region [(.op .mv [(.tmp 5)] (some 15) true),(.op (.bin .add) [(.tmp 15),(.const (.int .i64 1))] (some 16) true),(.op .mv [(.tmp 16)] (some 5) true)] false)))
def F99 : EF := ⟨(.seq (.region [(.op .mv [(.const (.bool false))] (some 4) true)] false) (.seq (.seq (.region [(.op .mv [(.tmp 0)] (some 6) true),(.op .len [(.tmp 6)] (some 7) true),(.op .mv [(.tmp 1)] (some 8) true),(.op .len [(.tmp 8)] (some 9) true),(.op (.bin .neq) [(.tmp 7),(.tmp 9)] (some 10) true)] false) (.cond (.tmp 10) (.seq (.region [(.op .mv [(.const (.bool false))] (some 4) true)] false) .ret) .skip)) (.seq (.seq (.region [(.op .mv [(.const (.int .i64 0))] (some 5) true)] false) (.block 0 (.loop H99_4 L99_4))) (.seq (.region [(.op .mv [(.const (.bool true))] (some 4) true)] false) .ret)))),[(.tmp 4)],26,.one,none⟩
theorem t99 : T 99 = some F99 := tab Try.func99 (by kernel_rfl) rfl
def H100_2 : List Vw := [.tidy [0, 1, 5] [(0, none), (1, none), (5, none)]]
theorem h100_2 (b : Nat) (s : St) : vwL b H100_2 s = vwL b [.tidy [0, 1, 5] [(0, none), (1, none), (5, none)]] s := rfl
def L100_2 : EC := (.seq (.seq (.region [(.op .mv [(.tmp 5)] (some 6) true),(.op .mv [(.tmp 0)] (some 7) true),(.op .len [(.tmp 7)] (some 8) true),(.op (.bin .lss) [(.tmp 6),(.tmp 8)] (some 9) true)] false) (.cond (.tmp 9) .skip (.exit 0))) (.seq (.block 1 (.seq (.region [(.op .mv [(.tmp 0)] (some 12) true),(.op .mv [(.tmp 5)] (some 13) true),(.op .mv [(.tmp 1)] (some 14) true),(.op (.iaddr 1) [(.tmp 12),(.tmp 13)] (some 15) true),(.op .store1 [(.tmp 15),(.tmp 14)] none true)] false) (.region [(.op .mv [(.tmp 1)] (some 16) true),(.op (.bin .add) [(.tmp 16),(.const (.int .i64 1))] (some 17) true),(.op .mv [(.tmp 17)] (some 1) true)] false))) (.region [(.op .mv [(.tmp 5)] (some 10) true),(.op (.bin .add) [(.tmp 10),(.const (.int .i64 1))] (some 11) true),(.op .mv [(.tmp 11)] (some 5) true)] false)))
def F100 : EF := ⟨(.seq (.region [(.op .mv [(.const (.int .i64 0))] (some 4) true)] false) (.seq (.seq (.region [(.op .mv [(.const (.int .i64 0))] (some 5) true)] false) (.block 0 (.loop H100_2 L100_2))) (.seq (.region [(.op .mv [(.tmp 1)] (some 18) true),(.op .mv [(.tmp 18)] (some 4) true)] false) .ret))),[(.tmp 4)],19,.one,none⟩
theorem t100 : T 100 = some F100 := tab Try.func100 (by kernel_rfl) rfl
def F110 : EF := ⟨(.seq (.region [(.op (.box 4) [(.tmp 0)] (some 1) true),(.op .mv [(.const .nil)] (some 2) true)] false) (.seq (.seq (.region [(.op (.loadN 4) [(.tmp 1)] (some 3) true),(.pc (.const (.fn 153 [])) [(.tmp 3)] (some 4) true),(.op .not [(.tmp 4)] (some 5) true),(.op .mv [(.tmp 5)] (some 6) true),(.grp 6 false [(.op (.faddr 2) [(.tmp 1)] (some 7) true),(.op .load1 [(.tmp 7)] (some 8) true),(.op (.iaddr 3) [(.tmp 8),(.const (.int .i64 0))] (some 9) true),(.op (.faddr 0) [(.tmp 9)] (some 10) true),(.op .load1 [(.tmp 10)] (some 11) true),(.op (.bin .neq) [(.tmp 11),(.const (.int .i64 2))] (some 12) true)] 12 13 true)] false) (.cond (.tmp 13) (.seq (.region [(.op (.bslice 4 0 (.agg [(.str ⟨#[]⟩),(.bool false),(.str ⟨#[]⟩),(.str ⟨#[]⟩)]) []) [] (some 14) true),(.op .mv [(.tmp 14)] (some 2) true)] false) .ret) .skip)) (.seq (.region [(.op (.loadN 4) [(.tmp 1)] (some 15) true),(.pc (.const (.fn 202 [])) [(.tmp 15),(.const (.int .i64 1)),(.const (.str ⟨#[]⟩)),(.const (.int .i64 0))] (some 16) true),(.pc (.const (.fn 201 [])) [(.tmp 16)] (some 17) true),(.op .mv [(.tmp 17)] (some 2) true)] false) .ret))),[(.tmp 2)],18,(.row 4 .one),none⟩
theorem t110 : T 110 = some F110 := tab Try.func110 (by kernel_rfl) rfl
def F111 : EF := ⟨(.seq (.region [(.op (.box 4) [(.tmp 0)] (some 1) true),(.op .mv [(.const .nil)] (some 2) true)] false) (.seq (.seq (.region [(.op (.loadN 4) [(.tmp 1)] (some 4) true),(.pc (.const (.fn 155 [])) [(.tmp 4)] (some 5) true),(.op .not [(.tmp 5)] (some 6) true)] false) (.cond (.tmp 6) (.seq (.region [(.op .mv [(.const .nil)] (some 2) true)] false) .ret) .skip)) (.seq (.region [(.op (.loadN 4) [(.tmp 1)] (some 7) true),(.pc (.const (.fn 203 [])) [(.tmp 7),(.const (.int .i64 1)),(.const (.str ⟨#[]⟩)),(.const (.int .i64 4))] (some 8) true),(.op .mv [(.tmp 8)] (some 3) true)] false) (.seq (.region [(.op .mv [(.tmp 3)] (some 9) true),(.sc (.const (.fn 204 [])) [(.tmp 9),(.const (.fn 205 []))] (some 10) true)] false) (.seq (.region [(.op .mv [(.tmp 3)] (some 11) true),(.op .mv [(.tmp 11)] (some 2) true)] false) .ret))))),[(.tmp 2)],12,(.row 4 .one),none⟩
theorem t111 : T 111 = some F111 := tab Try.func111 (by kernel_rfl) rfl
def H112_2 : List Vw := [.tidy [0, 1, 5] [(0, none), (1, none), (5, none)]]
theorem h112_2 (b : Nat) (s : St) : vwL b H112_2 s = vwL b [.tidy [0, 1, 5] [(0, none), (1, none), (5, none)]] s := rfl
def L112_2 : EC := (.seq (.seq (.region [(.op .mv [(.tmp 5)] (some 6) true),(.op .mv [(.tmp 0)] (some 7) true),(.op .len [(.tmp 7)] (some 8) true),(.op (.bin .lss) [(.tmp 6),(.tmp 8)] (some 9) true)] false) (.cond (.tmp 9) .skip (.exit 0))) (.seq (.block 1 (.seq (.region [(.op .mv [(.tmp 0)] (some 12) true),(.op .mv [(.tmp 5)] (some 13) true),(.op .mv [(.tmp 1)] (some 14) true),(.pc (.const (.fn 207 [])) [(.tmp 14)] (some 15) true),(.op (.iaddr 4) [(.tmp 12),(.tmp 13)] (some 16) true),(.op (.faddr 0) [(.tmp 16)] (some 17) true),(.op .store1 [(.tmp 17),(.tmp 15)] none true)] false) (.seq (.region [(.op .mv [(.tmp 1)] (some 18) true),(.op (.bin .add) [(.tmp 18),(.const (.int .i64 1))] (some 19) true),(.op .mv [(.tmp 19)] (some 1) true)] false) (.seq (.region [(.op .mv [(.tmp 0)] (some 20) true),(.op .mv [(.tmp 5)] (some 21) true),(.op .mv [(.tmp 1)] (some 22) true),(.op (.bin .rem) [(.tmp 22),(.const (.int .i64 3))] (some 23) true),(.op (.bin .eql) [(.tmp 23),(.const (.int .i64 0))] (some 24) true),(.op (.iaddr 4) [(.tmp 20),(.tmp 21)] (some 25) true),(.op (.faddr 1) [(.tmp 25)] (some 26) true),(.op .store1 [(.tmp 26),(.tmp 24)] none true)] false) (.seq (.region [(.op .mv [(.tmp 1)] (some 27) true),(.op (.bin .add) [(.tmp 27),(.const (.int .i64 1))] (some 28) true),(.op .mv [(.tmp 28)] (some 1) true)] false) (.seq (.region [(.op .mv [(.tmp 0)] (some 29) true),(.op .mv [(.tmp 5)] (some 30) true),(.op .mv [(.tmp 1)] (some 31) true),(.pc (.const (.fn 207 [])) [(.tmp 31)] (some 32) true),(.op (.iaddr 4) [(.tmp 29),(.tmp 30)] (some 33) true),(.op (.faddr 2) [(.tmp 33)] (some 34) true),(.op .store1 [(.tmp 34),(.tmp 32)] none true)] false) (.seq (.region [(.op .mv [(.tmp 1)] (some 35) true),(.op (.bin .add) [(.tmp 35),(.const (.int .i64 1))] (some 36) true),(.op .mv [(.tmp 36)] (some 1) true)] false) (.seq (.region [(.op .mv [(.tmp 0)] (some 37) true),(.op .mv [(.tmp 5)] (some 38) true),(.op .mv [(.tmp 1)] (some 39) true),(.pc (.const (.fn 207 [])) [(.tmp 39)] (some 40) true),(.op (.iaddr 4) [(.tmp 37),(.tmp 38)] (some 41) true),(.op (.faddr 3) [(.tmp 41)] (some 42) true),(.op .store1 [(.tmp 42),(.tmp 40)] none true)] false) (.region [(.op .mv [(.tmp 1)] (some 43) true),(.op (.bin .add) [(.tmp 43),(.const (.int .i64 1))] (some 44) true),(.op .mv [(.tmp 44)] (some 1) true)] false))))))))) (.region [(.op .mv [(.tmp 5)] (some 10) true),(.op (.bin .add) [(.tmp 10),(.const (.int .i64 1))] (some 11) true),(.op .mv [(.tmp 11)] (some 5) true)] false)))
def F112 : EF := ⟨(.seq (.region [(.op .mv [(.const (.int .i64 0))] (some 4) true)] false) (.seq (.seq (.region [(.op .mv [(.const (.int .i64 0))] (some 5) true)] false) (.block 0 (.loop H112_2 L112_2))) (.seq (.region [(.op .mv [(.tmp 1)] (some 45) true),(.op .mv [(.tmp 45)] (some 4) true)] false) .ret))),[(.tmp 4)],46,.one,none⟩
theorem t112 : T 112 = some F112 := tab Try.func112 (by kernel_rfl) rfl
def H113_2 : List Vw := [.tidy [0, 1, 5] [(0, none), (1, none), (5, none)]]
theorem h113_2 (b : Nat) (s : St) : vwL b H113_2 s = vwL b [.tidy [0, 1, 5] [(0, none), (1, none), (5, none)]] s := rfl
def L113_2 : EC := (.seq (.seq (.region [(.op .mv [(.tmp 5)] (some 6) true),(.op .mv [(.tmp 0)] (some 7) true),(.op .len [(.tmp 7)] (some 8) true),(.op (.bin .lss) [(.tmp 6),(.tmp 8)] (some 9) true)] false) (.cond (.tmp 9) .skip (.exit 0))) (.seq (.block 1 (.seq (.seq (.region [(.op .mv [(.tmp 0)] (some 12) false),(.op .mv [(.tmp 5)] (some 13) false),(.op (.iaddr 4) [(.tmp 12),(.tmp 13)] (some 14) false),(.op (.faddr 0) [(.tmp 14)] (some 15) false),(.op .load1 [(.tmp 15)] (some 16) false),(.op .mv [(.tmp 1)] (some 17) false),(.pc (.const (.fn 207 [])) [(.tmp 17)] (some 18) false),(.op (.bin .neq) [(.tmp 16),(.tmp 18)] (some 19) true)] true) (.cond (.tmp 19) (.seq (.region [(.op .mv [(.const (.int .i64 (-1)))] (some 4) true)] false) .ret) .skip)) (.seq (.region [(.op .mv [(.tmp 1)] (some 20) true),(.op (.bin .add) [(.tmp 20),(.const (.int .i64 1))] (some 21) true),(.op .mv [(.tmp 21)] (some 1) true)] false) (.seq (.seq (.region [(.op .mv [(.tmp 0)] (some 22) true),(.op .mv [(.tmp 5)] (some 23) true),(.op (.iaddr 4) [(.tmp 22),(.tmp 23)] (some 24) true),(.op (.faddr 1) [(.tmp 24)] (some 25) true),(.op .load1 [(.tmp 25)] (some 26) true),(.op .mv [(.tmp 1)] (some 27) true),(.op (.bin .rem) [(.tmp 27),(.const (.int .i64 3))] (some 28) true),(.op (.bin .eql) [(.tmp 28),(.const (.int .i64 0))] (some 29) true),(.op (.binB true) [(.tmp 26),(.tmp 29)] (some 30) true)] false) (.cond (.tmp 30) (.seq (.region [(.op .mv [(.const (.int .i64 (-1)))] (some 4) true)] false) .ret) .skip)) (.seq (.region [(.op .mv [(.tmp 1)] (some 31) true),(.op (.bin .add) [(.tmp 31),(.const (.int .i64 1))] (some 32) true),(.op .mv [(.tmp 32)] (some 1) true)] false) (.seq (.seq (.region [(.op .mv [(.tmp 0)] (some 33) false),(.op .mv [(.tmp 5)] (some 34) false),(.op (.iaddr 4) [(.tmp 33),(.tmp 34)] (some 35) false),(.op (.faddr 2) [(.tmp 35)] (some 36) false),(.op .load1 [(.tmp 36)] (some 37) false),(.op .mv [(.tmp 1)] (some 38) false),(.pc (.const (.fn 207 [])) [(.tmp 38)] (some 39) false),(.op (.bin .neq) [(.tmp 37),(.tmp 39)] (some 40) true)] true) (.cond (.tmp 40) (.seq (.region [(.op .mv [(.const (.int .i64 (-1)))] (some 4) true)] false) .ret) .skip)) (.seq (.region [(.op .mv [(.tmp 1)] (some 41) true),(.op (.bin .add) [(.tmp 41),(.const (.int .i64 1))] (some 42) true),(.op .mv [(.tmp 42)] (some 1) true)] false) (.seq (.seq (.region [(.op .mv [(.tmp 0)] (some 43) false),(.op .mv [(.tmp 5)] (some 44) false),(.op (.iaddr 4) [(.tmp 43),(.tmp 44)] (some 45) false),(.op (.faddr 3) [(.tmp 45)] (some 46) false),(.op .load1 [(.tmp 46)] (some 47) false),(.op .mv [(.tmp 1)] (some 48) false),(.pc (.const (.fn 207 [])) [(.tmp 48)] (some 49) false),(.op (.bin .neq) [(.tmp 47),(.tmp 49)] (some 50) true)] true) (.cond (.tmp 50) (.seq (.region [(.op .mv [(.const (.int .i64 (-1)))] (some 4) true)] false) .ret) .skip)) (.region [(.op .mv [(.tmp 1)] (some 51) true),(.op (.bin .add) [(.tmp 51),(.const (.int .i64 1))] (some 52) true),(.op .mv [(.tmp 52)] (some 1) true)] false))))))))) (.region [(.op .mv [(.tmp 5)] (some 10) true),(.op (.bin .add) [(.tmp 10),(.const (.int .i64 1))] (some 11) true),(.op .mv [(.tmp 11)] (some 5) true)] false)))
def F113 : EF := ⟨(.seq (.region [(.op .mv [(.const (.int .i64 0))] (some 4) true)] false) (.seq (.seq (.region [(.op .mv [(.const (.int .i64 0))] (some 5) true)] false) (.block 0 (.loop H113_2 L113_2))) (.seq (.region [(.op .mv [(.tmp 1)] (some 53) true),(.op .mv [(.tmp 53)] (some 4) true)] false) .ret))),[(.tmp 4)],54,.one,none⟩
theorem t113 : T 113 = some F113 := tab Try.func113 (by kernel_rfl) rfl
def F116 : EF := ⟨(.seq (.region [(.op .mv [(.const (.bool false))] (some 6) true)] false) (.seq (.region [(.op .mv [(.tmp 0)] (some 7) true),(.op .mv [(.tmp 1)] (some 8) true),(.op (.bin .geq) [(.tmp 7),(.tmp 8)] (some 9) true),(.op .mv [(.tmp 9)] (some 10) true),(.grp 10 true [(.op .mv [(.tmp 0)] (some 11) true),(.op .mv [(.tmp 2)] (some 12) true),(.op (.bin .leq) [(.tmp 11),(.tmp 12)] (some 13) true)] 13 14 true),(.op .mv [(.tmp 14)] (some 6) true)] false) .ret)),[(.tmp 6)],15,.one,none⟩
theorem t116 : T 116 = some F116 := tab Try.func116 (by kernel_rfl) rfl
end Go.Proofs.Ytaaajjinpppgeaa
