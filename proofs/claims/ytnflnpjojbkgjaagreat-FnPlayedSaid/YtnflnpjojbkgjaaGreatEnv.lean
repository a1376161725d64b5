/- What the evaluator is told of the program's types, loops and functions: printed by nf.py. -/
import Derived.Test.YtnflnpjojbkgjaaGreatProg
import Derived.Test.YtnflnpjojbkgjaaGreatDp22
import Derived.Test.YtnflnpjojbkgjaaGreatSrt
namespace Go.Proofs.YtnflnpjojbkgjaaGreat
open Go.Dp
def tabs : Tabs where
  sl := [(22, (5, 0, 1)), (24, (113, 2, 16)), (25, (123, 2, 48)), (28, (24, 0, 24)), (29, (3, 0, 8)), (50, (51, 0, 8)),
  (72, (50, 0, 24)), (73, (4, 0, 1)), (121, (126, 2, 32))]
  sh := [(2, 0), (3, 0), (4, 0), (5, 0), (9, 0), (22, 0), (24, 0), (25, 0), (27, 4), (28, 0), (29, 0), (50, 0), (51, 0), (55, 0), (72, 0), (73, 0), (93, 0), (95, 3), (101, 0), (113, 2),
  (115, 0), (121, 0), (123, 2), (126, 2), (150, 0), (192, 0), (198, 0), (201, 0), (205, 0), (209, 0)]
  fl := [(27, [some (0, 0), some (1, 0), some (2, 0), some (3, 0)]), (95, [some (0, 0), some (1, 0), some (2, 0)]), (113, [some (0, 0), some (1, 0)]), (123, [some (0, 0), some (1, 0)]), (126, [some (0, 0), some (1, 0)])]
  ik := [(2, .i64), (3, .i64), (5, .u8), (51, .u64), (55, .u64), (192, .i64), (198, .u32), (205, .u64)]
  zr := [(2, [.int .i64 0]), (3, [.int .i64 0]), (4, [.bool false]), (5, [.int .u8 0]), (9, [.str ⟨#[]⟩]), (22, [.row 0 2 []]),
  (24, [.row 0 2 []]), (25, [.row 0 2 []]), (27, [.int .i64 0, .int .i64 0, .row 0 2 [], .row 0 2 []]), (28, [.row 0 2 []]), (29, [.row 0 2 []]), (50, [.row 0 2 []]),
  (51, [.int .u64 0]), (55, [.int .u64 0]), (72, [.row 0 2 []]), (73, [.row 0 2 []]), (95, [.row 0 2 [], .int .i64 0, .int .u64 0]), (113, [.int .i64 0, .int .u64 0]),
  (121, [.row 0 2 []]), (123, [.row 0 2 [], .row 0 2 []]), (126, [.int .i64 0, .row 0 2 []]), (192, [.int .i64 0]), (198, [.int .u32 0]), (205, [.int .u64 0])]
  eqs := [(113, [0, 0])]
  bl := [(4, ())]
  st := [(9, ())]
  flat := [(2, ()), (3, ()), (4, ()), (5, ()), (9, ()), (51, ()), (55, ()), (113, ()), (192, ()), (198, ()), (205, ())]
def tLive : List (Nat × List (Nat × List Nat)) := [(3, [(0, [1, 5, 6, 7, 8, 9, 10, 13]), (2, [1, 16, 20, 125, 126, 127])]), (4, [(0, [1, 5, 6, 7, 18, 19])]), (5, [(0, [1, 5, 6, 7, 11]), (2, [1, 5, 6, 7, 11, 12, 13, 15, 16, 94, 95, 96])]),
  (6, [(0, [1, 5, 7, 8, 9, 10, 14, 15]), (2, [1, 5, 7, 8, 9, 10, 14, 15, 18, 21, 22, 144, 145])]), (11, [(0, [1, 2, 3, 4, 33, 34, 35])]), (17, [(0, [0, 1, 12, 13])]),
  (18, [(0, [2, 7, 8, 9, 10, 11])]), (23, [(0, [8, 9, 31, 32, 33])]), (24, [(0, [7, 8, 37, 38, 39]), (2, [7, 8, 37, 38, 39, 50, 51, 52])]),
  (25, [(0, [0, 1, 12, 13])]), (27, [(0, [3, 6, 7, 8])]), (29, [(0, [0, 1, 12, 13])]),
  (31, [(0, [1, 2, 6, 7, 19, 20, 21])]), (32, [(0, [1, 2, 6, 7, 17, 18, 19])]), (35, [(0, [2, 5, 6, 7, 8])]),
  (37, [(0, [1, 3, 8, 9])]), (39, [(0, [2, 5, 6, 7, 8, 9])]), (40, [(0, [1, 3, 9, 10, 26, 27, 28])]),
  (41, [(0, [1, 3, 9, 10, 29, 30, 31])]), (42, [(0, [0, 1, 12, 13])]), (43, [(0, [0, 1, 12, 13])]),
  (45, [(0, [1, 18, 19, 20])]), (46, [(0, [1, 2, 6, 15, 16, 17])]), (47, [(0, [1, 7, 8, 9])]),
  (64, [(0, [0, 2, 3, 4])]), (65, [(0, [0, 4, 7, 8])]), (66, [(0, [0, 1, 7, 8])]),
  (75, [(0, [2, 3, 4, 11, 12, 13])]), (79, [(0, [1, 2, 5, 6, 17, 18, 19]), (2, [2, 5, 6, 28, 29, 30]), (4, [2, 5, 6, 10, 28, 29, 30, 36, 37])]), (80, [(0, [2, 10, 11, 12])]),
  (81, [(0, [1, 2, 5, 14, 15, 16]), (2, [2, 5, 25, 26, 27]), (4, [2, 5, 9, 25, 26, 27, 33, 34])]), (82, [(0, [0, 1, 7, 33, 34, 35])]), (86, [(0, [1, 2, 5, 6])]),
  (88, [(0, [1, 7, 8, 9])]), (96, [(0, [1, 7, 8, 9])]), (98, [(0, [3, 7, 8, 9])]),
  (100, [(0, [0, 3]), (2, [0, 3, 4, 5])]), (102, [(0, [3, 6, 7, 8])]), (103, [(0, [0, 1, 5])]),
  (108, [(0, [2, 3, 7, 13, 14, 15])]), (112, [(0, [0, 3, 9, 10, 11]), (2, [6, 25, 26, 27])]), (117, [(0, [1, 2, 5, 9, 10])]),
  (118, [(0, [1, 2, 5, 6, 14, 15, 16])]), (123, [(0, [1, 2, 9, 10, 11])]), (131, [(0, [2, 3, 13, 14, 15])]),
  (132, [(0, [2, 3, 21, 22, 23])]), (134, [(0, [1, 2, 5, 9, 10, 11])]), (138, [(0, [1, 3, 7, 12, 13, 14])]),
  (139, [(0, [1, 2, 5, 9, 10])]), (140, [(0, [1, 7, 8, 9])]), (141, [(0, [1, 3, 7, 11, 12, 13])]),
  (142, [(0, [0, 1, 12, 13])]), (143, [(0, [0, 1, 7, 8, 9])]), (145, [(0, [0, 1, 2, 9, 10, 11])]),
  (148, [(0, [0, 1, 12, 13])]), (150, [(0, [0, 1, 2, 6, 7, 8])]), (152, [(0, [0, 1, 7, 8])]),
  (155, [(0, [0, 1, 7, 27, 28, 29]), (2, [0, 1, 7, 10, 11, 12, 27, 28, 29])]), (159, [(0, [0, 1, 12, 13])]), (160, [(0, [1, 2, 3, 8, 14, 15]), (2, [2, 3, 8, 31, 32, 33])]),
  (161, [(0, [0, 1, 7, 8, 9])]), (162, [(0, [1, 2, 3, 8, 9]), (2, [2, 3, 8, 30, 31, 32])]), (166, [(0, [1, 2, 5, 6])]),
  (168, [(0, [0, 1, 7, 8])]), (169, [(0, [0, 1, 7, 8])]), (170, [(0, [0, 1, 2, 3, 8, 9])]),
  (173, [(0, [0, 2, 7, 12, 13, 14])]), (176, [(0, [2, 5, 8, 9, 10])]), (177, [(0, [0, 1, 3])]),
  (178, [(0, [0, 1, 2, 7, 8])]), (179, [(0, [0, 7, 8, 9])]), (180, [(0, [1, 3, 7, 18, 19, 20])]),
  (181, [(0, [0, 1, 7, 8])]), (184, [(0, [1, 2, 5, 6])]), (187, [(0, [0, 1, 2, 6, 7, 8])]),
  (191, [(0, [3, 4, 5, 10, 30, 31, 32])]), (192, [(0, [0, 1, 12, 13])]), (193, [(0, [0, 1, 2, 3, 26, 27, 28]), (2, [0, 1, 3, 12, 38, 39, 40])]),
  (195, [(0, [0, 1, 2, 6]), (2, [0, 1, 2, 6, 7])]), (196, [(0, [0, 6, 7, 8, 9]), (2, [0, 6, 7, 10])]), (197, [(0, [0, 1, 6, 7, 8, 9])]),
  (199, [(0, [0, 6, 7])]), (200, [(0, [0, 1, 2, 7, 8]), (2, [0, 1, 2, 7, 8]), (4, [0, 1, 2, 7, 8, 9]), (6, [0, 1, 2, 7, 8, 10])]), (202, [(0, [0, 1, 9, 10]), (2, [0, 1, 9, 10]), (4, [0, 1, 9, 10])]),
  (203, [(0, [0, 1, 10, 11]), (2, [0, 1, 10, 11]), (4, [0, 1, 10, 11]), (6, [0, 1, 10, 11]), (8, [0, 1, 10, 11])]), (211, [(0, [0, 1, 5, 6])]), (213, [(0, [0, 5, 8])]),
  (215, [(0, [0, 2, 3, 8])]), (221, [(0, [0, 1, 7, 8])]), (226, [(0, [0, 3, 4])]),
  (228, [(0, [0, 1, 2, 3])]), (233, [(0, [2, 8, 9, 10, 11, 13, 14, 15, 16]), (2, [2, 8, 9, 10, 14, 15, 16, 17, 18])])]
def tRk : List (Nat × List RK) := [(3, [.c (.p (.bool))]), (4, [.c (.p (.bool))]), (5, [.c (.p (.bool))]), (6, [.c (.p (.bool))]), (7, [.c (.p (.bool))]), (8, [.c (.p (.bool))]),
  (9, [.agg [.p (.int .i64), .p (.int .i64), .p (.row 2), .p (.row 2)], .c (.p (.row 0)), .c (.p (.row 0)), .c (.p (.row 0))]), (10, [.c (.p (.int .i64)), .c (.p (.bool))]), (11, [.c (.p (.int .i64)), .c (.p (.bool))]), (12, [.c (.p (.bool)), .c (.p (.bool))]), (13, [.agg [.p (.int .i64), .p (.int .i64), .p (.row 2), .p (.row 2)], .c (.p (.row 0))]), (14, [.c (.p (.row 0)), .c (.p (.bool))]),
  (15, [.c (.p (.row 0)), .c (.p (.bool))]), (16, [.c (.p (.int .i64)), .c (.p (.bool))]), (17, [.c (.p (.bool))]), (18, [.agg [.p (.int .i64), .p (.int .i64), .p (.row 2), .p (.row 2)], .c (.p (.row 2)), .c (.p (.row 0)), .c (.p (.row 0))]), (19, [.c (.p (.bool)), .c (.p (.bool))]), (20, [.agg [.p (.int .i64), .p (.int .i64), .p (.row 2), .p (.row 2)], .c (.p (.int .i64)), .c (.p (.int .i64))]),
  (21, [.c (.p (.bool)), .c (.p (.bool))]), (22, [.c (.p (.bool)), .c (.p (.bool))]), (23, [.c (.p (.row 0)), .c (.p (.row 0)), .c (.p (.bool))]), (24, [.c (.p (.row 0)), .c (.p (.row 0)), .c (.p (.bool))]), (25, [.c (.p (.bool))]), (26, [.c (.p (.int .u64)), .c (.p (.bool))]),
  (27, [.c (.p (.int .i64))]), (28, [.c (.p (.row 0)), .c (.p (.bool))]), (29, [.c (.p (.bool))]), (30, [.agg [.p (.int .i64), .p (.int .i64), .p (.row 2), .p (.row 2)], .c (.p (.row 2))]), (31, [.c (.p (.row 2)), .c (.p (.bool))]), (32, [.c (.p (.row 2)), .c (.p (.bool))]),
  (33, [.c (.p (.bool)), .c (.p (.bool))]), (34, [.c (.p (.row 0)), .c (.p (.bool))]), (35, [.agg [.p (.int .i64), .p (.int .i64), .p (.row 2), .p (.row 2)], .c (.p (.row 0)), .c (.p (.row 2))]), (36, [.c (.p (.row 2)), .c (.p (.bool))]), (37, [.c (.p (.row 2)), .c (.p (.bool))]), (38, [.c (.p (.row 2)), .c (.p (.bool))]),
  (39, [.agg [.p (.int .i64), .p (.int .i64), .p (.row 2), .p (.row 2)], .c (.p (.row 0)), .c (.p (.row 0))]), (40, [.c (.p (.row 0)), .c (.p (.row 0)), .c (.p (.bool))]), (41, [.c (.p (.row 0)), .c (.p (.row 0)), .c (.p (.bool))]), (42, [.c (.p (.bool))]), (43, [.c (.p (.bool))]), (44, [.c (.p (.bool))]),
  (45, [.c (.p (.bool))]), (46, [.c (.p (.row 0)), .c (.p (.bool))]), (47, [.c (.p (.bool))]), (48, [.agg [.p (.int .i64), .p (.int .i64), .p (.row 2), .p (.row 2)], .c (.p (.row 0))]), (49, [.c (.p (.bool)), .c (.p (.bool))]), (50, [.c (.p (.bool)), .c (.p (.bool))]),
  (51, [.c (.p (.row 0)), .c (.p (.bool))]), (52, [.agg [.p (.int .i64), .p (.int .i64), .p (.row 2), .p (.row 2)], .c (.p (.int .i64)), .c (.p (.row 2)), .c (.p (.row 2))]), (53, [.c (.p (.bool)), .c (.p (.bool))]), (54, [.c (.p (.bool)), .c (.p (.bool))]), (55, [.c (.p (.bool)), .c (.p (.bool))]), (56, [.c (.p (.bool)), .c (.p (.bool))]),
  (57, [.agg [.p (.int .i64), .p (.int .i64), .p (.row 2), .p (.row 2)], .c (.p (.int .i64)), .c (.p (.row 0))]), (58, [.c (.p (.row 0)), .c (.p (.bool))]), (59, [.c (.p (.row 0)), .c (.p (.bool))]), (60, [.agg [.p (.int .i64), .p (.int .i64), .p (.row 2), .p (.row 2)], .c (.p (.row 2)), .c (.p (.row 2))]), (61, [.c (.p (.bool)), .c (.p (.bool))]), (62, [.agg [.p (.int .i64), .p (.int .i64), .p (.row 2), .p (.row 2)], .c (.p (.row 2)), .c (.p (.row 2))]),
  (63, [.c (.p (.bool)), .c (.p (.bool))]), (64, [.agg [.p (.int .i64), .p (.int .i64), .p (.row 2), .p (.row 2)]]), (65, [.c (.p (.row 0))]), (66, [.c (.p (.row 0))]), (67, [.c (.p (.bool))]), (68, [.c (.p (.bool))]),
  (69, [.c (.p (.bool))]), (70, [.c (.p (.bool))]), (71, [.c (.p (.int .i64))]), (72, [.c (.p (.bool))]), (73, [.c (.p (.bool))]), (74, [.c (.p (.bool))]),
  (75, [.c (.p (.int .i64))]), (76, [.c (.p (.bool))]), (77, [.c (.p (.bool))]), (78, [.c (.p (.bool))]), (79, [.c (.p (.row 0))]), (80, [.c (.p (.bool))]),
  (81, [.c (.p (.row 0))]), (82, [.c (.p (.bool))]), (83, [.c (.p (.int .i64))]), (84, [.c (.p (.row 2))]), (85, [.c (.p (.bool))]), (86, [.c (.p (.row 0))]),
  (87, [.c (.p (.int .i64))]), (88, [.c (.p (.bool))]), (89, [.c (.p (.bool))]), (90, [.agg [.p (.int .i64), .p (.int .i64), .p (.row 2), .p (.row 2)]]), (91, [.c (.p (.int .i64))]), (92, [.c (.p (.bool))]),
  (93, [.c (.p (.bool))]), (94, [.c (.p (.bool))]), (95, [.c (.p (.bool))]), (96, [.c (.p (.bool))]), (97, [.c (.p (.bool))]), (98, [.c (.own 3 0)]),
  (100, [.c (.p (.row 0))]), (101, [.c (.p (.bool))]), (102, [.c (.p (.row 0))]), (103, [.c (.p (.row 0))]), (104, [.c (.p (.bool))]), (105, [.c (.p (.int .u64))]),
  (106, [.c (.p (.bool))]), (107, [.c (.p (.bool))]), (108, [.c (.p (.row 0))]), (109, [.c (.p (.bool))]), (110, [.c (.p (.row 2)), .c (.p (.bool))]), (111, [.c (.p (.row 2)), .c (.p (.bool))]),
  (112, [.c (.own 113 2)]), (113, [.c (.p (.bool))]), (114, [.c (.p (.row 2)), .c (.p (.bool))]), (115, [.c (.p (.row 2)), .c (.p (.bool))]), (116, [.c (.p (.bool))]), (117, [.c (.p (.row 0))]),
  (118, [.c (.p (.row 0))]), (119, [.c (.p (.int .i64))]), (120, [.c (.p (.bool))]), (121, [.c (.own 113 2)]), (122, [.c (.p (.any))]), (123, [.c (.p (.bool))]),
  (124, [.c (.p (.row 0))]), (125, [.c (.own 51 0)]), (126, [.c (.p (.bool))]), (127, [.c (.p (.row 0)), .c (.p (.bool))]), (128, [.c (.p (.bool))]), (129, [.c (.p (.bool))]),
  (130, [.c (.p (.bool))]), (131, [.c (.p (.bool))]), (132, [.c (.p (.bool))]), (133, [.c (.p (.bool))]), (134, [.c (.p (.row 0))]), (135, [.c (.p (.row 2)), .c (.p (.bool))]),
  (136, [.c (.p (.bool))]), (137, [.c (.p (.bool))]), (138, [.c (.p (.row 0))]), (139, [.c (.p (.row 0))]), (140, [.c (.p (.bool))]), (141, [.c (.p (.row 0))]),
  (142, [.c (.p (.bool))]), (143, [.c (.p (.bool))]), (144, [.c (.p (.int .i64))]), (145, [.c (.p (.bool))]), (146, [.c (.p (.row 2)), .c (.p (.bool))]), (147, [.c (.p (.row 2)), .c (.p (.bool))]),
  (148, [.c (.p (.bool))]), (149, [.c (.p (.int .i64))]), (150, [.agg [.p (.int .i64), .p (.int .i64), .p (.row 2), .own ⟨123, some ⟨1, 126, 2, 0, none⟩⟩ 2]]), (151, [.c (.own 113 2)]), (152, [.c (.p (.int .i64))]), (153, [.c (.p (.bool))]),
  (154, [.c (.p (.bool))]), (155, [.c (.p (.int .i64))]), (156, [.c (.p (.bool))]), (158, [.c (.p (.bool))]), (159, [.c (.p (.bool))]), (160, [.c (.p (.row 2)), .c (.p (.bool))]),
  (161, [.c (.p (.row 0))]), (162, [.c (.p (.row 2)), .c (.p (.bool))]), (163, [.c (.p (.int .i64)), .c (.p (.int .i64)), .c (.p (.int .i64))]), (164, [.c (.p (.bool))]), (165, [.c (.p (.bool))]), (166, [.c (.p (.row 0))]),
  (167, [.c (.p (.int .i64))]), (168, [.c (.p (.int .i64))]), (169, [.c (.p (.int .i64))]), (171, [.c (.p (.int .i64))]), (172, [.c (.p (.bool))]), (173, [.c (.p (.int .u64))]),
  (174, [.c (.own 113 2)]), (175, [.c (.p (.bool))]), (176, [.c (.p (.int .i64))]), (178, [.c (.own 51 0)]), (179, [.c (.p (.bool))]), (180, [.c (.p (.row 0))]),
  (181, [.c (.p (.int .i64))]), (182, [.c (.p (.int .u64))]), (183, [.c (.p (.bool))]), (184, [.c (.p (.int .i64))]), (185, [.c (.p (.int .i64)), .c (.p (.int .i64)), .c (.p (.int .i64))]), (186, [.c (.p (.row 2))]),
  (187, [.agg [.p (.row 2), .own 126 2]]), (188, [.c (.own 113 2)]), (189, [.c (.p (.bool))]), (190, [.c (.p (.bool))]), (191, [.c (.p (.row 2)), .c (.p (.bool))]), (192, [.c (.p (.bool))]),
  (193, [.c (.p (.row 2)), .c (.p (.bool))]), (194, [.c (.p (.bool))]), (198, [.c (.p (.int .i64)), .c (.p (.int .i64))]), (200, [.c (.p (.bool))]), (201, [.c (.p (.bool))]), (202, [.c (.p (.int .i64))]),
  (203, [.c (.p (.int .i64)), .c (.p (.bool))]), (204, [.c (.p (.int .i64))]), (205, [.c (.p (.int .i64))]), (206, [.c (.p (.bool))]), (207, [.c (.p (.bool))]), (208, [.c (.p (.int .u64))]),
  (209, [.c (.p (.int .u64))]), (210, [.c (.p (.bool))]), (211, [.c (.p (.int .u64))]), (212, [.c (.p (.int .u64))]), (213, [.c (.p (.int .i64))]), (214, [.c (.p (.bool))]),
  (216, [.c (.p (.int .u64))]), (217, [.c (.p (.int .u64))]), (218, [.c (.p (.int .i64))]), (219, [.c (.p (.int .i64))]), (220, [.c (.p (.bool))]), (221, [.c (.p (.int .i64))]),
  (222, [.c (.p (.int .u64)), .c (.p (.int .u64)), .c (.p (.bool))]), (223, [.c (.p (.int .u64))]), (224, [.c (.p (.int .u64))]), (225, [.c (.p (.int .i64))]), (226, [.c (.p (.int .u64))]), (227, [.c (.p (.int .u64)), .c (.p (.int .u64)), .c (.p (.bool))]),
  (228, [.c (.p (.int .u64))]), (229, [.c (.p (.int .u64))]), (230, [.c (.p (.int .i64))]), (231, [.c (.p (.int .i64)), .c (.p (.int .i64))]), (232, [.c (.p (.bool))]), (233, [.c (.p (.int .u64)), .c (.p (.int .u64))]),
  (234, [.c (.p (.bool))]), (235, [.c (.p (.int .i64))])]
def tBk : List (Nat × List (List Kind)) := [(64, [[.p (.row 0), .p (.int .i64), .p (.int .u64)]]), (65, [[.p (.row 0), .p (.int .i64), .p (.int .u64)]]), (66, [[.p (.row 0), .p (.int .i64), .p (.int .u64)]]), (69, [[.p (.int .i64), .p (.int .i64), .p (.row 2), .p (.row 2)]]), (84, [[.p (.row 0), .p (.int .i64), .p (.int .u64)]]), (85, [[.p (.row 0), .p (.int .i64), .p (.int .u64)]]),
  (90, [[.p (.row 0), .p (.int .i64), .p (.int .u64)]]), (91, [[.p (.row 0), .p (.int .i64), .p (.int .u64)]]), (93, [[.p (.int .i64)]]), (94, [[.p (.row 0)]]), (120, [[.p (.int .i64), .p (.int .i64), .p (.row 2), .p (.row 2)]]), (124, [[.p (.row 0), .p (.int .i64), .p (.int .u64)]]),
  (129, [[.p (.int .i64), .p (.int .i64), .p (.row 2), .p (.row 2)]]), (130, [[.p (.int .i64), .p (.int .i64), .p (.row 2), .p (.row 2)]]), (149, [[.p (.row 0), .p (.int .i64), .p (.int .u64)]]), (150, [[.p (.row 0), .p (.int .i64), .p (.int .u64)]]), (151, [[.p (.row 0), .p (.int .i64), .p (.int .u64)]]), (154, [[.p (.int .i64), .p (.int .i64), .p (.row 2), .p (.row 2)], [.p (.row 0)], [.p (.row 0)]]),
  (156, [[.p (.int .i64), .p (.int .i64), .p (.row 2), .p (.row 2)]]), (157, [[.p (.row 0)]]), (158, [[.p (.row 2)]]), (165, [[.p (.int .i64)]]), (167, [[.p (.row 0), .p (.int .i64), .p (.int .u64)]]), (168, [[.p (.int .i64)]]),
  (178, [[.p (.row 0), .p (.int .i64), .p (.int .u64)]]), (181, [[.p (.int .i64), .p (.int .i64), .p (.row 2), .p (.row 2)]]), (183, [[.p (.int .i64), .p (.int .i64), .p (.row 2), .p (.row 2)], [.p (.row 2)]]), (187, [[.p (.row 0), .p (.int .i64), .p (.int .u64)]]), (188, [[.p (.row 0), .p (.int .i64), .p (.int .u64)]]), (206, [[.p (.int .i64)]]),
  (207, [[.p (.int .i64)]]), (209, [[.p (.row 0), .p (.int .i64), .p (.int .u64)]]), (214, [[.p (.int .i64)], [.p (.int .i64)]]), (217, [[.p (.int .u64)]]), (218, [[.p (.int .i64)]]), (219, [[.p (.int .i64)]]),
  (221, [[.p (.int .i64)]]), (226, [[.p (.row 0), .p (.int .i64), .p (.int .u64)]]), (231, [[.p (.int .i64)]])]
def tPlain : List (Nat × Unit) := [(3, ()), (4, ()), (5, ()), (6, ()), (7, ()), (8, ()), (10, ()), (11, ()), (12, ()), (16, ()), (17, ()), (19, ()),
  (21, ()), (22, ()), (25, ()), (26, ()), (27, ()), (29, ()), (33, ()), (42, ()), (43, ()), (44, ()), (45, ()), (47, ()),
  (49, ()), (50, ()), (53, ()), (54, ()), (55, ()), (56, ()), (61, ()), (63, ()), (67, ()), (70, ()), (71, ()), (72, ()),
  (73, ()), (74, ()), (75, ()), (76, ()), (77, ()), (78, ()), (80, ()), (82, ()), (83, ()), (87, ()), (88, ()), (89, ()),
  (92, ()), (93, ()), (95, ()), (96, ()), (97, ()), (98, ()), (101, ()), (104, ()), (105, ()), (106, ()), (107, ()), (109, ()),
  (112, ()), (113, ()), (116, ()), (119, ()), (121, ()), (123, ()), (125, ()), (126, ()), (128, ()), (131, ()), (132, ()), (133, ()),
  (136, ()), (137, ()), (140, ()), (142, ()), (143, ()), (144, ()), (145, ()), (148, ()), (153, ()), (155, ()), (159, ()), (163, ()),
  (164, ()), (165, ()), (168, ()), (169, ()), (171, ()), (172, ()), (173, ()), (174, ()), (175, ()), (176, ()), (179, ()), (182, ()),
  (184, ()), (185, ()), (189, ()), (190, ()), (192, ()), (194, ()), (198, ()), (200, ()), (201, ()), (202, ()), (203, ()), (204, ()),
  (205, ()), (206, ()), (207, ()), (208, ()), (210, ()), (211, ()), (212, ()), (213, ()), (214, ()), (216, ()), (217, ()), (218, ()),
  (219, ()), (220, ()), (221, ()), (222, ()), (223, ()), (224, ()), (225, ()), (227, ()), (228, ()), (229, ()), (230, ()), (231, ()),
  (232, ()), (233, ()), (234, ()), (235, ())]
def tCt : List (Nat × CT) := [(2, .one (.int .i64)), (3, .one (.int .i64)), (4, .one (.bool)), (5, .one (.int .u8)), (9, .one (.str)), (22, .one (.row 0)),
  (24, .one (.row 2)), (25, .one (.row 2)), (27, .agg [.int .i64, .int .i64, .row 2, .row 2]), (28, .one (.row 0)), (29, .one (.row 0)), (50, .one (.row 0)),
  (51, .one (.int .u64)), (55, .one (.int .u64)), (72, .one (.row 0)), (73, .one (.row 0)), (95, .agg [.row 0, .int .i64, .int .u64]), (113, .agg [.int .i64, .int .u64]),
  (121, .one (.row 2)), (123, .agg [.row 2, .row 2]), (126, .agg [.int .i64, .row 2]), (192, .one (.int .i64)), (198, .one (.int .u32)), (205, .one (.int .u64))]
def tAk : List (Nat × List CT) := [(3, [.one (.row 0), .one (.row 0)]), (4, [.one (.row 0), .one (.row 0)]), (5, [.one (.row 0), .one (.row 0)]), (6, [.one (.row 0), .one (.row 0)]), (7, [.one (.row 0), .one (.row 0)]), (8, [.one (.row 0), .one (.row 0)]),
  (9, [.one (.row 0)]), (10, [.agg [.int .i64, .int .i64, .row 2, .row 2], .one (.row 0), .one (.row 0), .one (.row 0)]), (11, [.agg [.int .i64, .int .i64, .row 2, .row 2], .one (.row 0), .one (.row 0), .one (.row 0)]), (12, [.agg [.int .i64, .int .i64, .row 2, .row 2], .one (.row 2), .one (.row 0), .one (.row 0)]), (13, [.one (.row 0)]), (14, [.agg [.int .i64, .int .i64, .row 2, .row 2], .one (.row 0)]),
  (15, [.agg [.int .i64, .int .i64, .row 2, .row 2], .one (.row 0)]), (16, [.one (.int .i64), .one (.int .i64), .one (.row 2)]), (17, [.one (.row 2), .one (.row 2)]), (18, [.one (.row 0)]), (19, [.agg [.int .i64, .int .i64, .row 2, .row 2], .one (.row 2), .one (.row 0), .one (.row 0)]), (20, [.one (.row 0)]),
  (21, [.agg [.int .i64, .int .i64, .row 2, .row 2], .one (.int .i64), .one (.int .i64)]), (22, [.agg [.int .i64, .int .i64, .row 2, .row 2], .one (.int .i64), .one (.int .i64)]), (23, [.agg [.int .i64, .int .i64, .row 2, .row 2], .one (.int .i64)]), (24, [.agg [.int .i64, .int .i64, .row 2, .row 2], .one (.int .i64)]), (25, [.one (.row 0), .one (.row 0)]), (26, [.one (.int .i64), .one (.int .u64)]),
  (27, [.one (.row 0)]), (28, [.agg [.int .i64, .int .i64, .row 2, .row 2], .one (.row 0), .one (.int .i64)]), (29, [.one (.row 0), .one (.row 0)]), (30, [.one (.row 0)]), (31, [.agg [.int .i64, .int .i64, .row 2, .row 2], .one (.row 2)]), (32, [.agg [.int .i64, .int .i64, .row 2, .row 2], .one (.row 2)]),
  (33, [.agg [.int .i64, .int .i64, .row 2, .row 2], .one (.row 2), .one (.int .i64)]), (34, [.agg [.int .i64, .int .i64, .row 2, .row 2], .one (.int .i64)]), (35, [.one (.row 0)]), (36, [.agg [.int .i64, .int .i64, .row 2, .row 2], .one (.row 0), .one (.row 2)]), (37, [.agg [.int .i64, .int .i64, .row 2, .row 2], .one (.row 0), .one (.row 2)]), (38, [.agg [.int .i64, .int .i64, .row 2, .row 2], .one (.int .i64), .one (.row 2)]),
  (39, [.one (.row 0)]), (40, [.agg [.int .i64, .int .i64, .row 2, .row 2], .one (.row 0), .one (.row 0)]), (41, [.agg [.int .i64, .int .i64, .row 2, .row 2], .one (.row 0), .one (.row 0)]), (42, [.one (.row 0), .one (.row 0)]), (43, [.one (.row 0), .one (.row 0)]), (44, [.agg [.int .i64, .int .i64, .row 2, .row 2]]),
  (45, [.agg [.int .i64, .int .i64, .row 2, .row 2]]), (46, [.agg [.int .i64, .int .i64, .row 2, .row 2], .one (.row 0)]), (47, [.one (.row 0), .one (.int .i64)]), (48, [.one (.row 0)]), (49, [.agg [.int .i64, .int .i64, .row 2, .row 2], .one (.row 0)]), (50, [.agg [.int .i64, .int .i64, .row 2, .row 2], .one (.row 0)]),
  (51, [.agg [.int .i64, .int .i64, .row 2, .row 2], .one (.row 0)]), (52, [.one (.row 0)]), (53, [.agg [.int .i64, .int .i64, .row 2, .row 2], .one (.int .i64), .one (.row 2), .one (.row 2)]), (54, [.agg [.int .i64, .int .i64, .row 2, .row 2], .one (.int .i64), .one (.row 2), .one (.row 2)]), (55, [.agg [.int .i64, .int .i64, .row 2, .row 2], .one (.row 2), .one (.row 2)]), (56, [.agg [.int .i64, .int .i64, .row 2, .row 2], .one (.row 2), .one (.row 2)]),
  (57, [.one (.row 0)]), (58, [.agg [.int .i64, .int .i64, .row 2, .row 2], .one (.int .i64), .one (.row 0)]), (59, [.agg [.int .i64, .int .i64, .row 2, .row 2], .one (.int .i64), .one (.row 0)]), (60, [.one (.row 0)]), (61, [.agg [.int .i64, .int .i64, .row 2, .row 2], .one (.row 2), .one (.row 2)]), (62, [.one (.row 0)]),
  (63, [.agg [.int .i64, .int .i64, .row 2, .row 2], .one (.row 2), .one (.row 2)]), (64, [.one (.any)]), (65, [.one (.any), .agg [.int .i64, .int .i64, .row 2, .row 2], .one (.int .i64)]), (66, [.one (.any), .one (.int .i64), .one (.int .i64)]), (67, [.agg [.int .i64, .int .i64, .row 2, .row 2], .one (.row 0), .one (.row 0)]), (68, [.one (.row 0), .one (.any)]),
  (69, [.one (.row 2)]), (70, [.agg [.int .i64, .int .i64, .row 2, .row 2], .one (.row 2)]), (71, [.agg [.int .i64, .int .i64, .row 2, .row 2], .one (.row 0), .one (.row 0), .one (.row 0)]), (72, [.agg [.int .i64, .int .i64, .row 2, .row 2]]), (73, [.agg [.int .i64, .int .i64, .row 2, .row 2], .one (.row 0)]), (74, [.agg [.int .i64, .int .i64, .row 2, .row 2], .one (.row 2)]),
  (75, [.agg [.int .i64, .int .i64, .row 2, .row 2], .one (.row 0), .one (.row 0), .one (.row 0)]), (76, [.agg [.int .i64, .int .i64, .row 2, .row 2], .one (.row 2), .one (.row 0), .one (.row 0)]), (77, [.agg [.int .i64, .int .i64, .row 2, .row 2]]), (78, [.agg [.int .i64, .int .i64, .row 2, .row 2], .one (.row 0), .one (.int .i64)]), (79, [.agg [.int .i64, .int .i64, .row 2, .row 2], .one (.row 0)]), (80, [.agg [.int .i64, .int .i64, .row 2, .row 2], .one (.row 0)]),
  (81, [.agg [.int .i64, .int .i64, .row 2, .row 2], .one (.row 0)]), (82, [.one (.int .i64), .one (.int .i64), .one (.row 2)]), (83, [.one (.row 2)]), (84, [.one (.any), .agg [.int .i64, .int .i64, .row 2, .row 2], .one (.int .i64)]), (85, [.one (.any), .one (.int .i64)]), (86, [.agg [.int .i64, .int .i64, .row 2, .row 2], .one (.row 2)]),
  (87, [.agg [.int .i64, .int .i64, .row 2, .row 2]]), (88, [.one (.row 0), .one (.int .i64)]), (89, [.agg [.int .i64, .int .i64, .row 2, .row 2], .one (.row 2), .one (.row 0), .one (.row 0)]), (90, [.one (.any)]), (91, [.one (.any), .one (.int .i64)]), (92, [.one (.row 0), .one (.row 0)]),
  (93, [.one (.row 0), .one (.any)]), (94, [.one (.int .i64)]), (95, [.one (.row 0), .one (.int .i64)]), (96, [.one (.row 0), .one (.row 0)]), (97, [.agg [.int .i64, .int .i64, .row 2, .row 2], .one (.int .i64)]), (98, [.one (.row 2)]),
  (99, [.one (.row 0)]), (100, [.one (.row 0)]), (101, [.one (.int .i64), .one (.int .i64), .one (.int .i64)]), (102, [.one (.row 2)]), (103, [.one (.row 0), .one (.int .i64)]), (104, [.one (.int .i64)]),
  (105, [.one (.int .i64)]), (106, [.agg [.int .i64, .int .i64, .row 2, .row 2], .one (.row 0)]), (107, [.agg [.int .i64, .int .i64, .row 2, .row 2], .one (.row 2), .one (.row 0)]), (108, [.agg [.int .i64, .int .i64, .row 2, .row 2], .agg [.row 2, .row 2], .one (.row 0)]), (109, [.agg [.int .i64, .int .i64, .row 2, .row 2], .one (.int .i64), .one (.row 2)]), (110, [.agg [.int .i64, .int .i64, .row 2, .row 2], .one (.int .i64), .one (.row 2)]),
  (111, [.one (.int .i64), .one (.int .i64), .one (.row 2)]), (112, [.one (.row 0)]), (113, [.agg [.int .i64, .int .i64, .row 2, .row 2], .one (.int .i64), .one (.row 2)]), (114, [.agg [.int .i64, .int .i64, .row 2, .row 2], .one (.int .i64), .one (.row 2)]), (115, [.one (.int .i64), .one (.int .i64), .one (.row 2)]), (116, [.agg [.int .i64, .int .i64, .row 2, .row 2], .one (.int .i64)]),
  (117, [.agg [.int .i64, .int .i64, .row 2, .row 2], .one (.int .i64)]), (118, [.agg [.int .i64, .int .i64, .row 2, .row 2], .one (.int .i64)]), (119, [.one (.int .i64)]), (120, [.one (.int .i64)]), (121, [.one (.row 2)]), (122, [.one (.row 0)]),
  (123, [.one (.row 0), .one (.int .i64), .one (.int .i64)]), (124, [.one (.any), .agg [.int .i64, .int .i64, .row 2, .row 2]]), (125, [.one (.row 0)]), (126, [.agg [.int .i64, .int .i64, .row 2, .row 2], .one (.row 0)]), (127, [.agg [.int .i64, .int .i64, .row 2, .row 2], .one (.row 0), .one (.int .i64)]), (128, [.one (.int .i64)]),
  (129, [.one (.row 2), .one (.any)]), (130, [.agg [.row 2, .row 2]]), (131, [.agg [.int .i64, .int .i64, .row 2, .row 2], .agg [.row 2, .row 2]]), (132, [.agg [.int .i64, .int .i64, .row 2, .row 2], .agg [.row 2, .row 2]]), (133, [.agg [.int .i64, .int .i64, .row 2, .row 2], .one (.row 2), .one (.row 0)]), (134, [.agg [.int .i64, .int .i64, .row 2, .row 2], .one (.row 0)]),
  (135, [.agg [.int .i64, .int .i64, .row 2, .row 2], .one (.int .i64), .one (.row 2)]), (136, [.agg [.int .i64, .int .i64, .row 2, .row 2], .one (.row 2), .one (.row 2)]), (137, [.agg [.int .i64, .int .i64, .row 2, .row 2], .one (.row 2), .one (.row 0)]), (138, [.agg [.int .i64, .int .i64, .row 2, .row 2], .one (.int .i64), .one (.row 0)]), (139, [.agg [.int .i64, .int .i64, .row 2, .row 2], .one (.row 2)]), (140, [.one (.row 0), .one (.row 0)]),
  (141, [.agg [.int .i64, .int .i64, .row 2, .row 2], .one (.int .i64), .one (.row 0)]), (142, [.one (.row 0), .one (.row 0)]), (143, [.one (.row 0), .one (.int .i64)]), (144, [.agg [.int .i64, .int .i64, .row 2, .row 2]]), (145, [.one (.row 0), .one (.int .i64), .one (.int .i64)]), (146, [.one (.int .i64), .one (.int .i64), .one (.int .i64), .one (.row 2), .one (.row 2)]),
  (147, [.one (.int .i64), .one (.int .i64), .one (.row 2)]), (148, [.one (.row 0), .one (.row 0)]), (149, [.one (.any), .one (.row 0)]), (150, [.one (.any), .one (.int .i64), .one (.int .i64)]), (151, [.one (.any), .one (.int .i64), .one (.int .i64), .one (.int .i64)]), (152, [.one (.row 0), .one (.any)]),
  (153, [.one (.int .i64), .one (.int .i64), .one (.row 2), .one (.int .i64)]), (154, [.one (.row 2)]), (155, [.one (.int .i64), .one (.int .i64), .one (.row 2)]), (156, [.one (.row 2)]), (157, [.one (.row 2)]), (158, [.one (.row 2)]),
  (159, [.one (.row 2), .one (.row 2)]), (160, [.agg [.int .i64, .int .i64, .row 2, .row 2], .one (.int .i64), .one (.row 2)]), (161, [.one (.row 0), .one (.row 2)]), (162, [.agg [.int .i64, .int .i64, .row 2, .row 2], .one (.int .i64), .one (.row 2)]), (163, [.one (.int .i64)]), (164, [.one (.int .i64), .one (.int .i64), .agg [.int .i64, .int .u64]]),
  (165, [.one (.int .i64)]), (166, [.agg [.int .i64, .int .i64, .row 2, .row 2], .one (.int .i64)]), (167, [.one (.any)]), (168, [.one (.row 0), .one (.any)]), (169, [.one (.row 0), .one (.int .i64)]), (170, [.one (.row 0), .one (.int .i64), .one (.int .i64), .one (.int .i64)]),
  (171, [.one (.int .u64)]), (172, [.one (.int .i64), .one (.int .i64), .one (.row 0)]), (173, [.one (.int .i64), .one (.row 2), .one (.row 0)]), (174, [.one (.any), .one (.int .i64)]), (175, [.one (.int .i64), .one (.int .i64), .one (.row 2)]), (176, [.agg [.int .i64, .int .i64, .row 2, .row 2], .one (.row 0)]),
  (177, [.one (.any)]), (178, [.one (.any), .one (.int .i64), .one (.int .i64)]), (179, [.one (.int .i64), .one (.row 0)]), (180, [.agg [.int .i64, .int .i64, .row 2, .row 2], .one (.row 0), .one (.int .i64)]), (181, [.one (.row 2), .one (.any)]), (182, [.one (.int .i64), .one (.row 2), .one (.int .i64), .one (.row 0)]),
  (183, [.one (.int .i64)]), (184, [.agg [.int .i64, .int .i64, .row 2, .row 2], .one (.row 0)]), (185, [.one (.int .i64)]), (186, [.one (.int .i64), .one (.row 2), .one (.int .i64)]), (187, [.one (.any), .one (.int .i64), .one (.int .i64)]), (188, [.one (.any), .one (.int .i64), .one (.int .i64), .one (.int .i64)]),
  (189, [.one (.int .i64)]), (190, [.one (.int .i64), .one (.int .i64), .agg [.int .i64, .int .u64]]), (191, [.one (.int .i64), .one (.int .i64), .one (.row 2), .one (.row 0)]), (192, [.one (.row 2), .one (.row 2)]), (193, [.one (.int .i64), .one (.int .i64), .one (.row 2), .one (.row 0)]), (194, [.one (.int .i64), .one (.int .u64)]),
  (195, [.one (.row 0), .one (.int .i64), .one (.int .i64)]), (196, [.one (.row 0), .one (.int .i64), .one (.int .i64)]), (197, [.one (.row 0), .one (.int .i64), .one (.int .i64)]), (198, [.one (.row 0), .one (.int .i64), .one (.int .i64)]), (199, [.one (.row 0), .one (.int .i64), .one (.int .i64)]), (200, [.one (.row 0), .one (.int .i64), .one (.int .i64)]),
  (201, [.one (.int .i64), .one (.int .i64)]), (202, [.one (.row 0), .one (.int .i64), .one (.int .i64), .one (.int .i64)]), (203, [.one (.row 0), .one (.int .i64), .one (.int .i64), .one (.int .i64)]), (204, [.one (.int .u32)]), (205, [.one (.int .u64)]), (206, [.one (.row 0), .one (.any)]),
  (207, [.one (.int .u64)]), (208, [.one (.int .i64), .one (.int .i64), .one (.int .u64), .one (.int .u64)]), (209, [.one (.any), .one (.int .i64)]), (210, [.one (.int .i64), .one (.int .u64)]), (211, [.one (.int .i64), .one (.int .u64)]), (212, [.one (.int .i64), .one (.int .i64), .one (.int .u64), .one (.int .u64)]),
  (213, [.one (.row 2), .one (.int .i64)]), (214, [.one (.row 2)]), (215, [.one (.row 0), .one (.int .i64), .one (.int .i64), .one (.int .i64)]), (216, [.one (.int .i64)]), (217, [.one (.any)]), (218, [.one (.row 0), .one (.int .i64), .one (.any)]),
  (219, [.one (.row 0), .one (.int .i64), .one (.int .i64), .one (.int .i64), .one (.any)]), (220, [.one (.int .i64)]), (221, [.one (.row 0), .one (.any)]), (222, [.one (.int .i64), .one (.int .u64), .one (.int .u64)]), (223, [.one (.int .i64), .one (.int .u64), .one (.int .u64), .one (.bool)]), (224, [.one (.bool)]),
  (225, [.one (.int .i64), .one (.int .u64)]), (226, [.one (.any)]), (227, [.one (.int .i64), .one (.int .u64), .one (.int .u64)]), (228, [.one (.int .i64), .one (.int .u64), .one (.int .u64), .one (.bool)]), (229, [.one (.bool)]), (230, [.one (.int .i64), .one (.int .u64)]),
  (231, [.one (.row 0), .one (.int .i64), .one (.int .i64), .one (.any)]), (232, [.one (.int .i64), .one (.int .u64), .one (.int .u64)]), (233, [.one (.int .u64), .one (.int .u64), .one (.int .u64)]), (234, [.one (.int .i64), .one (.int .u64), .one (.int .u64)]), (235, [.one (.int .u64)])]
def tOwn : List (Nat × List (Nat × List (Option Nat × Nat × Et × Nat))) := [(39, [(0, [(none, 9, 3, 0), (some 0, 2, 0, 2), (some 0, 3, 0, 2)])]), (41, [(0, [(none, 9, 50, 0), (none, 10, 4, 0)])]), (64, [(0, [(some 1, 2, 0, 2), (some 1, 3, 0, 2)])]),
  (134, [(0, [(none, 5, 3, 0)])]), (150, [(0, [(some 1, 2, 0, 2), (some 1, 3, 0, 2), (some 2, 3, ⟨123, some ⟨1, 126, 2, 0, none⟩⟩, 2)])]), (155, [(0, [(none, 7, 3, 0)])]),
  (178, [(0, [(none, 7, 51, 0)])]), (187, [(0, [(some 1, 0, 0, 2), (some 1, 1, 0, 2), (some 2, 1, 126, 2)])])]
def tCut : List (Nat × List (Nat × List Nat)) := []
def tNest : List (Nat × Kd) := [(25, ⟨1, 126, 2, 0, none⟩)]
def tSorts : List (Nat × Nat) := [(99, 1), (100, 2)]
theorem sortsOK : ∀ g n, (g, n) ∈ tSorts → SortOK Tryz.prog n g := by
  intro g n h
  simp only [tSorts, List.mem_cons, Prod.mk.injEq, List.not_mem_nil, or_false] at h
  rcases h with ⟨rfl, rfl⟩ | ⟨rfl, rfl⟩
  · exact sort_ok
  · exact comp_ok
noncomputable def E : Env := tabs.env tLive tRk tBk tPlain tCt tAk tOwn tCut tNest tSorts
theorem envOK : EnvOK Tryz.prog E := Tabs.sound (by kernel_rfl) sortsOK
noncomputable def pTab : List (Nat × Func) := [(2, Tryz.f2), (3, Tryz.f3), (4, Tryz.f4), (5, Tryz.f5), (6, Tryz.f6), (7, Tryz.f7), (8, Tryz.f8), (9, Tryz.f9), (10, Tryz.f10), (11, Tryz.f11), (12, Tryz.f12), (13, Tryz.f13),
  (14, Tryz.f14), (15, Tryz.f15), (16, Tryz.f16), (17, Tryz.f17), (18, Tryz.f18), (19, Tryz.f19), (20, Tryz.f20), (21, Tryz.f21), (22, Tryz.f22), (23, Tryz.f23), (24, Tryz.f24), (25, Tryz.f25),
  (26, Tryz.f26), (27, Tryz.f27), (28, Tryz.f28), (29, Tryz.f29), (30, Tryz.f30), (31, Tryz.f31), (32, Tryz.f32), (33, Tryz.f33), (34, Tryz.f34), (35, Tryz.f35), (36, Tryz.f36), (37, Tryz.f37),
  (38, Tryz.f38), (39, Tryz.f39), (40, Tryz.f40), (41, Tryz.f41), (42, Tryz.f42), (43, Tryz.f43), (44, Tryz.f44), (45, Tryz.f45), (46, Tryz.f46), (47, Tryz.f47), (48, Tryz.f48), (49, Tryz.f49),
  (50, Tryz.f50), (51, Tryz.f51), (52, Tryz.f52), (53, Tryz.f53), (54, Tryz.f54), (55, Tryz.f55), (56, Tryz.f56), (57, Tryz.f57), (58, Tryz.f58), (59, Tryz.f59), (60, Tryz.f60), (61, Tryz.f61),
  (62, Tryz.f62), (63, Tryz.f63), (64, Tryz.f64), (65, Tryz.f65), (66, Tryz.f66), (67, Tryz.f67), (68, Tryz.f68), (69, Tryz.f69), (70, Tryz.f70), (71, Tryz.f71), (72, Tryz.f72), (73, Tryz.f73),
  (74, Tryz.f74), (75, Tryz.f75), (76, Tryz.f76), (77, Tryz.f77), (78, Tryz.f78), (79, Tryz.f79), (80, Tryz.f80), (81, Tryz.f81), (82, Tryz.f82), (83, Tryz.f83), (84, Tryz.f84), (85, Tryz.f85),
  (86, Tryz.f86), (87, Tryz.f87), (88, Tryz.f88), (89, Tryz.f89), (90, Tryz.f90), (91, Tryz.f91), (92, Tryz.f92), (93, Tryz.f93), (94, Tryz.f94), (95, Tryz.f95), (96, Tryz.f96), (97, Tryz.f97),
  (98, Tryz.f98), (99, Tryz.f99), (100, Tryz.f100), (101, Tryz.f101), (102, Tryz.f102), (103, Tryz.f103), (104, Tryz.f104), (105, Tryz.f105), (106, Tryz.f106), (107, Tryz.f107), (108, Tryz.f108), (109, Tryz.f109),
  (110, Tryz.f110), (111, Tryz.f111), (112, Tryz.f112), (113, Tryz.f113), (114, Tryz.f114), (115, Tryz.f115), (116, Tryz.f116), (117, Tryz.f117), (118, Tryz.f118), (119, Tryz.f119), (120, Tryz.f120), (121, Tryz.f121),
  (122, Tryz.f122), (123, Tryz.f123), (124, Tryz.f124), (125, Tryz.f125), (126, Tryz.f126), (127, Tryz.f127), (128, Tryz.f128), (129, Tryz.f129), (130, Tryz.f130), (131, Tryz.f131), (132, Tryz.f132), (133, Tryz.f133),
  (134, Tryz.f134), (135, Tryz.f135), (136, Tryz.f136), (137, Tryz.f137), (138, Tryz.f138), (139, Tryz.f139), (140, Tryz.f140), (141, Tryz.f141), (142, Tryz.f142), (143, Tryz.f143), (144, Tryz.f144), (145, Tryz.f145),
  (146, Tryz.f146), (147, Tryz.f147), (148, Tryz.f148), (149, Tryz.f149), (150, Tryz.f150), (151, Tryz.f151), (152, Tryz.f152), (153, Tryz.f153), (154, Tryz.f154), (155, Tryz.f155), (156, Tryz.f156), (157, Tryz.f157),
  (158, Tryz.f158), (159, Tryz.f159), (160, Tryz.f160), (161, Tryz.f161), (162, Tryz.f162), (163, Tryz.f163), (164, Tryz.f164), (165, Tryz.f165), (166, Tryz.f166), (167, Tryz.f167), (168, Tryz.f168), (169, Tryz.f169),
  (170, Tryz.f170), (171, Tryz.f171), (172, Tryz.f172), (173, Tryz.f173), (174, Tryz.f174), (175, Tryz.f175), (176, Tryz.f176), (177, Tryz.f177), (178, Tryz.f178), (179, Tryz.f179), (180, Tryz.f180), (181, Tryz.f181),
  (182, Tryz.f182), (183, Tryz.f183), (184, Tryz.f184), (185, Tryz.f185), (186, Tryz.f186), (187, Tryz.f187), (188, Tryz.f188), (189, Tryz.f189), (190, Tryz.f190), (191, Tryz.f191), (192, Tryz.f192), (193, Tryz.f193),
  (194, Tryz.f194), (195, Tryz.f195), (196, Tryz.f196), (197, Tryz.f197), (198, Tryz.f198), (199, Tryz.f199), (200, Tryz.f200), (201, Tryz.f201), (202, Tryz.f202), (203, Tryz.f203), (204, Tryz.f204), (205, Tryz.f205),
  (206, Tryz.f206), (207, Tryz.f207), (208, Tryz.f208), (209, Tryz.f209), (210, Tryz.f210), (211, Tryz.f211), (212, Tryz.f212), (213, Tryz.f213), (214, Tryz.f214), (215, Tryz.f215), (216, Tryz.f216), (217, Tryz.f217),
  (218, Tryz.f218), (219, Tryz.f219), (220, Tryz.f220), (221, Tryz.f221), (222, Tryz.f222), (223, Tryz.f223), (224, Tryz.f224), (225, Tryz.f225), (226, Tryz.f226), (227, Tryz.f227), (228, Tryz.f228), (229, Tryz.f229),
  (230, Tryz.f230), (231, Tryz.f231), (232, Tryz.f232), (233, Tryz.f233), (234, Tryz.f234), (235, Tryz.f235)]
noncomputable def P : FuncId → Option Func := lk pTab
theorem pOK : PfOK Tryz.prog P := pfOK_of (tab := pTab)
  (pfOK_cons Tryz.func2 (pfOK_cons Tryz.func3 (pfOK_cons Tryz.func4 (pfOK_cons Tryz.func5 (pfOK_cons Tryz.func6 (pfOK_cons Tryz.func7 (pfOK_cons Tryz.func8 (pfOK_cons Tryz.func9 
  (pfOK_cons Tryz.func10 (pfOK_cons Tryz.func11 (pfOK_cons Tryz.func12 (pfOK_cons Tryz.func13 (pfOK_cons Tryz.func14 (pfOK_cons Tryz.func15 (pfOK_cons Tryz.func16 (pfOK_cons Tryz.func17 
  (pfOK_cons Tryz.func18 (pfOK_cons Tryz.func19 (pfOK_cons Tryz.func20 (pfOK_cons Tryz.func21 (pfOK_cons Tryz.func22 (pfOK_cons Tryz.func23 (pfOK_cons Tryz.func24 (pfOK_cons Tryz.func25 
  (pfOK_cons Tryz.func26 (pfOK_cons Tryz.func27 (pfOK_cons Tryz.func28 (pfOK_cons Tryz.func29 (pfOK_cons Tryz.func30 (pfOK_cons Tryz.func31 (pfOK_cons Tryz.func32 (pfOK_cons Tryz.func33 
  (pfOK_cons Tryz.func34 (pfOK_cons Tryz.func35 (pfOK_cons Tryz.func36 (pfOK_cons Tryz.func37 (pfOK_cons Tryz.func38 (pfOK_cons Tryz.func39 (pfOK_cons Tryz.func40 (pfOK_cons Tryz.func41 
  (pfOK_cons Tryz.func42 (pfOK_cons Tryz.func43 (pfOK_cons Tryz.func44 (pfOK_cons Tryz.func45 (pfOK_cons Tryz.func46 (pfOK_cons Tryz.func47 (pfOK_cons Tryz.func48 (pfOK_cons Tryz.func49 
  (pfOK_cons Tryz.func50 (pfOK_cons Tryz.func51 (pfOK_cons Tryz.func52 (pfOK_cons Tryz.func53 (pfOK_cons Tryz.func54 (pfOK_cons Tryz.func55 (pfOK_cons Tryz.func56 (pfOK_cons Tryz.func57 
  (pfOK_cons Tryz.func58 (pfOK_cons Tryz.func59 (pfOK_cons Tryz.func60 (pfOK_cons Tryz.func61 (pfOK_cons Tryz.func62 (pfOK_cons Tryz.func63 (pfOK_cons Tryz.func64 (pfOK_cons Tryz.func65 
  (pfOK_cons Tryz.func66 (pfOK_cons Tryz.func67 (pfOK_cons Tryz.func68 (pfOK_cons Tryz.func69 (pfOK_cons Tryz.func70 (pfOK_cons Tryz.func71 (pfOK_cons Tryz.func72 (pfOK_cons Tryz.func73 
  (pfOK_cons Tryz.func74 (pfOK_cons Tryz.func75 (pfOK_cons Tryz.func76 (pfOK_cons Tryz.func77 (pfOK_cons Tryz.func78 (pfOK_cons Tryz.func79 (pfOK_cons Tryz.func80 (pfOK_cons Tryz.func81 
  (pfOK_cons Tryz.func82 (pfOK_cons Tryz.func83 (pfOK_cons Tryz.func84 (pfOK_cons Tryz.func85 (pfOK_cons Tryz.func86 (pfOK_cons Tryz.func87 (pfOK_cons Tryz.func88 (pfOK_cons Tryz.func89 
  (pfOK_cons Tryz.func90 (pfOK_cons Tryz.func91 (pfOK_cons Tryz.func92 (pfOK_cons Tryz.func93 (pfOK_cons Tryz.func94 (pfOK_cons Tryz.func95 (pfOK_cons Tryz.func96 (pfOK_cons Tryz.func97 
  (pfOK_cons Tryz.func98 (pfOK_cons Tryz.func99 (pfOK_cons Tryz.func100 (pfOK_cons Tryz.func101 (pfOK_cons Tryz.func102 (pfOK_cons Tryz.func103 (pfOK_cons Tryz.func104 (pfOK_cons Tryz.func105 
  (pfOK_cons Tryz.func106 (pfOK_cons Tryz.func107 (pfOK_cons Tryz.func108 (pfOK_cons Tryz.func109 (pfOK_cons Tryz.func110 (pfOK_cons Tryz.func111 (pfOK_cons Tryz.func112 (pfOK_cons Tryz.func113 
  (pfOK_cons Tryz.func114 (pfOK_cons Tryz.func115 (pfOK_cons Tryz.func116 (pfOK_cons Tryz.func117 (pfOK_cons Tryz.func118 (pfOK_cons Tryz.func119 (pfOK_cons Tryz.func120 (pfOK_cons Tryz.func121 
  (pfOK_cons Tryz.func122 (pfOK_cons Tryz.func123 (pfOK_cons Tryz.func124 (pfOK_cons Tryz.func125 (pfOK_cons Tryz.func126 (pfOK_cons Tryz.func127 (pfOK_cons Tryz.func128 (pfOK_cons Tryz.func129 
  (pfOK_cons Tryz.func130 (pfOK_cons Tryz.func131 (pfOK_cons Tryz.func132 (pfOK_cons Tryz.func133 (pfOK_cons Tryz.func134 (pfOK_cons Tryz.func135 (pfOK_cons Tryz.func136 (pfOK_cons Tryz.func137 
  (pfOK_cons Tryz.func138 (pfOK_cons Tryz.func139 (pfOK_cons Tryz.func140 (pfOK_cons Tryz.func141 (pfOK_cons Tryz.func142 (pfOK_cons Tryz.func143 (pfOK_cons Tryz.func144 (pfOK_cons Tryz.func145 
  (pfOK_cons Tryz.func146 (pfOK_cons Tryz.func147 (pfOK_cons Tryz.func148 (pfOK_cons Tryz.func149 (pfOK_cons Tryz.func150 (pfOK_cons Tryz.func151 (pfOK_cons Tryz.func152 (pfOK_cons Tryz.func153 
  (pfOK_cons Tryz.func154 (pfOK_cons Tryz.func155 (pfOK_cons Tryz.func156 (pfOK_cons Tryz.func157 (pfOK_cons Tryz.func158 (pfOK_cons Tryz.func159 (pfOK_cons Tryz.func160 (pfOK_cons Tryz.func161 
  (pfOK_cons Tryz.func162 (pfOK_cons Tryz.func163 (pfOK_cons Tryz.func164 (pfOK_cons Tryz.func165 (pfOK_cons Tryz.func166 (pfOK_cons Tryz.func167 (pfOK_cons Tryz.func168 (pfOK_cons Tryz.func169 
  (pfOK_cons Tryz.func170 (pfOK_cons Tryz.func171 (pfOK_cons Tryz.func172 (pfOK_cons Tryz.func173 (pfOK_cons Tryz.func174 (pfOK_cons Tryz.func175 (pfOK_cons Tryz.func176 (pfOK_cons Tryz.func177 
  (pfOK_cons Tryz.func178 (pfOK_cons Tryz.func179 (pfOK_cons Tryz.func180 (pfOK_cons Tryz.func181 (pfOK_cons Tryz.func182 (pfOK_cons Tryz.func183 (pfOK_cons Tryz.func184 (pfOK_cons Tryz.func185 
  (pfOK_cons Tryz.func186 (pfOK_cons Tryz.func187 (pfOK_cons Tryz.func188 (pfOK_cons Tryz.func189 (pfOK_cons Tryz.func190 (pfOK_cons Tryz.func191 (pfOK_cons Tryz.func192 (pfOK_cons Tryz.func193 
  (pfOK_cons Tryz.func194 (pfOK_cons Tryz.func195 (pfOK_cons Tryz.func196 (pfOK_cons Tryz.func197 (pfOK_cons Tryz.func198 (pfOK_cons Tryz.func199 (pfOK_cons Tryz.func200 (pfOK_cons Tryz.func201 
  (pfOK_cons Tryz.func202 (pfOK_cons Tryz.func203 (pfOK_cons Tryz.func204 (pfOK_cons Tryz.func205 (pfOK_cons Tryz.func206 (pfOK_cons Tryz.func207 (pfOK_cons Tryz.func208 (pfOK_cons Tryz.func209 
  (pfOK_cons Tryz.func210 (pfOK_cons Tryz.func211 (pfOK_cons Tryz.func212 (pfOK_cons Tryz.func213 (pfOK_cons Tryz.func214 (pfOK_cons Tryz.func215 (pfOK_cons Tryz.func216 (pfOK_cons Tryz.func217 
  (pfOK_cons Tryz.func218 (pfOK_cons Tryz.func219 (pfOK_cons Tryz.func220 (pfOK_cons Tryz.func221 (pfOK_cons Tryz.func222 (pfOK_cons Tryz.func223 (pfOK_cons Tryz.func224 (pfOK_cons Tryz.func225 
  (pfOK_cons Tryz.func226 (pfOK_cons Tryz.func227 (pfOK_cons Tryz.func228 (pfOK_cons Tryz.func229 (pfOK_cons Tryz.func230 (pfOK_cons Tryz.func231 (pfOK_cons Tryz.func232 (pfOK_cons Tryz.func233 
  (pfOK_cons Tryz.func234 (pfOK_cons Tryz.func235 pfOK_nil))))))))))))))))))))))))))))))))))))))))))))))))))))))))))))))))))))))))))))))))))))))))))))))))))))))))))))))))))))))))))))))))))))))))))))))))))))))))))))))))))))))))))))))))))))))))))))))))))))))))))))))))))))))))))))))))))))))))))
  (by kernel_rfl)
theorem cl121 (xs : List PV) (h1 : xs.length * 16 ≤ LIM) (h2 : xs.length ≤ LIM) : evF P E (fun _ _ _ => none) 2 121 [.s (.c (.p (.row 2 3 xs)))] [] = some ([.c (.own 113 2 xs)], []) := by
  have e : evF P E (fun _ _ _ => none) 2 121 [.s (.c (.p (.row 2 3 xs)))] [] = bif decide ((0 + xs.length) * 16 ≤ LIM) && decide (0 + xs.length ≤ LIM) then some ([.c (.own 113 2 (([] ++ xs).take (0 + xs.length)))], []) else none := by kernel_rfl
  rw [e]
  simp [h1, h2]
theorem cl125 (xs : List PV) (h1 : xs.length * 8 ≤ LIM) (h2 : xs.length ≤ LIM) : evF P E (fun _ _ _ => none) 2 125 [.s (.c (.p (.row 0 3 xs)))] [] = some ([.c (.own 51 0 xs)], []) := by
  have e : evF P E (fun _ _ _ => none) 2 125 [.s (.c (.p (.row 0 3 xs)))] [] = bif decide ((0 + xs.length) * 8 ≤ LIM) && decide (0 + xs.length ≤ LIM) then some ([.c (.own 51 0 (([] ++ xs).take (0 + xs.length)))], []) else none := by kernel_rfl
  rw [e]
  simp [h1, h2]
def clones : List (Nat × (Nat × Nat × Nat)) := [(121, (113, 2, 16)), (125, (51, 0, 8))]
theorem hT0 : ∀ f args bs r, cloneT clones f args bs = some r → Contract Tryz.prog f args bs r := by
  refine cloneT_ok fun f e sh by_ hm xs h1 h2 => ?_
  have h0 : ∀ f args bs r, (fun (_ : FuncId) (_ : List AV) (_ : List (List CV)) => (none : R)) f args bs = some r → Contract Tryz.prog f args bs r := fun _ _ _ _ h => by cases h
  simp only [clones, List.mem_cons, List.not_mem_nil, or_false, Prod.mk.injEq] at hm
  rcases hm with ⟨rfl, rfl, rfl, rfl⟩ | ⟨rfl, rfl, rfl, rfl⟩
  · exact clone_contract (evF_sound envOK pOK h0 2 (by kernel_rfl)) (evF_sound envOK pOK h0 2 (cl121 xs h1 h2))
  · exact clone_contract (evF_sound envOK pOK h0 2 (by kernel_rfl)) (evF_sound envOK pOK h0 2 (cl125 xs h1 h2))
def T : FuncId → List AV → List (List CV) → R := cloneT clones
theorem hT : ∀ f args bs r, T f args bs = some r → Contract Tryz.prog f args bs r := hT0
end Go.Proofs.YtnflnpjojbkgjaaGreat
