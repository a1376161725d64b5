/- What the evaluator is told of the program's types, loops and functions: printed by nf.py. -/
import Derived.Test.YtnliglgellapdaaProg
import Derived.Test.YtnliglgellapdaaDp22
namespace Go.Proofs.Ytnliglgellapdaa
open Go.Dp
def tabs : Tabs where
  sl := [(25, (5, 0, 1)), (27, (104, 2, 16)), (28, (126, 2, 48)), (31, (50, 0, 8)), (43, (27, 0, 24)), (68, (72, 2, 16)),
  (107, (3, 0, 8)), (124, (143, 2, 32))]
  sh := [(2, 0), (3, 0), (4, 0), (5, 0), (9, 0), (25, 0), (27, 0), (28, 0), (30, 4), (31, 0), (43, 0), (50, 0), (54, 0), (68, 0), (72, 2), (82, 0), (84, 3), (99, 0), (102, 0), (104, 2),
  (107, 0), (124, 0), (126, 2), (133, 0), (143, 2), (147, 0), (159, 0), (164, 0)]
  fl := [(30, [some (0, 0), some (1, 0), some (2, 0), some (3, 0)]), (72, [some (0, 0), some (1, 0)]), (84, [some (0, 0), some (1, 0), some (2, 0)]), (104, [some (0, 0), some (1, 0)]), (126, [some (0, 0), some (1, 0)]), (143, [some (0, 0), some (1, 0)])]
  ik := [(2, .i64), (3, .i64), (5, .u8), (50, .u64), (54, .u64), (164, .u32)]
  zr := [(2, [.int .i64 0]), (3, [.int .i64 0]), (4, [.bool false]), (5, [.int .u8 0]), (9, [.str ⟨#[]⟩]), (25, [.row 0 2 []]),
  (27, [.row 0 2 []]), (28, [.row 0 2 []]), (30, [.int .i64 0, .int .i64 0, .row 0 2 [], .row 0 2 []]), (31, [.row 0 2 []]), (43, [.row 0 2 []]), (50, [.int .u64 0]),
  (54, [.int .u64 0]), (68, [.row 0 2 []]), (72, [.int .u64 0, .int .u64 0]), (84, [.row 0 2 [], .int .i64 0, .int .u64 0]), (104, [.int .i64 0, .int .u64 0]), (107, [.row 0 2 []]),
  (124, [.row 0 2 []]), (126, [.row 0 2 [], .row 0 2 []]), (143, [.int .i64 0, .row 0 2 []]), (164, [.int .u32 0])]
  eqs := [(72, [0, 0]), (104, [0, 0])]
  bl := [(4, ())]
  st := [(9, ())]
  flat := [(2, ()), (3, ()), (4, ()), (5, ()), (9, ()), (50, ()), (54, ()), (72, ()), (104, ()), (164, ())]
def tLive : List (Nat × List (Nat × List Nat)) := [(5, [(0, [1, 5, 6, 7, 8, 9, 13, 14, 15]), (2, [5, 7, 9, 13, 14, 97, 98, 99])]), (6, [(0, [0, 1, 5, 6, 7, 8, 9, 10, 11, 14, 15]), (2, [0, 28, 29, 31, 33, 36, 37, 38, 39])]), (7, [(0, [1, 5, 6, 7, 8, 12, 13, 16, 17])]),
  (8, [(0, [1, 5, 6, 7, 8, 12, 73, 74, 75])]), (9, [(0, [0, 1, 7, 8, 9])]), (18, [(0, [0, 1, 12, 13])]),
  (21, [(0, [6, 7, 8, 9, 10, 11])]), (22, [(0, [3, 4, 5, 10, 30, 31, 32])]), (23, [(0, [0, 1, 2, 3, 26, 27, 28]), (2, [0, 1, 3, 12, 38, 39, 40])]),
  (24, [(0, [0, 1, 12, 13])]), (25, [(0, [0, 1, 7, 33, 34, 35])]), (28, [(0, [3, 6, 7, 8])]),
  (48, [(0, [2, 22, 23, 24])]), (55, [(0, [0, 1, 5])]), (57, [(0, [0, 2, 3, 4])]),
  (61, [(0, [2, 5, 8, 9, 10])]), (64, [(0, [1, 2, 5, 6])]), (66, [(0, [1, 18, 19, 20])]),
  (68, [(0, [1, 2, 5, 9, 10])]), (71, [(0, [1, 2, 5, 6])]), (80, [(0, [0, 1, 7, 27, 28, 29]), (2, [0, 1, 7, 10, 11, 12, 27, 28, 29])]),
  (90, [(0, [0, 2, 7, 12, 13, 14])]), (92, [(0, [0, 3, 9, 10, 11]), (2, [6, 25, 26, 27])]), (101, [(0, [1, 2, 3, 8, 14, 15]), (2, [2, 3, 8, 31, 32, 33])]),
  (103, [(0, [1, 2, 3, 8, 9]), (2, [2, 3, 8, 30, 31, 32])]), (108, [(0, [2, 3, 7, 13, 14, 15])]), (109, [(0, [0, 1, 2, 7, 8])]),
  (111, [(0, [2, 6, 7, 8, 16, 17, 18])]), (112, [(0, [0, 11, 12, 13])]), (124, [(0, [2, 4])]),
  (127, [(0, [0, 1, 5])]), (128, [(0, [0, 1, 5, 6, 7, 8, 9, 10]), (2, [0, 1, 5, 6, 7, 9, 11])]), (129, [(0, [0, 1, 2, 6, 7, 8])]),
  (130, [(0, [0, 1, 2, 7, 8])]), (131, [(0, [0, 7, 8, 9])]), (135, [(0, [2, 3, 13, 14, 15])]),
  (137, [(0, [2, 3, 21, 22, 23])]), (140, [(0, [0, 1, 5, 6])]), (141, [(0, [0, 1, 7, 8])]),
  (145, [(0, [0, 1, 7, 8])]), (154, [(0, [0, 5, 8])]), (159, [(1, [0, 1, 5, 6, 7, 8, 9, 10])]),
  (160, [(0, [0, 4, 5]), (2, [4, 6, 7, 8])]), (161, [(0, [0, 1, 2, 6, 7, 8])]), (163, [(0, [0, 1, 7, 8])]),
  (164, [(0, [0, 1, 7, 8])]), (168, [(0, [0, 1, 7, 8])]), (173, [(0, [0, 3, 4])]),
  (177, [(0, [0, 1, 5, 6, 7, 8, 9]), (2, [0, 1, 5, 6, 7, 8, 10])]), (178, [(0, [2, 8, 9, 10, 11, 13, 14, 15, 16]), (2, [2, 8, 9, 10, 14, 15, 16, 17, 18])]), (182, [(0, [0, 4, 5]), (2, [4, 6, 7, 8])])]
def tRk : List (Nat × List RK) := [(3, [.c (.p (.bool))]), (4, [.c (.p (.bool))]), (5, [.c (.p (.bool))]), (6, [.c (.p (.bool))]), (7, [.c (.p (.bool))]), (8, [.c (.p (.bool))]),
  (9, [.c (.p (.int .i64)), .c (.p (.int .i64)), .c (.p (.bool))]), (10, [.c (.p (.int .i64)), .c (.p (.int .i64)), .c (.p (.bool))]), (11, [.c (.p (.bool))]), (12, [.agg [.p (.int .i64), .p (.int .i64), .p (.row 2), .p (.row 2)], .c (.p (.row 0))]), (13, [.c (.p (.int .i64)), .c (.p (.bool))]), (14, [.c (.p (.int .i64)), .c (.p (.bool))]),
  (15, [.c (.p (.bool)), .c (.p (.bool))]), (16, [.c (.p (.bool)), .c (.p (.bool))]), (17, [.c (.p (.row 0)), .c (.p (.bool))]), (18, [.c (.p (.bool))]), (19, [.agg [.p (.int .i64), .p (.int .i64), .p (.row 2), .p (.row 2)], .c (.p (.int .i64))]), (20, [.c (.p (.row 0)), .c (.p (.bool))]),
  (21, [.c (.p (.int .i64)), .c (.p (.int .i64)), .c (.p (.row 2)), .c (.p (.row 0))]), (22, [.c (.p (.row 2)), .c (.p (.bool))]), (23, [.c (.p (.row 2)), .c (.p (.bool))]), (24, [.c (.p (.bool))]), (25, [.c (.p (.bool))]), (26, [.c (.p (.bool))]),
  (27, [.c (.p (.int .u64)), .c (.p (.bool))]), (28, [.c (.p (.int .i64))]), (29, [.c (.p (.int .u64)), .c (.p (.bool))]), (30, [.c (.p (.int .i64)), .c (.p (.int .i64)), .c (.p (.int .i64)), .c (.p (.row 2)), .c (.p (.row 2))]), (31, [.c (.p (.row 2)), .c (.p (.bool))]), (32, [.c (.p (.row 2)), .c (.p (.bool))]),
  (33, [.c (.p (.int .u64)), .c (.p (.bool))]), (34, [.c (.p (.bool)), .c (.p (.bool))]), (35, [.c (.p (.int .i64)), .c (.p (.int .i64)), .c (.p (.int .i64)), .c (.p (.row 2))]), (36, [.c (.p (.row 2)), .c (.p (.bool))]), (37, [.c (.p (.row 2)), .c (.p (.bool))]), (38, [.agg [.p (.int .i64), .p (.int .i64), .p (.row 2), .p (.row 2)], .c (.p (.int .i64)), .c (.p (.row 2))]),
  (39, [.c (.p (.row 2)), .c (.p (.bool))]), (40, [.c (.p (.row 2)), .c (.p (.bool))]), (41, [.c (.p (.row 2)), .c (.p (.bool))]), (42, [.c (.p (.row 2)), .c (.p (.bool))]), (43, [.c (.p (.row 0)), .c (.p (.bool))]), (44, [.c (.p (.int .i64)), .c (.p (.row 2)), .c (.p (.row 2))]),
  (45, [.agg [.p (.int .u64), .p (.int .u64)], .c (.p (.bool))]), (46, [.agg [.p (.int .u64), .p (.int .u64)], .c (.p (.bool))]), (47, [.c (.p (.bool))]), (48, [.c (.p (.bool)), .c (.p (.bool))]), (49, [.c (.p (.int .i64)), .agg [.p (.int .u64), .p (.int .u64)], .agg [.p (.int .u64), .p (.int .u64)]]), (50, [.agg [.p (.int .u64), .p (.int .u64)], .c (.p (.bool))]),
  (51, [.agg [.p (.int .u64), .p (.int .u64)], .c (.p (.bool))]), (52, [.agg [.p (.int .u64), .p (.int .u64)], .c (.p (.bool))]), (53, [.agg [.p (.int .u64), .p (.int .u64)], .c (.p (.bool))]), (54, [.c (.p (.bool))]), (55, [.c (.p (.int .i64))]), (56, [.c (.p (.int .i64))]),
  (57, [.agg [.p (.int .i64), .p (.int .i64), .p (.row 2), .p (.row 2)]]), (58, [.c (.p (.row 0))]), (59, [.c (.p (.bool))]), (60, [.c (.p (.bool))]), (61, [.c (.p (.int .i64))]), (62, [.c (.p (.bool))]),
  (63, [.c (.p (.bool))]), (64, [.c (.p (.int .i64))]), (65, [.c (.p (.bool))]), (66, [.c (.p (.bool))]), (67, [.c (.p (.bool))]), (68, [.c (.p (.row 0))]),
  (69, [.c (.p (.int .i64))]), (70, [.c (.p (.int .i64))]), (71, [.c (.p (.row 0))]), (72, [.c (.p (.int .i64)), .c (.p (.int .i64)), .c (.p (.row 2))]), (73, [.c (.own 104 2)]), (74, [.c (.p (.int .i64))]),
  (75, [.c (.p (.bool))]), (76, [.c (.p (.bool))]), (77, [.c (.p (.bool))]), (78, [.c (.p (.bool))]), (79, [.c (.p (.row 2)), .c (.p (.bool))]), (80, [.c (.p (.int .i64))]),
  (81, [.c (.p (.row 2)), .c (.p (.bool))]), (82, [.c (.p (.bool))]), (83, [.c (.p (.bool))]), (84, [.c (.p (.int .i64)), .c (.p (.int .i64)), .c (.p (.int .i64))]), (85, [.c (.p (.bool))]), (86, [.c (.p (.bool))]),
  (87, [.c (.p (.bool))]), (88, [.c (.p (.int .u64))]), (89, [.c (.p (.bool))]), (90, [.c (.p (.int .u64))]), (91, [.c (.own 104 2)]), (92, [.c (.own 104 2)]),
  (93, [.c (.p (.int .i64)), .c (.p (.int .i64)), .c (.p (.int .i64))]), (94, [.c (.p (.bool))]), (95, [.c (.p (.int .i64))]), (96, [.c (.p (.int .i64))]), (97, [.c (.own 104 2)]), (98, [.agg [.p (.int .i64), .p (.int .i64), .p (.row 2), .p (.row 2)]]),
  (99, [.c (.p (.row 2))]), (100, [.c (.p (.bool))]), (101, [.c (.p (.row 2)), .c (.p (.bool))]), (102, [.c (.p (.bool))]), (103, [.c (.p (.row 2)), .c (.p (.bool))]), (104, [.c (.p (.row 2)), .c (.p (.bool))]),
  (105, [.c (.p (.row 2)), .c (.p (.bool))]), (106, [.c (.p (.bool))]), (107, [.c (.p (.bool))]), (108, [.c (.p (.row 0))]), (109, [.c (.p (.row 2))]), (110, [.c (.p (.bool))]),
  (111, [.agg [.p (.int .u64), .p (.int .u64)]]), (112, [.c (.p (.bool))]), (113, [.agg [.p (.int .u64), .p (.int .u64)]]), (114, [.c (.p (.bool))]), (115, [.c (.p (.bool))]), (116, [.c (.p (.int .i64))]),
  (117, [.agg [.p (.int .u64), .p (.int .u64)]]), (118, [.agg [.p (.int .u64), .p (.int .u64)]]), (119, [.c (.p (.bool))]), (120, [.agg [.p (.int .u64), .p (.int .u64)]]), (121, [.agg [.p (.int .u64), .p (.int .u64)], .c (.p (.bool))]), (122, [.c (.p (.int .u64))]),
  (123, [.c (.p (.int .u64))]), (124, [.c (.p (.int .i64))]), (126, [.c (.p (.int .i64))]), (127, [.c (.p (.int .i64))]), (128, [.c (.p (.int .i64))]), (129, [.agg [.p (.int .i64), .p (.int .i64), .p (.row 2), .own ⟨126, some ⟨1, 143, 2, 0, none⟩⟩ 2]]),
  (130, [.c (.own 50 0)]), (131, [.c (.p (.bool))]), (132, [.c (.p (.bool))]), (133, [.c (.p (.bool))]), (134, [.c (.p (.bool))]), (135, [.c (.p (.bool))]),
  (136, [.c (.p (.bool))]), (137, [.c (.p (.bool))]), (138, [.c (.p (.int .i64))]), (139, [.c (.p (.int .i64))]), (140, [.c (.p (.int .u64))]), (141, [.c (.p (.int .i64))]),
  (142, [.c (.p (.int .i64))]), (143, [.c (.p (.bool))]), (144, [.c (.p (.bool))]), (145, [.c (.p (.int .i64))]), (146, [.c (.p (.bool))]), (147, [.c (.p (.bool))]),
  (148, [.c (.p (.int .u64))]), (149, [.c (.own 104 2)]), (150, [.c (.own 50 0)]), (151, [.c (.p (.bool))]), (152, [.c (.p (.bool))]), (153, [.agg [.p (.int .u64), .p (.int .u64)]]),
  (154, [.c (.p (.int .i64))]), (155, [.agg [.p (.int .u64), .p (.int .u64)]]), (156, [.agg [.p (.int .u64), .p (.int .u64)]]), (157, [.c (.p (.int .u64))]), (158, [.c (.p (.bool))]), (159, [.c (.p (.int .i64))]),
  (160, [.c (.p (.int .u32)), .c (.p (.int .u32))]), (161, [.agg [.p (.row 2), .own 143 2]]), (162, [.c (.p (.bool))]), (163, [.c (.p (.int .i64))]), (164, [.c (.p (.int .i64))]), (165, [.c (.p (.int .u64)), .c (.p (.int .u64)), .c (.p (.bool))]),
  (166, [.c (.p (.int .u64))]), (167, [.c (.p (.int .u64))]), (168, [.c (.p (.int .i64))]), (169, [.agg [.p (.int .u64), .p (.int .u64)]]), (170, [.agg [.p (.int .u64), .p (.int .u64)]]), (171, [.agg [.p (.int .u64), .p (.int .u64)]]),
  (172, [.c (.p (.bool))]), (173, [.c (.p (.int .u64))]), (174, [.c (.p (.int .i64))]), (176, [.c (.p (.int .i64))]), (177, [.c (.p (.int .i64))]), (178, [.c (.p (.int .u64)), .c (.p (.int .u64))]),
  (180, [.c (.p (.int .u64)), .c (.p (.int .u64))]), (182, [.c (.p (.int .u32)), .c (.p (.int .u32))]), (183, [.c (.p (.int .i64))]), (184, [.c (.p (.int .i64))])]
def tBk : List (Nat × List (List Kind)) := [(57, [[.p (.row 0), .p (.int .i64), .p (.int .u64)]]), (58, [[.p (.row 0), .p (.int .i64), .p (.int .u64)]]), (69, [[.p (.row 0), .p (.int .i64), .p (.int .u64)]]), (72, [[.p (.row 0), .p (.int .i64), .p (.int .u64)]]), (73, [[.p (.row 0), .p (.int .i64), .p (.int .u64)]]), (75, [[.p (.row 0), .p (.int .i64), .p (.int .u64)]]),
  (76, [[.p (.int .i64)], [.p (.int .i64)]]), (77, [[.p (.int .i64)], [.p (.int .i64)]]), (86, [[.p (.int .i64)]]), (87, [[.p (.int .i64)]]), (91, [[.p (.row 0), .p (.int .i64), .p (.int .u64)]]), (96, [[.p (.row 0), .p (.int .i64), .p (.int .u64)]]),
  (98, [[.p (.row 0), .p (.int .i64), .p (.int .u64)]]), (99, [[.p (.row 0), .p (.int .i64), .p (.int .u64)]]), (109, [[.p (.row 0), .p (.int .i64), .p (.int .u64)]]), (116, [[.p (.row 0), .p (.int .i64), .p (.int .u64)]]), (117, [[.p (.row 0), .p (.int .i64), .p (.int .u64)]]), (129, [[.p (.row 0), .p (.int .i64), .p (.int .u64)]]),
  (130, [[.p (.row 0), .p (.int .i64), .p (.int .u64)]]), (133, [[.p (.int .i64), .p (.int .i64), .p (.row 2), .p (.row 2)]]), (134, [[.p (.int .i64), .p (.int .i64), .p (.row 2), .p (.row 2)]]), (139, [[.p (.row 0), .p (.int .i64), .p (.int .u64)]]), (141, [[.p (.int .i64)], [.p (.int .i64)]]), (145, [[.p (.int .i64)]]),
  (146, [[.p (.int .i64)]]), (147, [[.p (.int .i64)]]), (152, [[.p (.int .i64)]]), (157, [[.p (.row 0), .p (.int .i64), .p (.int .u64)]]), (161, [[.p (.row 0), .p (.int .i64), .p (.int .u64)]]), (163, [[.p (.int .i64), .p (.int .i64), .p (.row 2), .p (.row 2)]]),
  (164, [[.p (.int .i64)]]), (173, [[.p (.row 0), .p (.int .i64), .p (.int .u64)]])]
def tPlain : List (Nat × Unit) := [(3, ()), (4, ()), (5, ()), (6, ()), (7, ()), (8, ()), (9, ()), (10, ()), (11, ()), (13, ()), (14, ()), (15, ()),
  (16, ()), (18, ()), (24, ()), (25, ()), (26, ()), (27, ()), (28, ()), (29, ()), (33, ()), (34, ()), (45, ()), (46, ()),
  (47, ()), (48, ()), (49, ()), (50, ()), (51, ()), (52, ()), (53, ()), (54, ()), (55, ()), (56, ()), (59, ()), (60, ()),
  (61, ()), (62, ()), (63, ()), (64, ()), (65, ()), (66, ()), (67, ()), (70, ()), (74, ()), (76, ()), (77, ()), (78, ()),
  (80, ()), (82, ()), (83, ()), (84, ()), (85, ()), (86, ()), (87, ()), (88, ()), (89, ()), (90, ()), (92, ()), (93, ()),
  (94, ()), (95, ()), (97, ()), (100, ()), (102, ()), (106, ()), (107, ()), (110, ()), (111, ()), (112, ()), (113, ()), (114, ()),
  (115, ()), (118, ()), (119, ()), (120, ()), (121, ()), (122, ()), (123, ()), (124, ()), (126, ()), (127, ()), (128, ()), (131, ()),
  (132, ()), (135, ()), (136, ()), (137, ()), (138, ()), (140, ()), (141, ()), (142, ()), (143, ()), (144, ()), (145, ()), (146, ()),
  (147, ()), (148, ()), (149, ()), (150, ()), (152, ()), (153, ()), (154, ()), (155, ()), (156, ()), (158, ()), (159, ()), (160, ()),
  (162, ()), (164, ()), (165, ()), (166, ()), (167, ()), (169, ()), (170, ()), (171, ()), (172, ()), (174, ()), (176, ()), (177, ()),
  (178, ()), (180, ()), (182, ()), (183, ()), (184, ())]
def tCt : List (Nat × CT) := [(2, .one (.int .i64)), (3, .one (.int .i64)), (4, .one (.bool)), (5, .one (.int .u8)), (9, .one (.str)), (25, .one (.row 0)),
  (27, .one (.row 2)), (28, .one (.row 2)), (30, .agg [.int .i64, .int .i64, .row 2, .row 2]), (31, .one (.row 0)), (43, .one (.row 0)), (50, .one (.int .u64)),
  (54, .one (.int .u64)), (68, .one (.row 2)), (72, .agg [.int .u64, .int .u64]), (84, .agg [.row 0, .int .i64, .int .u64]), (104, .agg [.int .i64, .int .u64]), (107, .one (.row 0)),
  (124, .one (.row 2)), (126, .agg [.row 2, .row 2]), (143, .agg [.int .i64, .row 2]), (164, .one (.int .u32))]
def tAk : List (Nat × List CT) := [(3, [.one (.str), .one (.int .i64)]), (4, [.one (.row 0), .one (.row 0)]), (5, [.one (.row 0), .one (.row 0)]), (6, [.one (.row 0), .one (.row 0)]), (7, [.one (.row 0), .one (.row 0)]), (8, [.one (.row 0), .one (.row 0)]),
  (9, [.one (.str), .one (.int .i64)]), (10, [.one (.str), .one (.int .i64)]), (11, [.one (.row 0), .one (.row 0)]), (12, [.one (.row 0)]), (13, [.agg [.int .i64, .int .i64, .row 2, .row 2], .one (.row 0)]), (14, [.agg [.int .i64, .int .i64, .row 2, .row 2], .one (.row 0)]),
  (15, [.agg [.int .i64, .int .i64, .row 2, .row 2]]), (16, [.agg [.int .i64, .int .i64, .row 2, .row 2]]), (17, [.agg [.int .i64, .int .i64, .row 2, .row 2], .one (.int .i64)]), (18, [.one (.row 0), .one (.row 0)]), (19, [.one (.row 0)]), (20, [.agg [.int .i64, .int .i64, .row 2, .row 2], .one (.int .i64)]),
  (21, [.one (.row 0)]), (22, [.one (.int .i64), .one (.int .i64), .one (.row 2), .one (.row 0)]), (23, [.one (.int .i64), .one (.int .i64), .one (.row 2), .one (.row 0)]), (24, [.one (.row 2), .one (.row 2)]), (25, [.one (.int .i64), .one (.int .i64), .one (.row 2)]), (26, [.one (.int .i64), .one (.int .i64), .one (.row 2)]),
  (27, [.one (.int .i64), .one (.int .u64)]), (28, [.one (.row 0)]), (29, [.one (.int .i64), .one (.row 2), .one (.row 0)]), (30, [.one (.row 0)]), (31, [.one (.int .i64), .one (.int .i64), .one (.int .i64), .one (.row 2), .one (.row 2)]), (32, [.one (.int .i64), .one (.int .i64), .one (.int .i64), .one (.row 2), .one (.row 2)]),
  (33, [.one (.int .i64), .one (.int .u64), .one (.int .u64)]), (34, [.one (.int .i64), .one (.int .u64), .one (.int .u64)]), (35, [.one (.row 0)]), (36, [.one (.int .i64), .one (.int .i64), .one (.int .i64), .one (.row 2)]), (37, [.one (.int .i64), .one (.int .i64), .one (.int .i64), .one (.row 2)]), (38, [.one (.row 0)]),
  (39, [.agg [.int .i64, .int .i64, .row 2, .row 2], .one (.int .i64), .one (.row 2)]), (40, [.agg [.int .i64, .int .i64, .row 2, .row 2], .one (.int .i64), .one (.row 2)]), (41, [.agg [.int .i64, .int .i64, .row 2, .row 2], .one (.int .i64), .one (.row 2)]), (42, [.agg [.int .i64, .int .i64, .row 2, .row 2], .one (.int .i64), .one (.row 2)]), (43, [.agg [.int .i64, .int .i64, .row 2, .row 2], .one (.row 0), .one (.int .i64)]), (44, [.one (.row 0)]),
  (45, [.one (.int .i64), .one (.row 2), .one (.row 2)]), (46, [.one (.int .i64), .one (.row 2), .one (.row 2)]), (47, [.one (.int .i64), .agg [.int .u64, .int .u64]]), (48, [.one (.int .i64), .one (.row 2), .one (.row 0)]), (49, [.one (.row 0)]), (50, [.one (.int .i64), .agg [.int .u64, .int .u64], .agg [.int .u64, .int .u64]]),
  (51, [.one (.int .i64), .agg [.int .u64, .int .u64], .agg [.int .u64, .int .u64]]), (52, [.one (.int .i64), .agg [.int .u64, .int .u64], .agg [.int .u64, .int .u64]]), (53, [.one (.int .i64), .agg [.int .u64, .int .u64], .agg [.int .u64, .int .u64]]), (54, [.one (.int .i64), .one (.int .i64), .one (.int .i64)]), (55, [.one (.str), .one (.str)]), (56, [.one (.str), .one (.str)]),
  (57, [.one (.any)]), (58, [.one (.any), .agg [.int .i64, .int .i64, .row 2, .row 2]]), (59, [.agg [.int .i64, .int .i64, .row 2, .row 2]]), (60, [.agg [.int .i64, .int .i64, .row 2, .row 2], .one (.row 0)]), (61, [.agg [.int .i64, .int .i64, .row 2, .row 2], .one (.row 0)]), (62, [.agg [.int .i64, .int .i64, .row 2, .row 2]]),
  (63, [.agg [.int .i64, .int .i64, .row 2, .row 2], .one (.row 0)]), (64, [.agg [.int .i64, .int .i64, .row 2, .row 2], .one (.row 0)]), (65, [.agg [.int .i64, .int .i64, .row 2, .row 2]]), (66, [.agg [.int .i64, .int .i64, .row 2, .row 2]]), (67, [.agg [.int .i64, .int .i64, .row 2, .row 2], .one (.int .i64)]), (68, [.agg [.int .i64, .int .i64, .row 2, .row 2], .one (.int .i64)]),
  (69, [.one (.any), .one (.int .i64)]), (70, [.agg [.int .i64, .int .i64, .row 2, .row 2]]), (71, [.agg [.int .i64, .int .i64, .row 2, .row 2], .one (.int .i64)]), (72, [.one (.any)]), (73, [.one (.any), .one (.int .i64), .one (.int .i64), .one (.int .i64)]), (74, [.one (.int .i64)]),
  (75, [.one (.any), .one (.int .i64)]), (76, [.one (.row 0), .one (.any)]), (77, [.one (.row 2)]), (78, [.one (.int .i64), .one (.int .i64), .one (.row 2), .one (.int .i64)]), (79, [.one (.int .i64), .one (.int .i64), .one (.row 2)]), (80, [.one (.int .i64), .one (.int .i64), .one (.row 2)]),
  (81, [.one (.int .i64), .one (.int .i64), .one (.row 2)]), (82, [.one (.int .i64)]), (83, [.one (.int .i64)]), (84, [.one (.int .i64)]), (85, [.one (.int .i64), .one (.int .i64), .agg [.int .i64, .int .u64]]), (86, [.one (.row 0), .one (.any)]),
  (87, [.one (.int .i64)]), (88, [.one (.int .i64)]), (89, [.one (.int .i64), .one (.int .i64), .one (.row 0)]), (90, [.one (.int .i64), .one (.row 2), .one (.row 0)]), (91, [.one (.any), .one (.int .i64), .one (.int .i64), .one (.int .i64)]), (92, [.one (.row 0)]),
  (93, [.one (.int .i64)]), (94, [.one (.int .i64), .one (.int .u64), .one (.int .u64)]), (95, [.one (.int .i64), .one (.int .u64)]), (96, [.one (.any), .one (.row 0)]), (97, [.one (.row 2)]), (98, [.one (.any)]),
  (99, [.one (.any), .agg [.int .i64, .int .i64, .row 2, .row 2], .one (.int .i64)]), (100, [.agg [.int .i64, .int .i64, .row 2, .row 2], .one (.int .i64), .one (.row 2)]), (101, [.agg [.int .i64, .int .i64, .row 2, .row 2], .one (.int .i64), .one (.row 2)]), (102, [.agg [.int .i64, .int .i64, .row 2, .row 2], .one (.int .i64), .one (.row 2)]), (103, [.agg [.int .i64, .int .i64, .row 2, .row 2], .one (.int .i64), .one (.row 2)]), (104, [.agg [.int .i64, .int .i64, .row 2, .row 2], .one (.int .i64), .one (.row 2)]),
  (105, [.agg [.int .i64, .int .i64, .row 2, .row 2], .one (.int .i64), .one (.row 2)]), (106, [.agg [.int .i64, .int .i64, .row 2, .row 2], .one (.int .i64)]), (107, [.agg [.int .i64, .int .i64, .row 2, .row 2], .one (.row 2), .one (.row 0)]), (108, [.agg [.int .i64, .int .i64, .row 2, .row 2], .agg [.row 2, .row 2], .one (.row 0)]), (109, [.one (.any), .one (.int .i64), .one (.int .i64)]), (110, [.one (.int .i64), .one (.row 2)]),
  (111, [.one (.int .i64), .one (.row 2), .one (.row 2)]), (112, [.one (.int .i64), .one (.row 2)]), (113, [.one (.int .i64), .one (.row 2), .one (.int .i64), .one (.row 2)]), (114, [.one (.int .i64), .one (.int .u64)]), (115, [.agg [.int .u64, .int .u64], .one (.int .u64)]), (116, [.one (.any)]),
  (117, [.one (.any), .one (.int .i64)]), (118, [.agg [.int .u64, .int .u64], .agg [.int .u64, .int .u64]]), (119, [.one (.int .i64), .agg [.int .u64, .int .u64]]), (120, [.agg [.int .u64, .int .u64], .agg [.int .u64, .int .u64]]), (121, [.agg [.int .u64, .int .u64], .agg [.int .u64, .int .u64]]), (122, [.one (.int .u64), .one (.int .u64)]),
  (123, [.one (.int .u64), .one (.int .u64)]), (124, [.one (.str)]), (126, [.one (.str), .one (.str)]), (127, [.one (.str), .one (.int .u8)]), (128, [.one (.str), .one (.str)]), (129, [.one (.any), .one (.int .i64), .one (.int .i64)]),
  (130, [.one (.any), .one (.int .i64), .one (.int .i64)]), (131, [.one (.int .i64), .one (.row 0)]), (132, [.agg [.int .i64, .int .i64, .row 2, .row 2], .one (.row 2)]), (133, [.one (.row 2), .one (.any)]), (134, [.agg [.row 2, .row 2]]), (135, [.agg [.int .i64, .int .i64, .row 2, .row 2], .agg [.row 2, .row 2]]),
  (136, [.agg [.int .i64, .int .i64, .row 2, .row 2], .one (.row 2)]), (137, [.agg [.int .i64, .int .i64, .row 2, .row 2], .agg [.row 2, .row 2]]), (138, [.agg [.int .i64, .int .i64, .row 2, .row 2]]), (139, [.one (.any)]), (140, [.one (.int .i64), .one (.int .u64)]), (141, [.one (.row 0), .one (.any)]),
  (142, [.one (.row 2)]), (143, [.one (.int .i64)]), (144, [.one (.int .i64), .one (.int .i64), .agg [.int .i64, .int .u64]]), (145, [.one (.row 0), .one (.any)]), (146, [.one (.row 0), .one (.any)]), (147, [.one (.int .u64)]),
  (148, [.one (.int .i64), .one (.int .i64), .one (.int .u64), .one (.int .u64)]), (149, [.one (.any), .one (.int .i64)]), (150, [.one (.row 0)]), (151, [.one (.row 2), .one (.any)]), (152, [.agg [.int .u64, .int .u64]]), (153, [.one (.int .i64), .agg [.int .u64, .int .u64], .agg [.int .u64, .int .u64], .agg [.int .u64, .int .u64]]),
  (154, [.one (.row 2), .one (.int .i64)]), (155, [.one (.int .i64), .one (.int .i64), .agg [.int .u64, .int .u64], .agg [.int .u64, .int .u64]]), (156, [.one (.int .i64), .agg [.int .u64, .int .u64], .agg [.int .u64, .int .u64]]), (157, [.one (.any), .one (.int .i64)]), (158, [.one (.int .i64), .one (.int .u64), .one (.int .u64)]), (159, [.one (.str), .one (.str)]),
  (160, [.one (.str)]), (161, [.one (.any), .one (.int .i64), .one (.int .i64)]), (162, [.one (.int .i64), .one (.int .u64)]), (163, [.one (.row 2), .one (.any)]), (164, [.one (.row 0), .one (.any)]), (165, [.one (.int .i64), .one (.int .u64), .one (.int .u64)]),
  (166, [.one (.int .i64), .one (.int .u64), .one (.int .u64), .one (.bool)]), (167, [.one (.bool)]), (168, [.one (.row 2), .one (.any)]), (169, [.agg [.int .u64, .int .u64], .agg [.int .u64, .int .u64], .agg [.int .u64, .int .u64]]), (170, [.agg [.int .u64, .int .u64], .agg [.int .u64, .int .u64], .agg [.int .u64, .int .u64]]), (171, [.one (.bool), .one (.bool)]),
  (172, [.one (.int .i64), .one (.int .u64), .one (.int .u64)]), (173, [.one (.any)]), (174, [.one (.str), .one (.int .u8)]), (176, [.one (.int .i64)]), (177, [.one (.str), .one (.str)]), (178, [.one (.int .u64), .one (.int .u64), .one (.int .u64)]),
  (180, [.one (.int .u64), .one (.int .u64)]), (182, [.one (.str)]), (183, [.one (.int .u64)]), (184, [.one (.int .u64)])]
def tOwn : List (Nat × List (Nat × List (Option Nat × Nat × Et × Nat))) := [(5, [(0, [(none, 13, 50, 0), (none, 14, 50, 0)])]), (6, [(0, [(none, 14, 50, 0)]), (2, [(none, 38, 50, 0)])]), (7, [(0, [(none, 16, 50, 0)])]),
  (21, [(0, [(none, 10, 27, 0)])]), (23, [(2, [(none, 12, 104, 2)])]), (57, [(0, [(some 1, 2, 0, 2), (some 1, 3, 0, 2)])]),
  (71, [(0, [(none, 5, 50, 0)])]), (80, [(0, [(none, 7, 3, 0)])]), (103, [(0, [(none, 8, 27, 0)])]),
  (129, [(0, [(some 1, 2, 0, 2), (some 1, 3, 0, 2), (some 2, 3, ⟨126, some ⟨1, 143, 2, 0, none⟩⟩, 2)])]), (130, [(0, [(none, 7, 50, 0)])]), (161, [(0, [(some 1, 0, 0, 2), (some 1, 1, 0, 2), (some 2, 1, 143, 2)])])]
def tCut : List (Nat × List (Nat × List Nat)) := [(6, [(26, [0, 1])])]
def tNest : List (Nat × Kd) := [(28, ⟨1, 143, 2, 0, none⟩)]
noncomputable def E : Env := tabs.env tLive tRk tBk tPlain tCt tAk tOwn tCut tNest
theorem envOK : EnvOK Try.prog E := Tabs.sound (by kernel_rfl)
noncomputable def pTab : List (Nat × Func) := [(2, Try.f2), (3, Try.f3), (4, Try.f4), (5, Try.f5), (6, Try.f6), (7, Try.f7), (8, Try.f8), (9, Try.f9), (10, Try.f10), (11, Try.f11), (12, Try.f12), (13, Try.f13),
  (14, Try.f14), (15, Try.f15), (16, Try.f16), (17, Try.f17), (18, Try.f18), (19, Try.f19), (20, Try.f20), (21, Try.f21), (22, Try.f22), (23, Try.f23), (24, Try.f24), (25, Try.f25),
  (26, Try.f26), (27, Try.f27), (28, Try.f28), (29, Try.f29), (30, Try.f30), (31, Try.f31), (32, Try.f32), (33, Try.f33), (34, Try.f34), (35, Try.f35), (36, Try.f36), (37, Try.f37),
  (38, Try.f38), (39, Try.f39), (40, Try.f40), (41, Try.f41), (42, Try.f42), (43, Try.f43), (44, Try.f44), (45, Try.f45), (46, Try.f46), (47, Try.f47), (48, Try.f48), (49, Try.f49),
  (50, Try.f50), (51, Try.f51), (52, Try.f52), (53, Try.f53), (54, Try.f54), (55, Try.f55), (56, Try.f56), (57, Try.f57), (58, Try.f58), (59, Try.f59), (60, Try.f60), (61, Try.f61),
  (62, Try.f62), (63, Try.f63), (64, Try.f64), (65, Try.f65), (66, Try.f66), (67, Try.f67), (68, Try.f68), (69, Try.f69), (70, Try.f70), (71, Try.f71), (72, Try.f72), (73, Try.f73),
  (74, Try.f74), (75, Try.f75), (76, Try.f76), (77, Try.f77), (78, Try.f78), (79, Try.f79), (80, Try.f80), (81, Try.f81), (82, Try.f82), (83, Try.f83), (84, Try.f84), (85, Try.f85),
  (86, Try.f86), (87, Try.f87), (88, Try.f88), (89, Try.f89), (90, Try.f90), (91, Try.f91), (92, Try.f92), (93, Try.f93), (94, Try.f94), (95, Try.f95), (96, Try.f96), (97, Try.f97),
  (98, Try.f98), (99, Try.f99), (100, Try.f100), (101, Try.f101), (102, Try.f102), (103, Try.f103), (104, Try.f104), (105, Try.f105), (106, Try.f106), (107, Try.f107), (108, Try.f108), (109, Try.f109),
  (110, Try.f110), (111, Try.f111), (112, Try.f112), (113, Try.f113), (114, Try.f114), (115, Try.f115), (116, Try.f116), (117, Try.f117), (118, Try.f118), (119, Try.f119), (120, Try.f120), (121, Try.f121),
  (122, Try.f122), (123, Try.f123), (124, Try.f124), (126, Try.f126), (127, Try.f127), (128, Try.f128), (129, Try.f129), (130, Try.f130), (131, Try.f131), (132, Try.f132), (133, Try.f133), (134, Try.f134),
  (135, Try.f135), (136, Try.f136), (137, Try.f137), (138, Try.f138), (139, Try.f139), (140, Try.f140), (141, Try.f141), (142, Try.f142), (143, Try.f143), (144, Try.f144), (145, Try.f145), (146, Try.f146),
  (147, Try.f147), (148, Try.f148), (149, Try.f149), (150, Try.f150), (151, Try.f151), (152, Try.f152), (153, Try.f153), (154, Try.f154), (155, Try.f155), (156, Try.f156), (157, Try.f157), (158, Try.f158),
  (159, Try.f159), (160, Try.f160), (161, Try.f161), (162, Try.f162), (163, Try.f163), (164, Try.f164), (165, Try.f165), (166, Try.f166), (167, Try.f167), (168, Try.f168), (169, Try.f169), (170, Try.f170),
  (171, Try.f171), (172, Try.f172), (173, Try.f173), (174, Try.f174), (176, Try.f176), (177, Try.f177), (178, Try.f178), (180, Try.f180), (182, Try.f182), (183, Try.f183), (184, Try.f184)]
noncomputable def P : FuncId → Option Func := lk pTab
theorem pOK : PfOK Try.prog P := pfOK_of (tab := pTab)
  (pfOK_cons Try.func2 (pfOK_cons Try.func3 (pfOK_cons Try.func4 (pfOK_cons Try.func5 (pfOK_cons Try.func6 (pfOK_cons Try.func7 (pfOK_cons Try.func8 (pfOK_cons Try.func9 
  (pfOK_cons Try.func10 (pfOK_cons Try.func11 (pfOK_cons Try.func12 (pfOK_cons Try.func13 (pfOK_cons Try.func14 (pfOK_cons Try.func15 (pfOK_cons Try.func16 (pfOK_cons Try.func17 
  (pfOK_cons Try.func18 (pfOK_cons Try.func19 (pfOK_cons Try.func20 (pfOK_cons Try.func21 (pfOK_cons Try.func22 (pfOK_cons Try.func23 (pfOK_cons Try.func24 (pfOK_cons Try.func25 
  (pfOK_cons Try.func26 (pfOK_cons Try.func27 (pfOK_cons Try.func28 (pfOK_cons Try.func29 (pfOK_cons Try.func30 (pfOK_cons Try.func31 (pfOK_cons Try.func32 (pfOK_cons Try.func33 
  (pfOK_cons Try.func34 (pfOK_cons Try.func35 (pfOK_cons Try.func36 (pfOK_cons Try.func37 (pfOK_cons Try.func38 (pfOK_cons Try.func39 (pfOK_cons Try.func40 (pfOK_cons Try.func41 
  (pfOK_cons Try.func42 (pfOK_cons Try.func43 (pfOK_cons Try.func44 (pfOK_cons Try.func45 (pfOK_cons Try.func46 (pfOK_cons Try.func47 (pfOK_cons Try.func48 (pfOK_cons Try.func49 
  (pfOK_cons Try.func50 (pfOK_cons Try.func51 (pfOK_cons Try.func52 (pfOK_cons Try.func53 (pfOK_cons Try.func54 (pfOK_cons Try.func55 (pfOK_cons Try.func56 (pfOK_cons Try.func57 
  (pfOK_cons Try.func58 (pfOK_cons Try.func59 (pfOK_cons Try.func60 (pfOK_cons Try.func61 (pfOK_cons Try.func62 (pfOK_cons Try.func63 (pfOK_cons Try.func64 (pfOK_cons Try.func65 
  (pfOK_cons Try.func66 (pfOK_cons Try.func67 (pfOK_cons Try.func68 (pfOK_cons Try.func69 (pfOK_cons Try.func70 (pfOK_cons Try.func71 (pfOK_cons Try.func72 (pfOK_cons Try.func73 
  (pfOK_cons Try.func74 (pfOK_cons Try.func75 (pfOK_cons Try.func76 (pfOK_cons Try.func77 (pfOK_cons Try.func78 (pfOK_cons Try.func79 (pfOK_cons Try.func80 (pfOK_cons Try.func81 
  (pfOK_cons Try.func82 (pfOK_cons Try.func83 (pfOK_cons Try.func84 (pfOK_cons Try.func85 (pfOK_cons Try.func86 (pfOK_cons Try.func87 (pfOK_cons Try.func88 (pfOK_cons Try.func89 
  (pfOK_cons Try.func90 (pfOK_cons Try.func91 (pfOK_cons Try.func92 (pfOK_cons Try.func93 (pfOK_cons Try.func94 (pfOK_cons Try.func95 (pfOK_cons Try.func96 (pfOK_cons Try.func97 
  (pfOK_cons Try.func98 (pfOK_cons Try.func99 (pfOK_cons Try.func100 (pfOK_cons Try.func101 (pfOK_cons Try.func102 (pfOK_cons Try.func103 (pfOK_cons Try.func104 (pfOK_cons Try.func105 
  (pfOK_cons Try.func106 (pfOK_cons Try.func107 (pfOK_cons Try.func108 (pfOK_cons Try.func109 (pfOK_cons Try.func110 (pfOK_cons Try.func111 (pfOK_cons Try.func112 (pfOK_cons Try.func113 
  (pfOK_cons Try.func114 (pfOK_cons Try.func115 (pfOK_cons Try.func116 (pfOK_cons Try.func117 (pfOK_cons Try.func118 (pfOK_cons Try.func119 (pfOK_cons Try.func120 (pfOK_cons Try.func121 
  (pfOK_cons Try.func122 (pfOK_cons Try.func123 (pfOK_cons Try.func124 (pfOK_cons Try.func126 (pfOK_cons Try.func127 (pfOK_cons Try.func128 (pfOK_cons Try.func129 (pfOK_cons Try.func130 
  (pfOK_cons Try.func131 (pfOK_cons Try.func132 (pfOK_cons Try.func133 (pfOK_cons Try.func134 (pfOK_cons Try.func135 (pfOK_cons Try.func136 (pfOK_cons Try.func137 (pfOK_cons Try.func138 
  (pfOK_cons Try.func139 (pfOK_cons Try.func140 (pfOK_cons Try.func141 (pfOK_cons Try.func142 (pfOK_cons Try.func143 (pfOK_cons Try.func144 (pfOK_cons Try.func145 (pfOK_cons Try.func146 
  (pfOK_cons Try.func147 (pfOK_cons Try.func148 (pfOK_cons Try.func149 (pfOK_cons Try.func150 (pfOK_cons Try.func151 (pfOK_cons Try.func152 (pfOK_cons Try.func153 (pfOK_cons Try.func154 
  (pfOK_cons Try.func155 (pfOK_cons Try.func156 (pfOK_cons Try.func157 (pfOK_cons Try.func158 (pfOK_cons Try.func159 (pfOK_cons Try.func160 (pfOK_cons Try.func161 (pfOK_cons Try.func162 
  (pfOK_cons Try.func163 (pfOK_cons Try.func164 (pfOK_cons Try.func165 (pfOK_cons Try.func166 (pfOK_cons Try.func167 (pfOK_cons Try.func168 (pfOK_cons Try.func169 (pfOK_cons Try.func170 
  (pfOK_cons Try.func171 (pfOK_cons Try.func172 (pfOK_cons Try.func173 (pfOK_cons Try.func174 (pfOK_cons Try.func176 (pfOK_cons Try.func177 (pfOK_cons Try.func178 (pfOK_cons Try.func180 
  (pfOK_cons Try.func182 (pfOK_cons Try.func183 (pfOK_cons Try.func184 pfOK_nil)))))))))))))))))))))))))))))))))))))))))))))))))))))))))))))))))))))))))))))))))))))))))))))))))))))))))))))))))))))))))))))))))))))))))))))))))))))))))))))))))))))))))))))))))))
  (by kernel_rfl)
theorem cl97 (xs : List PV) (h1 : xs.length * 16 ≤ LIM) (h2 : xs.length ≤ LIM) : evF P E (fun _ _ _ => none) 2 97 [.s (.c (.p (.row 2 3 xs)))] [] = some ([.c (.own 104 2 xs)], []) := by
  have e : evF P E (fun _ _ _ => none) 2 97 [.s (.c (.p (.row 2 3 xs)))] [] = bif decide ((0 + xs.length) * 16 ≤ LIM) && decide (0 + xs.length ≤ LIM) then some ([.c (.own 104 2 (([] ++ xs).take (0 + xs.length)))], []) else none := by kernel_rfl
  rw [e]
  simp [h1, h2]
theorem cl150 (xs : List PV) (h1 : xs.length * 8 ≤ LIM) (h2 : xs.length ≤ LIM) : evF P E (fun _ _ _ => none) 2 150 [.s (.c (.p (.row 0 3 xs)))] [] = some ([.c (.own 50 0 xs)], []) := by
  have e : evF P E (fun _ _ _ => none) 2 150 [.s (.c (.p (.row 0 3 xs)))] [] = bif decide ((0 + xs.length) * 8 ≤ LIM) && decide (0 + xs.length ≤ LIM) then some ([.c (.own 50 0 (([] ++ xs).take (0 + xs.length)))], []) else none := by kernel_rfl
  rw [e]
  simp [h1, h2]
def clones : List (Nat × (Nat × Nat × Nat)) := [(97, (104, 2, 16)), (150, (50, 0, 8))]
theorem hT0 : ∀ f args bs r, cloneT clones f args bs = some r → Contract Try.prog f args bs r := by
  refine cloneT_ok fun f e sh by_ hm xs h1 h2 => ?_
  have h0 : ∀ f args bs r, (fun (_ : FuncId) (_ : List AV) (_ : List (List CV)) => (none : R)) f args bs = some r → Contract Try.prog f args bs r := fun _ _ _ _ h => by cases h
  simp only [clones, List.mem_cons, List.not_mem_nil, or_false, Prod.mk.injEq] at hm
  rcases hm with ⟨rfl, rfl, rfl, rfl⟩ | ⟨rfl, rfl, rfl, rfl⟩
  · exact clone_contract (evF_sound envOK pOK h0 2 (by kernel_rfl)) (evF_sound envOK pOK h0 2 (cl97 xs h1 h2))
  · exact clone_contract (evF_sound envOK pOK h0 2 (by kernel_rfl)) (evF_sound envOK pOK h0 2 (cl150 xs h1 h2))
def T : FuncId → List AV → List (List CV) → R := cloneT clones
theorem hT : ∀ f args bs r, T f args bs = some r → Contract Try.prog f args bs r := hT0
end Go.Proofs.Ytnliglgellapdaa
