/- Env; Cs; Nf0; Nf1; Nf2; Nf3; Nf4; Nf5; Kb; Kc; Kd: texts put together. -/
import Derived.Test.YtclkgblckicabaaGreatProg
import Derived.Test.YtclkgblckicabaaGreatM2
/- What the evaluator is told of the program's types, loops and functions: printed by nf.py. -/
namespace Go.Proofs.YtclkgblckicabaaGreat
open Go.Dp
def tabs : Tabs where
  sl := [(22, (5, 0, 1)), (24, (176, 2, 16)), (25, (155, 2, 48)), (28, (3, 0, 8)), (46, (57, 2, 16)), (54, (55, 0, 8)),
  (153, (221, 2, 32))]
  sh := [(2, 0), (3, 0), (4, 0), (5, 0), (9, 0), (22, 0), (24, 0), (25, 0), (27, 4), (28, 0), (46, 0), (54, 0), (55, 0), (57, 2), (93, 0), (122, 0), (124, 3), (151, 0), (153, 0), (155, 2),
  (159, 0), (176, 2), (213, 0), (221, 2), (233, 0)]
  fl := [(27, [some (0, 0), some (1, 0), some (2, 0), some (3, 0)]), (57, [some (0, 0), some (1, 0)]), (124, [some (0, 0), some (1, 0), some (2, 0)]), (155, [some (0, 0), some (1, 0)]), (176, [some (0, 0), some (1, 0)]), (221, [some (0, 0), some (1, 0)])]
  ik := [(2, .i64), (3, .i64), (5, .u8), (55, .u64), (93, .u64)]
  zr := [(2, [.int .i64 0]), (3, [.int .i64 0]), (4, [.bool false]), (5, [.int .u8 0]), (9, [.str ⟨#[]⟩]), (22, [.row 0 2 []]),
  (24, [.row 0 2 []]), (25, [.row 0 2 []]), (27, [.int .i64 0, .int .i64 0, .row 0 2 [], .row 0 2 []]), (28, [.row 0 2 []]), (46, [.row 0 2 []]), (54, [.row 0 2 []]),
  (55, [.int .u64 0]), (57, [.int .u64 0, .int .u64 0]), (93, [.int .u64 0]), (124, [.row 0 2 [], .int .i64 0, .int .u64 0]), (153, [.row 0 2 []]), (155, [.row 0 2 [], .row 0 2 []]),
  (176, [.int .i64 0, .int .u64 0]), (221, [.int .i64 0, .row 0 2 []])]
  eqs := [(57, [0, 0]), (176, [0, 0])]
  bl := [(4, ())]
  st := [(9, ())]
  flat := [(2, ()), (3, ()), (4, ()), (5, ()), (9, ()), (55, ()), (57, ()), (93, ()), (176, ())]
def tLive : List (Nat × List (Nat × List Nat)) := [(4, [(0, [1, 5, 8, 16, 96, 97, 98]), (2, [1, 5, 8, 16, 139, 140])]), (27, [(0, [3, 9, 24, 25])]), (28, [(0, [2, 3, 9]), (2, [9, 10, 34, 35, 36])]),
  (29, [(0, [0, 1, 12, 13])]), (31, [(0, [3, 6, 7, 8])]), (33, [(0, [2, 22, 23, 24])]),
  (36, [(0, [6, 7, 8, 29, 30])]), (37, [(0, [2, 27, 28, 29])]), (105, [(0, [0, 2, 3, 4])]),
  (122, [(0, [0, 2, 7, 12, 13, 14])]), (127, [(0, [0, 1, 2, 7, 8])]), (131, [(0, [1, 2, 5, 13, 14, 15]), (2, [1, 2, 5, 13, 14, 15, 28, 29, 30])]),
  (132, [(0, [0, 1, 12, 13])]), (134, [(0, [1, 2, 5, 15, 16, 17]), (2, [1, 2, 5, 15, 16, 17, 35, 36, 37])]), (138, [(0, [2, 3, 7, 13, 14, 15])]),
  (144, [(0, [0, 1, 2, 7, 8])]), (146, [(0, [0, 11, 12, 13])]), (147, [(0, [0, 7, 8, 9])]),
  (161, [(0, [0, 1, 7, 33, 34, 35])]), (227, [(0, [0, 1, 2, 6, 7, 8])]), (229, [(0, [0, 1, 7, 27, 28, 29]), (2, [0, 1, 7, 10, 11, 12, 27, 28, 29])]),
  (231, [(0, [1, 18, 19, 20])]), (237, [(0, [2, 6, 7, 8, 16, 17, 18])]), (273, [(0, [0, 1, 7, 8])]),
  (283, [(0, [0, 1, 7, 8])]), (296, [(0, [0, 1, 2, 6, 7, 8])]), (297, [(0, [0, 1, 5, 6])]),
  (301, [(0, [2, 3, 13, 14, 15])]), (302, [(0, [2, 3, 21, 22, 23])]), (308, [(0, [0, 5, 8])]),
  (313, [(0, [0, 1, 7, 8])]), (314, [(0, [0, 1, 7, 8])]), (315, [(0, [0, 3, 4])]),
  (327, [(0, [2, 8, 9, 10, 11, 13, 14, 15, 16]), (2, [2, 8, 9, 10, 14, 15, 16, 17, 18])])]
def tRk : List (Nat × List RK) := [(4, [.c (.p (.bool))]), (12, [.c (.p (.bool))]), (26, [.agg [.p (.int .i64), .p (.int .i64), .p (.row 2), .p (.row 2)], .c (.p (.row 2)), .c (.p (.int .i64))]), (27, [.c (.p (.row 2)), .c (.p (.bool)), .c (.p (.bool))]), (28, [.c (.p (.row 2)), .c (.p (.bool)), .c (.p (.bool))]), (29, [.c (.p (.bool))]),
  (30, [.c (.p (.row 2)), .c (.p (.bool))]), (31, [.c (.p (.int .i64))]), (32, [.c (.p (.row 0)), .c (.p (.bool))]), (33, [.c (.p (.bool)), .c (.p (.bool))]), (34, [.agg [.p (.int .i64), .p (.int .i64), .p (.row 2), .p (.row 2)], .c (.p (.row 2))]), (35, [.c (.p (.row 2)), .c (.p (.bool))]),
  (36, [.c (.p (.int .i64)), .c (.p (.row 2)), .c (.p (.row 0))]), (37, [.c (.p (.bool)), .c (.p (.bool))]), (105, [.agg [.p (.int .i64), .p (.int .i64), .p (.row 2), .p (.row 2)]]), (107, [.c (.own 176 2)]), (110, [.c (.p (.bool))]), (117, [.c (.p (.bool))]),
  (122, [.c (.p (.int .u64))]), (126, [.agg [.p (.int .i64), .p (.int .i64), .p (.row 2), .p (.row 2)]]), (127, [.c (.p (.row 2))]), (128, [.c (.p (.int .i64))]), (129, [.c (.p (.bool))]), (130, [.c (.own 57 2)]),
  (131, [.c (.p (.row 2))]), (132, [.c (.p (.bool))]), (133, [.c (.p (.bool))]), (134, [.c (.p (.row 2))]), (135, [.c (.p (.bool))]), (136, [.c (.p (.bool))]),
  (137, [.c (.p (.bool))]), (138, [.c (.p (.row 0))]), (139, [.c (.p (.bool))]), (140, [.c (.p (.bool))]), (141, [.c (.p (.bool))]), (142, [.c (.p (.int .i64))]),
  (143, [.c (.p (.int .i64))]), (144, [.c (.own 55 0)]), (145, [.c (.p (.bool))]), (146, [.c (.p (.bool))]), (147, [.c (.p (.bool))]), (153, [.c (.p (.bool))]),
  (161, [.c (.p (.bool))]), (162, [.c (.p (.int .i64))]), (187, [.c (.p (.bool))]), (212, [.c (.p (.bool))]), (227, [.agg [.p (.int .i64), .p (.int .i64), .p (.row 2), .own ⟨155, some ⟨1, 221, 2, 0, none⟩⟩ 2]]), (228, [.c (.own 176 2)]),
  (229, [.c (.p (.int .i64))]), (230, [.c (.p (.bool))]), (231, [.c (.p (.bool))]), (234, [.c (.p (.int .u64))]), (235, [.c (.p (.int .u64))]), (236, [.agg [.p (.int .u64), .p (.int .u64)]]),
  (237, [.agg [.p (.int .u64), .p (.int .u64)]]), (238, [.agg [.p (.int .u64), .p (.int .u64)]]), (239, [.agg [.p (.int .u64), .p (.int .u64)]]), (240, [.agg [.p (.int .u64), .p (.int .u64)]]), (241, [.c (.own 55 0)]), (242, [.c (.p (.bool))]),
  (243, [.c (.p (.bool))]), (244, [.c (.p (.bool))]), (245, [.c (.p (.bool))]), (246, [.c (.p (.bool))]), (247, [.c (.p (.bool))]), (248, [.c (.p (.bool))]),
  (249, [.c (.p (.bool))]), (250, [.c (.p (.int .i64))]), (251, [.c (.p (.int .u64))]), (252, [.c (.p (.bool))]), (253, [.c (.p (.bool))]), (255, [.c (.p (.bool))]),
  (263, [.c (.p (.int .i64)), .c (.p (.int .i64)), .c (.p (.int .i64))]), (264, [.c (.p (.bool))]), (265, [.c (.p (.bool))]), (273, [.c (.p (.int .i64))]), (281, [.c (.p (.int .i64)), .c (.p (.int .i64)), .c (.p (.int .i64))]), (283, [.c (.p (.int .i64))]),
  (296, [.agg [.p (.row 2), .own 221 2]]), (297, [.c (.p (.int .u64))]), (298, [.c (.p (.bool))]), (299, [.c (.p (.bool))]), (300, [.c (.p (.bool))]), (301, [.c (.p (.bool))]),
  (302, [.c (.p (.bool))]), (303, [.c (.p (.int .u64)), .c (.p (.int .u64)), .c (.p (.bool))]), (304, [.c (.p (.int .u64))]), (305, [.c (.p (.int .u64))]), (306, [.c (.p (.int .i64))]), (307, [.agg [.p (.int .u64), .p (.int .u64)]]),
  (308, [.c (.p (.int .i64))]), (309, [.agg [.p (.int .u64), .p (.int .u64)]]), (310, [.agg [.p (.int .u64), .p (.int .u64)]]), (311, [.c (.p (.int .u64))]), (312, [.c (.p (.int .u64))]), (313, [.c (.p (.int .i64))]),
  (314, [.c (.p (.int .i64))]), (315, [.c (.p (.int .u64))]), (316, [.c (.p (.bool))]), (326, [.c (.p (.bool))]), (327, [.c (.p (.int .u64)), .c (.p (.int .u64))]), (328, [.agg [.p (.int .u64), .p (.int .u64)]]),
  (329, [.agg [.p (.int .u64), .p (.int .u64)]]), (330, [.agg [.p (.int .u64), .p (.int .u64)], .c (.p (.bool))]), (331, [.agg [.p (.int .u64), .p (.int .u64)]]), (332, [.c (.p (.bool))]), (348, [.c (.p (.int .i64))]), (350, [.c (.p (.int .u64)), .c (.p (.int .u64))]),
  (351, [.c (.p (.int .i64))])]
def tBk : List (Nat × List (List Kind)) := [(105, [[.p (.row 0), .p (.int .i64), .p (.int .u64)]]), (107, [[.p (.row 0), .p (.int .i64), .p (.int .u64)]]), (126, [[.p (.row 0), .p (.int .i64), .p (.int .u64)]]), (127, [[.p (.row 0), .p (.int .i64), .p (.int .u64)]]), (128, [[.p (.row 0), .p (.int .i64), .p (.int .u64)]]), (142, [[.p (.row 0), .p (.int .i64), .p (.int .u64)]]),
  (143, [[.p (.row 0), .p (.int .i64), .p (.int .u64)]]), (144, [[.p (.row 0), .p (.int .i64), .p (.int .u64)]]), (145, [[.p (.row 0), .p (.int .i64), .p (.int .u64)]]), (227, [[.p (.row 0), .p (.int .i64), .p (.int .u64)]]), (228, [[.p (.row 0), .p (.int .i64), .p (.int .u64)]]), (236, [[.p (.row 0), .p (.int .i64), .p (.int .u64)]]),
  (248, [[.p (.int .i64)]]), (250, [[.p (.row 0), .p (.int .i64), .p (.int .u64)]]), (251, [[.p (.row 0), .p (.int .i64), .p (.int .u64)]]), (265, [[.p (.int .i64)]]), (296, [[.p (.row 0), .p (.int .i64), .p (.int .u64)]]), (300, [[.p (.int .i64), .p (.int .i64), .p (.row 2), .p (.row 2)]]),
  (315, [[.p (.row 0), .p (.int .i64), .p (.int .u64)]]), (249247, [[.p (.int .i64)]]), (249314, [[.p (.int .i64)]]), (266187, [[.p (.int .i64)]]), (266273, [[.p (.int .i64)]]), (301212, [[.p (.int .i64), .p (.int .i64), .p (.row 2), .p (.row 2)]]),
  (301283, [[.p (.int .i64), .p (.int .i64), .p (.row 2), .p (.row 2)]])]
def tPlain : List (Nat × Unit) := [(4, ()), (12, ()), (29, ()), (31, ()), (33, ()), (37, ()), (110, ()), (117, ()), (122, ()), (129, ()), (130, ()), (132, ()),
  (133, ()), (135, ()), (136, ()), (137, ()), (139, ()), (140, ()), (141, ()), (146, ()), (147, ()), (153, ()), (161, ()), (162, ()),
  (229, ()), (230, ()), (231, ()), (234, ()), (235, ()), (237, ()), (238, ()), (239, ()), (240, ()), (241, ()), (242, ()), (244, ()),
  (245, ()), (246, ()), (248, ()), (249, ()), (252, ()), (253, ()), (255, ()), (263, ()), (264, ()), (265, ()), (281, ()), (297, ()),
  (298, ()), (299, ()), (301, ()), (302, ()), (303, ()), (304, ()), (305, ()), (306, ()), (307, ()), (308, ()), (309, ()), (310, ()),
  (311, ()), (312, ()), (316, ()), (326, ()), (327, ()), (328, ()), (329, ()), (330, ()), (331, ()), (332, ()), (348, ()), (350, ()),
  (351, ()), (249247, ()), (249314, ()), (266187, ()), (266273, ())]
def tCt : List (Nat × CT) := [(2, .one (.int .i64)), (3, .one (.int .i64)), (4, .one (.bool)), (5, .one (.int .u8)), (9, .one (.str)), (22, .one (.row 0)),
  (24, .one (.row 2)), (25, .one (.row 2)), (27, .agg [.int .i64, .int .i64, .row 2, .row 2]), (28, .one (.row 0)), (46, .one (.row 2)), (54, .one (.row 0)),
  (55, .one (.int .u64)), (57, .agg [.int .u64, .int .u64]), (93, .one (.int .u64)), (124, .agg [.row 0, .int .i64, .int .u64]), (153, .one (.row 2)), (155, .agg [.row 2, .row 2]),
  (176, .agg [.int .i64, .int .u64]), (221, .agg [.int .i64, .row 2])]
def tAk : List (Nat × List CT) := [(4, [.one (.row 0), .one (.row 0)]), (12, [.one (.row 0), .one (.row 0)]), (26, [.one (.row 0)]), (27, [.agg [.int .i64, .int .i64, .row 2, .row 2], .one (.row 2), .one (.int .i64)]), (28, [.agg [.int .i64, .int .i64, .row 2, .row 2], .one (.row 2), .one (.int .i64)]), (29, [.one (.row 2), .one (.row 2)]),
  (30, [.agg [.int .i64, .int .i64, .row 2, .row 2], .one (.row 2)]), (31, [.one (.row 0)]), (32, [.agg [.int .i64, .int .i64, .row 2, .row 2], .one (.row 0), .one (.int .i64)]), (33, [.one (.int .i64), .one (.row 2), .one (.row 0)]), (34, [.one (.row 0)]), (35, [.agg [.int .i64, .int .i64, .row 2, .row 2], .one (.row 2)]),
  (36, [.one (.row 0)]), (37, [.one (.int .i64), .one (.row 2), .one (.row 0)]), (105, [.one (.any)]), (107, [.one (.any), .one (.int .i64), .one (.int .i64), .one (.int .i64)]), (110, [.agg [.int .i64, .int .i64, .row 2, .row 2], .one (.row 2)]), (117, [.one (.int .i64), .one (.int .i64), .one (.int .i64)]),
  (122, [.one (.int .i64), .one (.row 2), .one (.row 0)]), (126, [.one (.any)]), (127, [.one (.any), .one (.int .i64), .one (.int .i64)]), (128, [.one (.any), .one (.row 0)]), (129, [.agg [.int .i64, .int .i64, .row 2, .row 2], .one (.row 2)]), (130, [.one (.row 2)]),
  (131, [.agg [.int .i64, .int .i64, .row 2, .row 2], .one (.row 2)]), (132, [.one (.row 2), .one (.row 2)]), (133, [.agg [.int .i64, .int .i64, .row 2, .row 2], .one (.row 2)]), (134, [.agg [.int .i64, .int .i64, .row 2, .row 2], .one (.row 2)]), (135, [.agg [.int .i64, .int .i64, .row 2, .row 2], .one (.row 0)]), (136, [.agg [.int .i64, .int .i64, .row 2, .row 2], .one (.int .i64)]),
  (137, [.agg [.int .i64, .int .i64, .row 2, .row 2], .one (.row 2), .one (.row 0)]), (138, [.agg [.int .i64, .int .i64, .row 2, .row 2], .agg [.row 2, .row 2], .one (.row 0)]), (139, [.one (.int .i64), .one (.row 2)]), (140, [.one (.int .i64), .one (.int .i64), .one (.row 0)]), (141, [.agg [.int .u64, .int .u64], .one (.int .u64)]), (142, [.one (.any)]),
  (143, [.one (.any), .one (.int .i64)]), (144, [.one (.any), .one (.int .i64), .one (.int .i64)]), (145, [.one (.any), .one (.int .i64)]), (146, [.one (.int .i64), .one (.row 2)]), (147, [.one (.int .i64), .one (.row 0)]), (153, [.agg [.int .i64, .int .i64, .row 2, .row 2], .one (.row 2)]),
  (161, [.one (.int .i64), .one (.int .i64), .one (.row 2)]), (162, [.one (.row 2)]), (187, [.one (.row 0), .one (.any)]), (212, [.one (.row 2), .one (.any)]), (227, [.one (.any), .one (.int .i64), .one (.int .i64)]), (228, [.one (.any), .one (.int .i64), .one (.int .i64), .one (.int .i64)]),
  (229, [.one (.int .i64), .one (.int .i64), .one (.row 2)]), (230, [.agg [.int .i64, .int .i64, .row 2, .row 2]]), (231, [.agg [.int .i64, .int .i64, .row 2, .row 2]]), (234, [.one (.int .i64)]), (235, [.one (.int .i64), .one (.int .i64), .one (.int .u64), .one (.int .u64)]), (236, [.one (.any), .one (.int .i64)]),
  (237, [.one (.int .i64), .one (.row 2), .one (.row 2)]), (238, [.agg [.int .u64, .int .u64], .agg [.int .u64, .int .u64]]), (239, [.one (.int .i64), .one (.row 2), .one (.int .i64), .one (.row 2)]), (240, [.agg [.int .u64, .int .u64], .agg [.int .u64, .int .u64]]), (241, [.one (.row 0)]), (242, [.one (.int .i64)]),
  (243, [.one (.row 2), .one (.any)]), (244, [.agg [.int .u64, .int .u64]]), (245, [.one (.int .i64), .agg [.int .u64, .int .u64]]), (246, [.one (.int .i64)]), (247, [.one (.row 0), .one (.any)]), (248, [.one (.int .u64)]),
  (249, [.one (.int .i64), .one (.int .u64)]), (250, [.one (.any)]), (251, [.one (.any), .one (.int .i64)]), (252, [.one (.int .i64), .agg [.int .u64, .int .u64]]), (253, [.one (.int .i64), .one (.int .u64)]), (255, [.one (.int .i64), .one (.int .i64), .one (.row 2), .one (.int .i64)]),
  (263, [.one (.int .i64)]), (264, [.one (.int .i64), .one (.int .i64), .agg [.int .i64, .int .u64]]), (265, [.one (.int .i64)]), (273, [.one (.row 0), .one (.any)]), (281, [.one (.int .i64)]), (283, [.one (.row 2), .one (.any)]),
  (296, [.one (.any), .one (.int .i64), .one (.int .i64)]), (297, [.one (.int .i64), .one (.int .u64)]), (298, [.one (.int .i64)]), (299, [.one (.int .i64), .one (.int .i64), .agg [.int .i64, .int .u64]]), (300, [.agg [.row 2, .row 2]]), (301, [.agg [.int .i64, .int .i64, .row 2, .row 2], .agg [.row 2, .row 2]]),
  (302, [.agg [.int .i64, .int .i64, .row 2, .row 2], .agg [.row 2, .row 2]]), (303, [.one (.int .i64), .one (.int .u64), .one (.int .u64)]), (304, [.one (.int .i64), .one (.int .u64), .one (.int .u64), .one (.bool)]), (305, [.one (.bool)]), (306, [.one (.int .i64), .one (.int .u64)]), (307, [.one (.int .i64), .agg [.int .u64, .int .u64], .agg [.int .u64, .int .u64], .agg [.int .u64, .int .u64]]),
  (308, [.one (.row 2), .one (.int .i64)]), (309, [.one (.int .i64), .one (.int .i64), .agg [.int .u64, .int .u64], .agg [.int .u64, .int .u64]]), (310, [.one (.int .i64), .agg [.int .u64, .int .u64], .agg [.int .u64, .int .u64]]), (311, [.one (.int .u64), .one (.int .u64)]), (312, [.one (.int .u64), .one (.int .u64)]), (313, [.one (.row 2), .one (.any)]),
  (314, [.one (.row 0), .one (.any)]), (315, [.one (.any)]), (316, [.one (.int .i64), .one (.int .u64), .one (.int .u64)]), (326, [.one (.int .i64), .one (.int .u64), .one (.int .u64)]), (327, [.one (.int .u64), .one (.int .u64), .one (.int .u64)]), (328, [.agg [.int .u64, .int .u64], .agg [.int .u64, .int .u64], .agg [.int .u64, .int .u64]]),
  (329, [.agg [.int .u64, .int .u64], .agg [.int .u64, .int .u64], .agg [.int .u64, .int .u64]]), (330, [.agg [.int .u64, .int .u64], .agg [.int .u64, .int .u64]]), (331, [.one (.bool), .one (.bool)]), (332, [.one (.int .i64), .one (.int .u64), .one (.int .u64)]), (348, [.one (.int .u64)]), (350, [.one (.int .u64), .one (.int .u64)]),
  (351, [.one (.int .u64)])]
def tOwn : List (Nat × List (Nat × List (Option Nat × Nat × Et × Nat))) := [(4, [(0, [(none, 16, 55, 0)])]), (105, [(0, [(some 1, 2, 0, 2), (some 1, 3, 0, 2)])]), (127, [(0, [(none, 7, 57, 2)])]),
  (144, [(0, [(none, 7, 55, 0)])]), (227, [(0, [(some 1, 2, 0, 2), (some 1, 3, 0, 2), (some 2, 3, ⟨155, some ⟨1, 221, 2, 0, none⟩⟩, 2)])]), (229, [(0, [(none, 7, 3, 0)])]),
  (296, [(0, [(some 1, 0, 0, 2), (some 1, 1, 0, 2), (some 2, 1, 221, 2)])])]
def tCut : List (Nat × List (Nat × List Nat)) := []
def tNest : List (Nat × Kd) := [(25, ⟨1, 221, 2, 0, none⟩)]
def tSorts : List (Nat × Nat) := []
theorem sortsOK : ∀ g n, (g, n) ∈ tSorts → SortOK Tryz.prog n g := by
  intro g n h
  simp [tSorts] at h
def tAo : List (Nat × List (Option (Et × Nat))) := []
def tRo : List (Nat × Unit) := [(245243, ()), (245313, ())]
def tExt : List (Nat × Nat) := [(352, 1)]
theorem extOK : ∀ g n, (g, n) ∈ tExt → ExtOK Tryz.prog n g := by
  intro g n h
  simp only [tExt, List.mem_cons, Prod.mk.injEq, List.not_mem_nil, or_false] at h
  rcases h with ⟨rfl, rfl⟩
  · exact add64_ok Tryz.func352 (by kernel_rfl) (by kernel_rfl) (by kernel_rfl) (by kernel_rfl)
noncomputable def E : Env := tabs.env tLive tRk tBk tPlain tCt tAk tOwn tCut tNest tSorts tAo tExt tRo
theorem envOK : EnvOK Tryz.prog E := Tabs.sound (by kernel_rfl) sortsOK extOK
noncomputable def pTab : List (Nat × Func) := [(4, Tryz.f4), (12, Tryz.f12), (26, Tryz.f26), (27, Tryz.f27), (28, Tryz.f28), (29, Tryz.f29), (30, Tryz.f30), (31, Tryz.f31), (32, Tryz.f32), (33, Tryz.f33), (34, Tryz.f34), (35, Tryz.f35),
  (36, Tryz.f36), (37, Tryz.f37), (105, Tryz.f105), (107, Tryz.f107), (110, Tryz.f110), (117, Tryz.f117), (122, Tryz.f122), (126, Tryz.f126), (127, Tryz.f127), (128, Tryz.f128), (129, Tryz.f129), (130, Tryz.f130),
  (131, Tryz.f131), (132, Tryz.f132), (133, Tryz.f133), (134, Tryz.f134), (135, Tryz.f135), (136, Tryz.f136), (137, Tryz.f137), (138, Tryz.f138), (139, Tryz.f139), (140, Tryz.f140), (141, Tryz.f141), (142, Tryz.f142),
  (143, Tryz.f143), (144, Tryz.f144), (145, Tryz.f145), (146, Tryz.f146), (147, Tryz.f147), (153, Tryz.f153), (161, Tryz.f161), (162, Tryz.f162), (187, Tryz.f187), (212, Tryz.f212), (227, Tryz.f227), (228, Tryz.f228),
  (229, Tryz.f229), (230, Tryz.f230), (231, Tryz.f231), (234, Tryz.f234), (235, Tryz.f235), (236, Tryz.f236), (237, Tryz.f237), (238, Tryz.f238), (239, Tryz.f239), (240, Tryz.f240), (241, Tryz.f241), (242, Tryz.f242),
  (243, Tryz.f243), (244, Tryz.f244), (245, Tryz.f245), (246, Tryz.f246), (247, Tryz.f247), (248, Tryz.f248), (249, Tryz.f249), (250, Tryz.f250), (251, Tryz.f251), (252, Tryz.f252), (253, Tryz.f253), (255, Tryz.f255),
  (263, Tryz.f263), (264, Tryz.f264), (265, Tryz.f265), (273, Tryz.f273), (281, Tryz.f281), (283, Tryz.f283), (296, Tryz.f296), (297, Tryz.f297), (298, Tryz.f298), (299, Tryz.f299), (300, Tryz.f300), (301, Tryz.f301),
  (302, Tryz.f302), (303, Tryz.f303), (304, Tryz.f304), (305, Tryz.f305), (306, Tryz.f306), (307, Tryz.f307), (308, Tryz.f308), (309, Tryz.f309), (310, Tryz.f310), (311, Tryz.f311), (312, Tryz.f312), (313, Tryz.f313),
  (314, Tryz.f314), (315, Tryz.f315), (316, Tryz.f316), (326, Tryz.f326), (327, Tryz.f327), (328, Tryz.f328), (329, Tryz.f329), (330, Tryz.f330), (331, Tryz.f331), (332, Tryz.f332), (348, Tryz.f348), (350, Tryz.f350),
  (351, Tryz.f351)]
noncomputable def P : FuncId → Option Func := lk pTab
theorem pOK : PfOK Tryz.prog P := pfOK_of (tab := pTab)
  (pfOK_cons Tryz.func4 (pfOK_cons Tryz.func12 (pfOK_cons Tryz.func26 (pfOK_cons Tryz.func27 (pfOK_cons Tryz.func28 (pfOK_cons Tryz.func29 (pfOK_cons Tryz.func30 (pfOK_cons Tryz.func31 
  (pfOK_cons Tryz.func32 (pfOK_cons Tryz.func33 (pfOK_cons Tryz.func34 (pfOK_cons Tryz.func35 (pfOK_cons Tryz.func36 (pfOK_cons Tryz.func37 (pfOK_cons Tryz.func105 (pfOK_cons Tryz.func107 
  (pfOK_cons Tryz.func110 (pfOK_cons Tryz.func117 (pfOK_cons Tryz.func122 (pfOK_cons Tryz.func126 (pfOK_cons Tryz.func127 (pfOK_cons Tryz.func128 (pfOK_cons Tryz.func129 (pfOK_cons Tryz.func130 
  (pfOK_cons Tryz.func131 (pfOK_cons Tryz.func132 (pfOK_cons Tryz.func133 (pfOK_cons Tryz.func134 (pfOK_cons Tryz.func135 (pfOK_cons Tryz.func136 (pfOK_cons Tryz.func137 (pfOK_cons Tryz.func138 
  (pfOK_cons Tryz.func139 (pfOK_cons Tryz.func140 (pfOK_cons Tryz.func141 (pfOK_cons Tryz.func142 (pfOK_cons Tryz.func143 (pfOK_cons Tryz.func144 (pfOK_cons Tryz.func145 (pfOK_cons Tryz.func146 
  (pfOK_cons Tryz.func147 (pfOK_cons Tryz.func153 (pfOK_cons Tryz.func161 (pfOK_cons Tryz.func162 (pfOK_cons Tryz.func187 (pfOK_cons Tryz.func212 (pfOK_cons Tryz.func227 (pfOK_cons Tryz.func228 
  (pfOK_cons Tryz.func229 (pfOK_cons Tryz.func230 (pfOK_cons Tryz.func231 (pfOK_cons Tryz.func234 (pfOK_cons Tryz.func235 (pfOK_cons Tryz.func236 (pfOK_cons Tryz.func237 (pfOK_cons Tryz.func238 
  (pfOK_cons Tryz.func239 (pfOK_cons Tryz.func240 (pfOK_cons Tryz.func241 (pfOK_cons Tryz.func242 (pfOK_cons Tryz.func243 (pfOK_cons Tryz.func244 (pfOK_cons Tryz.func245 (pfOK_cons Tryz.func246 
  (pfOK_cons Tryz.func247 (pfOK_cons Tryz.func248 (pfOK_cons Tryz.func249 (pfOK_cons Tryz.func250 (pfOK_cons Tryz.func251 (pfOK_cons Tryz.func252 (pfOK_cons Tryz.func253 (pfOK_cons Tryz.func255 
  (pfOK_cons Tryz.func263 (pfOK_cons Tryz.func264 (pfOK_cons Tryz.func265 (pfOK_cons Tryz.func273 (pfOK_cons Tryz.func281 (pfOK_cons Tryz.func283 (pfOK_cons Tryz.func296 (pfOK_cons Tryz.func297 
  (pfOK_cons Tryz.func298 (pfOK_cons Tryz.func299 (pfOK_cons Tryz.func300 (pfOK_cons Tryz.func301 (pfOK_cons Tryz.func302 (pfOK_cons Tryz.func303 (pfOK_cons Tryz.func304 (pfOK_cons Tryz.func305 
  (pfOK_cons Tryz.func306 (pfOK_cons Tryz.func307 (pfOK_cons Tryz.func308 (pfOK_cons Tryz.func309 (pfOK_cons Tryz.func310 (pfOK_cons Tryz.func311 (pfOK_cons Tryz.func312 (pfOK_cons Tryz.func313 
  (pfOK_cons Tryz.func314 (pfOK_cons Tryz.func315 (pfOK_cons Tryz.func316 (pfOK_cons Tryz.func326 (pfOK_cons Tryz.func327 (pfOK_cons Tryz.func328 (pfOK_cons Tryz.func329 (pfOK_cons Tryz.func330 
  (pfOK_cons Tryz.func331 (pfOK_cons Tryz.func332 (pfOK_cons Tryz.func348 (pfOK_cons Tryz.func350 (pfOK_cons Tryz.func351 pfOK_nil)))))))))))))))))))))))))))))))))))))))))))))))))))))))))))))))))))))))))))))))))))))))))))))))))))))))))))))
  (by kernel_rfl)
theorem cl130 (xs : List PV) (h1 : xs.length * 16 ≤ LIM) (h2 : xs.length ≤ LIM) : evF P E (fun _ _ _ => none) 2 130 [.s (.c (.p (.row 2 3 xs)))] [] = some ([.c (.own 57 2 xs)], []) := by
  have e : evF P E (fun _ _ _ => none) 2 130 [.s (.c (.p (.row 2 3 xs)))] [] = bif decide ((0 + xs.length) * 16 ≤ LIM) && decide (0 + xs.length ≤ LIM) then some ([.c (.own 57 2 (([] ++ xs).take (0 + xs.length)))], []) else none := by kernel_rfl
  rw [e]
  simp [h1, h2]
theorem cl241 (xs : List PV) (h1 : xs.length * 8 ≤ LIM) (h2 : xs.length ≤ LIM) : evF P E (fun _ _ _ => none) 2 241 [.s (.c (.p (.row 0 3 xs)))] [] = some ([.c (.own 55 0 xs)], []) := by
  have e : evF P E (fun _ _ _ => none) 2 241 [.s (.c (.p (.row 0 3 xs)))] [] = bif decide ((0 + xs.length) * 8 ≤ LIM) && decide (0 + xs.length ≤ LIM) then some ([.c (.own 55 0 (([] ++ xs).take (0 + xs.length)))], []) else none := by kernel_rfl
  rw [e]
  simp [h1, h2]
def clones : List (Nat × (Nat × Nat × Nat)) := [(130, (57, 2, 16)), (241, (55, 0, 8))]
theorem hT0 : ∀ f args bs r, cloneT clones f args bs = some r → Contract Tryz.prog f args bs r := by
  refine cloneT_ok fun f e sh by_ hm xs h1 h2 => ?_
  have h0 : ∀ f args bs r, (fun (_ : FuncId) (_ : List AV) (_ : List (List CV)) => (none : R)) f args bs = some r → Contract Tryz.prog f args bs r := fun _ _ _ _ h => by cases h
  simp only [clones, List.mem_cons, List.not_mem_nil, or_false, Prod.mk.injEq] at hm
  rcases hm with ⟨rfl, rfl, rfl, rfl⟩ | ⟨rfl, rfl, rfl, rfl⟩
  · exact clone_contract (evF_sound envOK pOK h0 2 (by kernel_rfl)) (evF_sound envOK pOK h0 2 (cl130 xs h1 h2))
  · exact clone_contract (evF_sound envOK pOK h0 2 (by kernel_rfl)) (evF_sound envOK pOK h0 2 (cl241 xs h1 h2))
def T : FuncId → List AV → List (List CV) → R := cloneT clones
theorem hT : ∀ f args bs r, T f args bs = some r → Contract Tryz.prog f args bs r := hT0
end Go.Proofs.YtclkgblckicabaaGreat
/- Calls and loops of the program, by shape: printed by nf.py. -/
set_option linter.unusedVariables false
namespace Go.Proofs.YtclkgblckicabaaGreat
open Go.Dp
noncomputable section
/-! 4 : laws.FnSettled -/
def c4 (k : Nat) (code more : List PV) : R := evF P E T k 4 [.s (.c (.p (PV.row 0 0 code))), .s (.c (.p (PV.row 0 0 more)))] []
def r4 (b : Bool) : R := some ([.c (.p (PV.bool b))], [])
def R4 (x0 : R) (K0 : Bool → R) : R := x0.bind fun q0 => bif lensB q0.2 [] && lensS q0.1 [.c (.p (.bool))] then (cBool (resAt q0.1 0)).bind fun b => K0 b else none
@[simp] theorem R4_r (b : Bool) (K0 : Bool → R) : R4 (r4 b) K0 = K0 b := by kernel_rfl
def L4_1 (k n : Nat) (more l : List PV) (stateLen : Nat) (t96 : List PV) (t97 t98 n1 n11 : Int) (l1 l2 xs : List PV) : R := evLoopAt P E T k 4 4 [] [1, 1, 1, 1, 1, 1, 0, 1, 0, 1, 1, 1, 0, 1, 0] [] n ⟨mkT 223 [(1, .s (.c (.p (PV.row 0 0 more)))), (5, .s (.c (.bptr 0 0))), (8, .s (.c (.p (PV.row 2 0 l)))), (16, .s (.c (.loc 1 0 0 0 stateLen))), (96, .s (.c (.p (PV.row 2 0 t96)))), (97, .s (.c (.p (PV.int .i64 t97)))), (98, .s (.c (.p (PV.int .i64 t98))))], [.box [.p (PV.int .i64 n1), .p (PV.int .i64 n11), .p (PV.row 2 0 l1), .p (PV.row 2 0 l2)], .arr 55 0 0 false xs]⟩
def L4_2 (k n : Nat) (more l : List PV) (stateLen : Nat) (t139 t140 n1 n11 : Int) (l1 l2 xs : List PV) : R := evLoopAt P E T k 4 4 [] [1, 1, 1, 1, 1, 1, 0, 1, 0, 1, 1, 1, 1, 1, 0] [] n ⟨mkT 223 [(1, .s (.c (.p (PV.row 0 0 more)))), (5, .s (.c (.bptr 0 0))), (8, .s (.c (.p (PV.row 2 0 l)))), (16, .s (.c (.loc 1 0 0 0 stateLen))), (139, .s (.c (.p (PV.int .i64 t139)))), (140, .s (.c (.p (PV.int .i64 t140))))], [.box [.p (PV.int .i64 n1), .p (PV.int .i64 n11), .p (PV.row 2 0 l1), .p (PV.row 2 0 l2)], .arr 55 0 0 false xs]⟩
def L4_3 (k n : Nat) (more l state : List PV) (t139 t140 n1 n11 : Int) (l1 l2 : List PV) : R := evLoopAt P E T k 4 4 [] [1, 1, 1, 1, 1, 1, 0, 1, 0, 1, 1, 1, 1, 1, 0] [] n ⟨mkT 223 [(1, .s (.c (.p (PV.row 0 0 more)))), (5, .s (.c (.bptr 0 0))), (8, .s (.c (.p (PV.row 2 0 l)))), (16, .s (.c (.p (PV.row 0 0 state)))), (139, .s (.c (.p (PV.int .i64 t139)))), (140, .s (.c (.p (PV.int .i64 t140))))], [.box [.p (PV.int .i64 n1), .p (PV.int .i64 n11), .p (PV.row 2 0 l1), .p (PV.row 2 0 l2)]]⟩
/-! 12 : laws.big -/
def c12 (k : Nat) (code more : List PV) : R := evF P E T k 12 [.s (.c (.p (PV.row 0 0 code))), .s (.c (.p (PV.row 0 0 more)))] []
def r12 (b : Bool) : R := some ([.c (.p (PV.bool b))], [])
def R12 (x0 : R) (K0 : Bool → R) : R := x0.bind fun q0 => bif lensB q0.2 [] && lensS q0.1 [.c (.p (.bool))] then (cBool (resAt q0.1 0)).bind fun b => K0 b else none
@[simp] theorem R12_r (b : Bool) (K0 : Bool → R) : R12 (r12 b) K0 = K0 b := by kernel_rfl
/-! 26 : spec.DrawSettleSpans -/
def c26 (k : Nat) (code : List PV) : R := evF P E T k 26 [.s (.c (.p (PV.row 0 0 code)))] []
def r26 (qr qr1 : Int) (l l1 l2 : List PV) (qr2 : Int) : R := some ([.agg [.p (PV.int .i64 qr), .p (PV.int .i64 qr1), .p (PV.row 2 0 l), .p (PV.row 2 0 l1)], .c (.p (PV.row 2 0 l2)), .c (.p (PV.int .i64 qr2))], [])
def R26 (x0 : R) (K0 : Int → Int → List PV → List PV → List PV → Int → R) : R := x0.bind fun q0 => bif lensB q0.2 [] && lensS q0.1 [.agg [.p (.int .i64), .p (.int .i64), .p (.row 2), .p (.row 2)], .c (.p (.row 2)), .c (.p (.int .i64))] then (cInt (Dp.partAt q0.1 0 0) .i64).bind fun qr => (cInt (Dp.partAt q0.1 0 1) .i64).bind fun qr1 => (cRow (Dp.partAt q0.1 0 2) 2).bind fun l => (cRow (Dp.partAt q0.1 0 3) 2).bind fun l1 => (cRow (resAt q0.1 1) 2).bind fun l2 => (cInt (resAt q0.1 2) .i64).bind fun qr2 => K0 qr qr1 l l1 l2 qr2 else none
@[simp] theorem R26_r (qr qr1 : Int) (l l1 l2 : List PV) (qr2 : Int) (K0 : Int → Int → List PV → List PV → List PV → Int → R) : R26 (r26 qr qr1 l l1 l2 qr2) K0 = K0 qr qr1 l l1 l2 qr2 := by kernel_rfl
/-! 27 : impl.SettleSpans -/
def c27 (k : Nat) (p p1 : Int) (p2 p3 spans : List PV) (rounds : Int) : R := evF P E T k 27 [.s (.c (.p (PV.agg [.int .i64 p, .int .i64 p1, .row 2 0 p2, .row 2 0 p3]))), .s (.c (.p (PV.row 2 0 spans))), .s (.c (.p (PV.int .i64 rounds)))] []
def r27 (l : List PV) (b b1 : Bool) : R := some ([.c (.p (PV.row 2 0 l)), .c (.p (PV.bool b)), .c (.p (PV.bool b1))], [])
def R27 (x0 : R) (K0 : List PV → Bool → Bool → R) : R := x0.bind fun q0 => bif lensB q0.2 [] && lensS q0.1 [.c (.p (.row 2)), .c (.p (.bool)), .c (.p (.bool))] then (cRow (resAt q0.1 0) 2).bind fun l => (cBool (resAt q0.1 1)).bind fun b => (cBool (resAt q0.1 2)).bind fun b1 => K0 l b b1 else none
@[simp] theorem R27_r (l : List PV) (b b1 : Bool) (K0 : List PV → Bool → Bool → R) : R27 (r27 l b b1) K0 = K0 l b b1 := by kernel_rfl
def L27_1 (k n : Nat) (outLen : Nat) (t24 t25 n1 n11 : Int) (l l1 xs : List PV) : R := evLoopAt P E T k 27 27 [] [1, 1, 1, 0, 1, 0] [] n ⟨mkT 37 [(3, .s (.c (.bptr 0 0))), (9, .s (.c (.loc 1 0 2 0 outLen))), (24, .s (.c (.p (PV.int .i64 t24)))), (25, .s (.c (.p (PV.int .i64 t25))))], [.box [.p (PV.int .i64 n1), .p (PV.int .i64 n11), .p (PV.row 2 0 l), .p (PV.row 2 0 l1)], .arr 57 2 0 false xs]⟩
def L27_2 (k n : Nat) (out : List PV) (t24 t25 n1 n11 : Int) (l l1 : List PV) : R := evLoopAt P E T k 27 27 [] [1, 1, 1, 0, 1, 0] [] n ⟨mkT 37 [(3, .s (.c (.bptr 0 0))), (9, .s (.c (.p (PV.row 2 0 out)))), (24, .s (.c (.p (PV.int .i64 t24)))), (25, .s (.c (.p (PV.int .i64 t25))))], [.box [.p (PV.int .i64 n1), .p (PV.int .i64 n11), .p (PV.row 2 0 l), .p (PV.row 2 0 l1)]]⟩
/-! 28 : spec.SettleSpans -/
def c28 (k : Nat) (p p1 : Int) (p2 p3 spans : List PV) (rounds : Int) : R := evF P E T k 28 [.s (.c (.p (PV.agg [.int .i64 p, .int .i64 p1, .row 2 0 p2, .row 2 0 p3]))), .s (.c (.p (PV.row 2 0 spans))), .s (.c (.p (PV.int .i64 rounds)))] []
def r28 (l : List PV) (b b1 : Bool) : R := some ([.c (.p (PV.row 2 0 l)), .c (.p (PV.bool b)), .c (.p (PV.bool b1))], [])
def R28 (x0 : R) (K0 : List PV → Bool → Bool → R) : R := x0.bind fun q0 => bif lensB q0.2 [] && lensS q0.1 [.c (.p (.row 2)), .c (.p (.bool)), .c (.p (.bool))] then (cRow (resAt q0.1 0) 2).bind fun l => (cBool (resAt q0.1 1)).bind fun b => (cBool (resAt q0.1 2)).bind fun b1 => K0 l b b1 else none
@[simp] theorem R28_r (l : List PV) (b b1 : Bool) (K0 : List PV → Bool → Bool → R) : R28 (r28 l b b1) K0 = K0 l b b1 := by kernel_rfl
def L28_1 (k n : Nat) (rounds : Int) (outLen : Nat) (n1 n11 : Int) (l l1 xs : List PV) : R := evLoopAt P E T k 28 28 [] [1, 1, 1, 0, 0] [] n ⟨mkT 53 [(2, .s (.c (.p (PV.int .i64 rounds)))), (3, .s (.c (.bptr 0 0))), (9, .s (.c (.loc 1 0 2 0 outLen)))], [.box [.p (PV.int .i64 n1), .p (PV.int .i64 n11), .p (PV.row 2 0 l), .p (PV.row 2 0 l1)], .arr 57 2 0 false xs]⟩
def L28_2 (k n : Nat) (rounds : Int) (out : List PV) (n1 n11 : Int) (l l1 : List PV) : R := evLoopAt P E T k 28 28 [] [1, 1, 1, 0, 0] [] n ⟨mkT 53 [(2, .s (.c (.p (PV.int .i64 rounds)))), (3, .s (.c (.bptr 0 0))), (9, .s (.c (.p (PV.row 2 0 out))))], [.box [.p (PV.int .i64 n1), .p (PV.int .i64 n11), .p (PV.row 2 0 l), .p (PV.row 2 0 l1)]]⟩
def L28_3 (k n : Nat) (out : List PV) (still : Bool) (t34 : List PV) (t35 t36 : Int) : R := evLoopAt P E T k 28 28 [] [1, 1, 1, 1, 1, 0, 1, 0] [] n ⟨mkT 53 [(9, .s (.c (.p (PV.row 2 0 out)))), (10, .s (.c (.p (PV.bool still)))), (34, .s (.c (.p (PV.row 2 0 t34)))), (35, .s (.c (.p (PV.int .i64 t35)))), (36, .s (.c (.p (PV.int .i64 t36))))], []⟩
/-! 29 : laws.sameSpans -/
def c29 (k : Nat) (a b : List PV) : R := evF P E T k 29 [.s (.c (.p (PV.row 2 0 a))), .s (.c (.p (PV.row 2 0 b)))] []
def r29 (b : Bool) : R := some ([.c (.p (PV.bool b))], [])
def R29 (x0 : R) (K0 : Bool → R) : R := x0.bind fun q0 => bif lensB q0.2 [] && lensS q0.1 [.c (.p (.bool))] then (cBool (resAt q0.1 0)).bind fun b => K0 b else none
@[simp] theorem R29_r (b : Bool) (K0 : Bool → R) : R29 (r29 b) K0 = K0 b := by kernel_rfl
def L29_1 (k n : Nat) (a b : List PV) (t12 t13 : Int) : R := evLoopAt P E T k 29 29 [] [1, 1, 0, 1, 0] [] n ⟨mkT 26 [(0, .s (.c (.p (PV.row 2 0 a)))), (1, .s (.c (.p (PV.row 2 0 b)))), (12, .s (.c (.p (PV.int .i64 t12)))), (13, .s (.c (.p (PV.int .i64 t13))))], []⟩
/-! 30 : impl.SpanRound -/
def c30 (k : Nat) (p p1 : Int) (p2 p3 spans : List PV) : R := evF P E T k 30 [.s (.c (.p (PV.agg [.int .i64 p, .int .i64 p1, .row 2 0 p2, .row 2 0 p3]))), .s (.c (.p (PV.row 2 0 spans)))] []
def r30 (l : List PV) (b : Bool) : R := some ([.c (.p (PV.row 2 0 l)), .c (.p (PV.bool b))], [])
def R30 (x0 : R) (K0 : List PV → Bool → R) : R := x0.bind fun q0 => bif lensB q0.2 [] && lensS q0.1 [.c (.p (.row 2)), .c (.p (.bool))] then (cRow (resAt q0.1 0) 2).bind fun l => (cBool (resAt q0.1 1)).bind fun b => K0 l b else none
@[simp] theorem R30_r (l : List PV) (b : Bool) (K0 : List PV → Bool → R) : R30 (r30 l b) K0 = K0 l b := by kernel_rfl
/-! 31 : laws.numberOf -/
def c31 (k : Nat) (b : List PV) : R := evF P E T k 31 [.s (.c (.p (PV.row 0 0 b)))] []
def r31 (qr : Int) : R := some ([.c (.p (PV.int .i64 qr))], [])
def R31 (x0 : R) (K0 : Int → R) : R := x0.bind fun q0 => bif lensB q0.2 [] && lensS q0.1 [.c (.p (.int .i64))] then (cInt (resAt q0.1 0) .i64).bind fun qr => K0 qr else none
@[simp] theorem R31_r (qr : Int) (K0 : Int → R) : R31 (r31 qr) K0 = K0 qr := by kernel_rfl
def L31_1 (k n : Nat) (n1 : Int) (t6 : List PV) (t7 t8 : Int) : R := evLoopAt P E T k 31 31 [] [1, 1, 0, 1, 0] [] n ⟨mkT 20 [(3, .s (.c (.p (PV.int .i64 n1)))), (6, .s (.c (.p (PV.row 0 0 t6)))), (7, .s (.c (.p (PV.int .i64 t7)))), (8, .s (.c (.p (PV.int .i64 t8))))], []⟩
/-! 32 : impl.StepBy -/
def c32 (k : Nat) (p p1 : Int) (p2 p3 qs : List PV) (k1 : Int) : R := evF P E T k 32 [.s (.c (.p (PV.agg [.int .i64 p, .int .i64 p1, .row 2 0 p2, .row 2 0 p3]))), .s (.c (.p (PV.row 0 0 qs))), .s (.c (.p (PV.int .i64 k1)))] []
def r32 (l : List PV) (b : Bool) : R := some ([.c (.p (PV.row 0 0 l)), .c (.p (PV.bool b))], [])
def R32 (x0 : R) (K0 : List PV → Bool → R) : R := x0.bind fun q0 => bif lensB q0.2 [] && lensS q0.1 [.c (.p (.row 0)), .c (.p (.bool))] then (cRow (resAt q0.1 0) 0).bind fun l => (cBool (resAt q0.1 1)).bind fun b => K0 l b else none
@[simp] theorem R32_r (l : List PV) (b : Bool) (K0 : List PV → Bool → R) : R32 (r32 l b) K0 = K0 l b := by kernel_rfl
/-! 33 : impl.InSpans -/
def c33 (k : Nat) (wide : Int) (spans state : List PV) : R := evF P E T k 33 [.s (.c (.p (PV.int .i64 wide))), .s (.c (.p (PV.row 2 0 spans))), .s (.c (.p (PV.row 0 0 state)))] []
def r33 (b b1 : Bool) : R := some ([.c (.p (PV.bool b)), .c (.p (PV.bool b1))], [])
def R33 (x0 : R) (K0 : Bool → Bool → R) : R := x0.bind fun q0 => bif lensB q0.2 [] && lensS q0.1 [.c (.p (.bool)), .c (.p (.bool))] then (cBool (resAt q0.1 0)).bind fun b => (cBool (resAt q0.1 1)).bind fun b1 => K0 b b1 else none
@[simp] theorem R33_r (b b1 : Bool) (K0 : Bool → Bool → R) : R33 (r33 b b1) K0 = K0 b b1 := by kernel_rfl
def L33_1 (k n : Nat) (state t22 : List PV) (t23 t24 : Int) : R := evLoopAt P E T k 33 33 [] [1, 1, 0, 1, 0] [] n ⟨mkT 37 [(2, .s (.c (.p (PV.row 0 0 state)))), (22, .s (.c (.p (PV.row 2 0 t22)))), (23, .s (.c (.p (PV.int .i64 t23)))), (24, .s (.c (.p (PV.int .i64 t24))))], []⟩
/-! 34 : spec.DrawSpanRound -/
def c34 (k : Nat) (code : List PV) : R := evF P E T k 34 [.s (.c (.p (PV.row 0 0 code)))] []
def r34 (qr qr1 : Int) (l l1 l2 : List PV) : R := some ([.agg [.p (PV.int .i64 qr), .p (PV.int .i64 qr1), .p (PV.row 2 0 l), .p (PV.row 2 0 l1)], .c (.p (PV.row 2 0 l2))], [])
def R34 (x0 : R) (K0 : Int → Int → List PV → List PV → List PV → R) : R := x0.bind fun q0 => bif lensB q0.2 [] && lensS q0.1 [.agg [.p (.int .i64), .p (.int .i64), .p (.row 2), .p (.row 2)], .c (.p (.row 2))] then (cInt (Dp.partAt q0.1 0 0) .i64).bind fun qr => (cInt (Dp.partAt q0.1 0 1) .i64).bind fun qr1 => (cRow (Dp.partAt q0.1 0 2) 2).bind fun l => (cRow (Dp.partAt q0.1 0 3) 2).bind fun l1 => (cRow (resAt q0.1 1) 2).bind fun l2 => K0 qr qr1 l l1 l2 else none
@[simp] theorem R34_r (qr qr1 : Int) (l l1 l2 : List PV) (K0 : Int → Int → List PV → List PV → List PV → R) : R34 (r34 qr qr1 l l1 l2) K0 = K0 qr qr1 l l1 l2 := by kernel_rfl
/-! 35 : spec.SpanRound -/
def c35 (k : Nat) (p p1 : Int) (p2 p3 spans : List PV) : R := evF P E T k 35 [.s (.c (.p (PV.agg [.int .i64 p, .int .i64 p1, .row 2 0 p2, .row 2 0 p3]))), .s (.c (.p (PV.row 2 0 spans)))] []
def r35 (l : List PV) (b : Bool) : R := some ([.c (.p (PV.row 2 0 l)), .c (.p (PV.bool b))], [])
def R35 (x0 : R) (K0 : List PV → Bool → R) : R := x0.bind fun q0 => bif lensB q0.2 [] && lensS q0.1 [.c (.p (.row 2)), .c (.p (.bool))] then (cRow (resAt q0.1 0) 2).bind fun l => (cBool (resAt q0.1 1)).bind fun b => K0 l b else none
@[simp] theorem R35_r (l : List PV) (b : Bool) (K0 : List PV → Bool → R) : R35 (r35 l b) K0 = K0 l b := by kernel_rfl
/-! 36 : spec.DrawInSpans -/
def c36 (k : Nat) (code : List PV) : R := evF P E T k 36 [.s (.c (.p (PV.row 0 0 code)))] []
def r36 (qr : Int) (l l1 : List PV) : R := some ([.c (.p (PV.int .i64 qr)), .c (.p (PV.row 2 0 l)), .c (.p (PV.row 0 0 l1))], [])
def R36 (x0 : R) (K0 : Int → List PV → List PV → R) : R := x0.bind fun q0 => bif lensB q0.2 [] && lensS q0.1 [.c (.p (.int .i64)), .c (.p (.row 2)), .c (.p (.row 0))] then (cInt (resAt q0.1 0) .i64).bind fun qr => (cRow (resAt q0.1 1) 2).bind fun l => (cRow (resAt q0.1 2) 0).bind fun l1 => K0 qr l l1 else none
@[simp] theorem R36_r (qr : Int) (l l1 : List PV) (K0 : Int → List PV → List PV → R) : R36 (r36 qr l l1) K0 = K0 qr l l1 := by kernel_rfl
def L36_1 (k n : Nat) (n1 : Int) (l : List PV) (sLen : Nat) (t29 t30 : Int) (xs : List PV) : R := evLoopAt P E T k 36 36 [] [1, 1, 1, 1, 1, 0, 1, 0, 1, 0] [] n ⟨mkT 45 [(6, .s (.c (.p (PV.int .i64 n1)))), (7, .s (.c (.p (PV.row 2 0 l)))), (8, .s (.c (.loc 0 0 0 0 sLen))), (29, .s (.c (.p (PV.int .i64 t29)))), (30, .s (.c (.p (PV.int .i64 t30))))], [.arr 55 0 0 false xs]⟩
/-! 37 : spec.InSpans -/
def c37 (k : Nat) (wide : Int) (spans state : List PV) : R := evF P E T k 37 [.s (.c (.p (PV.int .i64 wide))), .s (.c (.p (PV.row 2 0 spans))), .s (.c (.p (PV.row 0 0 state)))] []
def r37 (b b1 : Bool) : R := some ([.c (.p (PV.bool b)), .c (.p (PV.bool b1))], [])
def R37 (x0 : R) (K0 : Bool → Bool → R) : R := x0.bind fun q0 => bif lensB q0.2 [] && lensS q0.1 [.c (.p (.bool)), .c (.p (.bool))] then (cBool (resAt q0.1 0)).bind fun b => (cBool (resAt q0.1 1)).bind fun b1 => K0 b b1 else none
@[simp] theorem R37_r (b b1 : Bool) (K0 : Bool → Bool → R) : R37 (r37 b b1) K0 = K0 b b1 := by kernel_rfl
def L37_1 (k n : Nat) (state t27 : List PV) (t28 t29 : Int) : R := evLoopAt P E T k 37 37 [] [1, 1, 0, 1, 0] [] n ⟨mkT 51 [(2, .s (.c (.p (PV.row 0 0 state)))), (27, .s (.c (.p (PV.row 2 0 t27)))), (28, .s (.c (.p (PV.int .i64 t28)))), (29, .s (.c (.p (PV.int .i64 t29))))], []⟩
/-! 105 : spec.l1Cur).small -/
def c105 (k : Nat) (l : List PV) (n1 n11 : Int) : R := evF P E T k 105 [.s (.c (.bptr 0 0))] [[.p (PV.row 0 0 l), .p (PV.int .i64 n1), .p (PV.int .u64 n11)]]
def r105 (l : List PV) (qr qr1 qr2 qr3 : Int) (l1 l2 : List PV) : R := some ([.agg [.p (PV.int .i64 qr2), .p (PV.int .i64 qr3), .p (PV.row 2 0 l1), .p (PV.row 2 0 l2)]], [[.p (PV.row 0 0 l), .p (PV.int .i64 qr), .p (PV.int .u64 qr1)]])
def R105 (x0 : R) (K0 : List PV → Int → Int → Int → Int → List PV → List PV → R) : R := x0.bind fun q0 => bif lensB q0.2 [[.p (.row 0), .p (.int .i64), .p (.int .u64)]] && lensS q0.1 [.agg [.p (.int .i64), .p (.int .i64), .p (.row 2), .p (.row 2)]] then (cRow (cellAt q0.2 0 0) 0).bind fun l => (cInt (cellAt q0.2 0 1) .i64).bind fun qr => (cInt (cellAt q0.2 0 2) .u64).bind fun qr1 => (cInt (Dp.partAt q0.1 0 0) .i64).bind fun qr2 => (cInt (Dp.partAt q0.1 0 1) .i64).bind fun qr3 => (cRow (Dp.partAt q0.1 0 2) 2).bind fun l1 => (cRow (Dp.partAt q0.1 0 3) 2).bind fun l2 => K0 l qr qr1 qr2 qr3 l1 l2 else none
@[simp] theorem R105_r (l : List PV) (qr qr1 qr2 qr3 : Int) (l1 l2 : List PV) (K0 : List PV → Int → Int → Int → Int → List PV → List PV → R) : R105 (r105 l qr qr1 qr2 qr3 l1 l2) K0 = K0 l qr qr1 qr2 qr3 l1 l2 := by kernel_rfl
def L105_1 (k n : Nat) (wide vars : Int) (l : List PV) (n1 n11 n12 n13 : Int) (l1 l2 : List PV) : R := evLoopAt P E T k 105 105 [3] [1, 1, 1, 1, 0, 0] [] n ⟨mkT 67 [(0, .s (.c (.bptr 0 0))), (2, .s (.c (.bptr 1 0))), (3, .s (.c (.p (PV.int .i64 wide)))), (4, .s (.c (.p (PV.int .i64 vars))))], [.box [.p (PV.row 0 0 l), .p (PV.int .i64 n1), .p (PV.int .u64 n11)], .box [.p (PV.int .i64 n12), .p (PV.int .i64 n13), .p (PV.row 2 0 l1), .p (PV.row 2 0 l2)]]⟩
/-! 107 : spec.l1Cur).asked -/
def c107 (k : Nat) (wide vars deep : Int) (l : List PV) (n1 n11 : Int) : R := evF P E T k 107 [.s (.c (.bptr 0 0)), .s (.c (.p (PV.int .i64 wide))), .s (.c (.p (PV.int .i64 vars))), .s (.c (.p (PV.int .i64 deep)))] [[.p (PV.row 0 0 l), .p (PV.int .i64 n1), .p (PV.int .u64 n11)]]
def r107 (l : List PV) (qr qr1 : Int) (l1 : List PV) : R := some ([.c (.own 176 2 l1)], [[.p (PV.row 0 0 l), .p (PV.int .i64 qr), .p (PV.int .u64 qr1)]])
def R107 (x0 : R) (K0 : List PV → Int → Int → List PV → R) : R := x0.bind fun q0 => bif lensB q0.2 [[.p (.row 0), .p (.int .i64), .p (.int .u64)]] && lensS q0.1 [.c (.own 176 2)] then (cRow (cellAt q0.2 0 0) 0).bind fun l => (cInt (cellAt q0.2 0 1) .i64).bind fun qr => (cInt (cellAt q0.2 0 2) .u64).bind fun qr1 => (asOwn 176 2 (resAt q0.1 0)).bind fun l1 => K0 l qr qr1 l1 else none
@[simp] theorem R107_r (l : List PV) (qr qr1 : Int) (l1 : List PV) (K0 : List PV → Int → Int → List PV → R) : R107 (r107 l qr qr1 l1) K0 = K0 l qr qr1 l1 := by kernel_rfl
/-! 110 : spec.l7Asks -/
def c110 (k : Nat) (p p1 : Int) (p2 p3 t : List PV) : R := evF P E T k 110 [.s (.c (.p (PV.agg [.int .i64 p, .int .i64 p1, .row 2 0 p2, .row 2 0 p3]))), .s (.c (.p (PV.row 2 0 t)))] []
def r110 (b : Bool) : R := some ([.c (.p (PV.bool b))], [])
def R110 (x0 : R) (K0 : Bool → R) : R := x0.bind fun q0 => bif lensB q0.2 [] && lensS q0.1 [.c (.p (.bool))] then (cBool (resAt q0.1 0)).bind fun b => K0 b else none
@[simp] theorem R110_r (b : Bool) (K0 : Bool → R) : R110 (r110 b) K0 = K0 b := by kernel_rfl
/-! 117 : spec.l1In -/
def c117 (k : Nat) (n1 lo hi : Int) : R := evF P E T k 117 [.s (.c (.p (PV.int .i64 n1))), .s (.c (.p (PV.int .i64 lo))), .s (.c (.p (PV.int .i64 hi)))] []
def r117 (b : Bool) : R := some ([.c (.p (PV.bool b))], [])
def R117 (x0 : R) (K0 : Bool → R) : R := x0.bind fun q0 => bif lensB q0.2 [] && lensS q0.1 [.c (.p (.bool))] then (cBool (resAt q0.1 0)).bind fun b => K0 b else none
@[simp] theorem R117_r (b : Bool) (K0 : Bool → R) : R117 (r117 b) K0 = K0 b := by kernel_rfl
/-! 122 : impl.valueOf -/
def c122 (k : Nat) (wide : Int) (t state : List PV) : R := evF P E T k 122 [.s (.c (.p (PV.int .i64 wide))), .s (.c (.p (PV.row 2 0 t))), .s (.c (.p (PV.row 0 0 state)))] []
def r122 (qr : Int) : R := some ([.c (.p (PV.int .u64 qr))], [])
def R122 (x0 : R) (K0 : Int → R) : R := x0.bind fun q0 => bif lensB q0.2 [] && lensS q0.1 [.c (.p (.int .u64))] then (cInt (resAt q0.1 0) .u64).bind fun qr => K0 qr else none
@[simp] theorem R122_r (qr : Int) (K0 : Int → R) : R122 (r122 qr) K0 = K0 qr := by kernel_rfl
def L122_1 (k n : Nat) (wide : Int) (state : List PV) (stackLen : Nat) (t12 : List PV) (t13 t14 : Int) (xs : List PV) : R := evLoopAt P E T k 122 122 [] [1, 1, 0, 1, 0] [] n ⟨mkT 87 [(0, .s (.c (.p (PV.int .i64 wide)))), (2, .s (.c (.p (PV.row 0 0 state)))), (7, .s (.c (.loc 0 0 0 0 stackLen))), (12, .s (.c (.p (PV.row 2 0 t12)))), (13, .s (.c (.p (PV.int .i64 t13)))), (14, .s (.c (.p (PV.int .i64 t14))))], [.arr 55 0 0 false xs]⟩
/-! 126 : spec.l1Cur).prog -/
def c126 (k : Nat) (l : List PV) (n1 n11 : Int) : R := evF P E T k 126 [.s (.c (.bptr 0 0))] [[.p (PV.row 0 0 l), .p (PV.int .i64 n1), .p (PV.int .u64 n11)]]
def r126 (l : List PV) (qr qr1 qr2 qr3 : Int) (l1 l2 : List PV) : R := some ([.agg [.p (PV.int .i64 qr2), .p (PV.int .i64 qr3), .p (PV.row 2 0 l1), .p (PV.row 2 0 l2)]], [[.p (PV.row 0 0 l), .p (PV.int .i64 qr), .p (PV.int .u64 qr1)]])
def R126 (x0 : R) (K0 : List PV → Int → Int → Int → Int → List PV → List PV → R) : R := x0.bind fun q0 => bif lensB q0.2 [[.p (.row 0), .p (.int .i64), .p (.int .u64)]] && lensS q0.1 [.agg [.p (.int .i64), .p (.int .i64), .p (.row 2), .p (.row 2)]] then (cRow (cellAt q0.2 0 0) 0).bind fun l => (cInt (cellAt q0.2 0 1) .i64).bind fun qr => (cInt (cellAt q0.2 0 2) .u64).bind fun qr1 => (cInt (Dp.partAt q0.1 0 0) .i64).bind fun qr2 => (cInt (Dp.partAt q0.1 0 1) .i64).bind fun qr3 => (cRow (Dp.partAt q0.1 0 2) 2).bind fun l1 => (cRow (Dp.partAt q0.1 0 3) 2).bind fun l2 => K0 l qr qr1 qr2 qr3 l1 l2 else none
@[simp] theorem R126_r (l : List PV) (qr qr1 qr2 qr3 : Int) (l1 l2 : List PV) (K0 : List PV → Int → Int → Int → Int → List PV → List PV → R) : R126 (r126 l qr qr1 qr2 qr3 l1 l2) K0 = K0 l qr qr1 qr2 qr3 l1 l2 := by kernel_rfl
/-! 127 : spec.l1Cur).spans -/
def c127 (k : Nat) (wide vars : Int) (l : List PV) (n1 n11 : Int) : R := evF P E T k 127 [.s (.c (.bptr 0 0)), .s (.c (.p (PV.int .i64 wide))), .s (.c (.p (PV.int .i64 vars)))] [[.p (PV.row 0 0 l), .p (PV.int .i64 n1), .p (PV.int .u64 n11)]]
def r127 (l : List PV) (qr qr1 : Int) (l1 : List PV) : R := some ([.c (.p (PV.row 2 0 l1))], [[.p (PV.row 0 0 l), .p (PV.int .i64 qr), .p (PV.int .u64 qr1)]])
def R127 (x0 : R) (K0 : List PV → Int → Int → List PV → R) : R := x0.bind fun q0 => bif lensB q0.2 [[.p (.row 0), .p (.int .i64), .p (.int .u64)]] && lensS q0.1 [.c (.p (.row 2))] then (cRow (cellAt q0.2 0 0) 0).bind fun l => (cInt (cellAt q0.2 0 1) .i64).bind fun qr => (cInt (cellAt q0.2 0 2) .u64).bind fun qr1 => (cRow (resAt q0.1 0) 2).bind fun l1 => K0 l qr qr1 l1 else none
@[simp] theorem R127_r (l : List PV) (qr qr1 : Int) (l1 : List PV) (K0 : List PV → Int → Int → List PV → R) : R127 (r127 l qr qr1 l1) K0 = K0 l qr qr1 l1 := by kernel_rfl
def L127_1 (k n : Nat) (wide vars : Int) (lLen : Nat) (k1 : Int) (l : List PV) (n1 n11 : Int) (xs : List PV) : R := evLoopAt P E T k 127 127 [3] [1, 1, 0, 1, 0] [] n ⟨mkT 21 [(0, .s (.c (.bptr 0 0))), (1, .s (.c (.p (PV.int .i64 wide)))), (2, .s (.c (.p (PV.int .i64 vars)))), (7, .s (.c (.loc 1 0 2 0 lLen))), (8, .s (.c (.p (PV.int .i64 k1))))], [.box [.p (PV.row 0 0 l), .p (PV.int .i64 n1), .p (PV.int .u64 n11)], .arr 57 2 0 false xs]⟩
/-! 128 : spec.l1Cur).among -/
def c128 (k : Nat) (list l : List PV) (n1 n11 : Int) : R := evF P E T k 128 [.s (.c (.bptr 0 0)), .s (.c (.p (PV.row 0 0 list)))] [[.p (PV.row 0 0 l), .p (PV.int .i64 n1), .p (PV.int .u64 n11)]]
def r128 (l : List PV) (qr qr1 qr2 : Int) : R := some ([.c (.p (PV.int .i64 qr2))], [[.p (PV.row 0 0 l), .p (PV.int .i64 qr), .p (PV.int .u64 qr1)]])
def R128 (x0 : R) (K0 : List PV → Int → Int → Int → R) : R := x0.bind fun q0 => bif lensB q0.2 [[.p (.row 0), .p (.int .i64), .p (.int .u64)]] && lensS q0.1 [.c (.p (.int .i64))] then (cRow (cellAt q0.2 0 0) 0).bind fun l => (cInt (cellAt q0.2 0 1) .i64).bind fun qr => (cInt (cellAt q0.2 0 2) .u64).bind fun qr1 => (cInt (resAt q0.1 0) .i64).bind fun qr2 => K0 l qr qr1 qr2 else none
@[simp] theorem R128_r (l : List PV) (qr qr1 qr2 : Int) (K0 : List PV → Int → Int → Int → R) : R128 (r128 l qr qr1 qr2) K0 = K0 l qr qr1 qr2 := by kernel_rfl
/-! 129 : impl.areSpansOf -/
def c129 (k : Nat) (p p1 : Int) (p2 p3 spans : List PV) : R := evF P E T k 129 [.s (.c (.p (PV.agg [.int .i64 p, .int .i64 p1, .row 2 0 p2, .row 2 0 p3]))), .s (.c (.p (PV.row 2 0 spans)))] []
def r129 (b : Bool) : R := some ([.c (.p (PV.bool b))], [])
def R129 (x0 : R) (K0 : Bool → R) : R := x0.bind fun q0 => bif lensB q0.2 [] && lensS q0.1 [.c (.p (.bool))] then (cBool (resAt q0.1 0)).bind fun b => K0 b else none
@[simp] theorem R129_r (b : Bool) (K0 : Bool → R) : R129 (r129 b) K0 = K0 b := by kernel_rfl
/-! 130 : impl.Span] -/
def c130 (k : Nat) (qs : List PV) : R := evF P E T k 130 [.s (.c (.p (PV.row 2 0 qs)))] []
def r130 (l : List PV) : R := some ([.c (.own 57 2 l)], [])
def R130 (x0 : R) (K0 : List PV → R) : R := x0.bind fun q0 => bif lensB q0.2 [] && lensS q0.1 [.c (.own 57 2)] then (asOwn 57 2 (resAt q0.1 0)).bind fun l => K0 l else none
@[simp] theorem R130_r (l : List PV) (K0 : List PV → R) : R130 (r130 l) K0 = K0 l := by kernel_rfl
/-! 131 : impl.spanRound -/
def c131 (k : Nat) (p p1 : Int) (p2 p3 spans : List PV) : R := evF P E T k 131 [.s (.c (.p (PV.agg [.int .i64 p, .int .i64 p1, .row 2 0 p2, .row 2 0 p3]))), .s (.c (.p (PV.row 2 0 spans)))] []
def r131 (l : List PV) : R := some ([.c (.p (PV.row 2 0 l))], [])
def R131 (x0 : R) (K0 : List PV → R) : R := x0.bind fun q0 => bif lensB q0.2 [] && lensS q0.1 [.c (.p (.row 2))] then (cRow (resAt q0.1 0) 2).bind fun l => K0 l else none
@[simp] theorem R131_r (l : List PV) (K0 : List PV → R) : R131 (r131 l) K0 = K0 l := by kernel_rfl
def L131_1 (k n : Nat) (spans : List PV) (outLen : Nat) (t13 : List PV) (t14 t15 n1 n11 : Int) (l l1 xs : List PV) : R := evLoopAt P E T k 131 131 [] [1, 1, 0, 1, 0] [] n ⟨mkT 53 [(1, .s (.c (.p (PV.row 2 0 spans)))), (2, .s (.c (.bptr 0 0))), (5, .s (.c (.loc 1 0 2 0 outLen))), (13, .s (.c (.p (PV.row 2 0 t13)))), (14, .s (.c (.p (PV.int .i64 t14)))), (15, .s (.c (.p (PV.int .i64 t15))))], [.box [.p (PV.int .i64 n1), .p (PV.int .i64 n11), .p (PV.row 2 0 l), .p (PV.row 2 0 l1)], .arr 57 2 0 false xs]⟩
def L131_2 (k n1 n : Nat) (spans : List PV) (outLen : Nat) (t13 : List PV) (t14 t15 : Int) (t28 : List PV) (t29 t30 n11 n12 : Int) (l l1 xs : List PV) : R := evLoopAt P E T k 131 131 [] [1, 1, 0, 1, 0, 0, 1, 1, 0, 0, 1, 1, 1, 0] [n1] n ⟨mkT 53 [(1, .s (.c (.p (PV.row 2 0 spans)))), (2, .s (.c (.bptr 0 0))), (5, .s (.c (.loc 1 0 2 0 outLen))), (13, .s (.c (.p (PV.row 2 0 t13)))), (14, .s (.c (.p (PV.int .i64 t14)))), (15, .s (.c (.p (PV.int .i64 t15)))), (28, .s (.c (.p (PV.row 2 0 t28)))), (29, .s (.c (.p (PV.int .i64 t29)))), (30, .s (.c (.p (PV.int .i64 t30))))], [.box [.p (PV.int .i64 n11), .p (PV.int .i64 n12), .p (PV.row 2 0 l), .p (PV.row 2 0 l1)], .arr 57 2 0 false xs]⟩
/-! 132 : impl.Span] -/
def c132 (k : Nat) (qs1 qs2 : List PV) : R := evF P E T k 132 [.s (.c (.p (PV.row 2 0 qs1))), .s (.c (.p (PV.row 2 0 qs2)))] []
def r132 (b : Bool) : R := some ([.c (.p (PV.bool b))], [])
def R132 (x0 : R) (K0 : Bool → R) : R := x0.bind fun q0 => bif lensB q0.2 [] && lensS q0.1 [.c (.p (.bool))] then (cBool (resAt q0.1 0)).bind fun b => K0 b else none
@[simp] theorem R132_r (b : Bool) (K0 : Bool → R) : R132 (r132 b) K0 = K0 b := by kernel_rfl
def L132_1 (k n : Nat) (qs1 qs2 : List PV) (t12 t13 : Int) : R := evLoopAt P E T k 132 132 [] [1, 1, 0, 1, 0] [] n ⟨mkT 26 [(0, .s (.c (.p (PV.row 2 0 qs1)))), (1, .s (.c (.p (PV.row 2 0 qs2)))), (12, .s (.c (.p (PV.int .i64 t12)))), (13, .s (.c (.p (PV.int .i64 t13))))], []⟩
/-! 133 : spec.l18For -/
def c133 (k : Nat) (p p1 : Int) (p2 p3 spans : List PV) : R := evF P E T k 133 [.s (.c (.p (PV.agg [.int .i64 p, .int .i64 p1, .row 2 0 p2, .row 2 0 p3]))), .s (.c (.p (PV.row 2 0 spans)))] []
def r133 (b : Bool) : R := some ([.c (.p (PV.bool b))], [])
def R133 (x0 : R) (K0 : Bool → R) : R := x0.bind fun q0 => bif lensB q0.2 [] && lensS q0.1 [.c (.p (.bool))] then (cBool (resAt q0.1 0)).bind fun b => K0 b else none
@[simp] theorem R133_r (b : Bool) (K0 : Bool → R) : R133 (r133 b) K0 = K0 b := by kernel_rfl
/-! 134 : spec.l18Round -/
def c134 (k : Nat) (p p1 : Int) (p2 p3 spans : List PV) : R := evF P E T k 134 [.s (.c (.p (PV.agg [.int .i64 p, .int .i64 p1, .row 2 0 p2, .row 2 0 p3]))), .s (.c (.p (PV.row 2 0 spans)))] []
def r134 (l : List PV) : R := some ([.c (.p (PV.row 2 0 l))], [])
def R134 (x0 : R) (K0 : List PV → R) : R := x0.bind fun q0 => bif lensB q0.2 [] && lensS q0.1 [.c (.p (.row 2))] then (cRow (resAt q0.1 0) 2).bind fun l => K0 l else none
@[simp] theorem R134_r (l : List PV) (K0 : List PV → R) : R134 (r134 l) K0 = K0 l := by kernel_rfl
def L134_1 (k n : Nat) (spans : List PV) (outLen : Nat) (t15 : List PV) (t16 t17 n1 n11 : Int) (l l1 xs : List PV) : R := evLoopAt P E T k 134 134 [] [1, 1, 0, 1, 0] [] n ⟨mkT 64 [(1, .s (.c (.p (PV.row 2 0 spans)))), (2, .s (.c (.bptr 0 0))), (5, .s (.c (.loc 1 0 2 0 outLen))), (15, .s (.c (.p (PV.row 2 0 t15)))), (16, .s (.c (.p (PV.int .i64 t16)))), (17, .s (.c (.p (PV.int .i64 t17))))], [.box [.p (PV.int .i64 n1), .p (PV.int .i64 n11), .p (PV.row 2 0 l), .p (PV.row 2 0 l1)], .arr 57 2 0 false xs]⟩
def L134_2 (k n1 n : Nat) (spans : List PV) (outLen : Nat) (t15 : List PV) (t16 t17 : Int) (t35 : List PV) (t36 t37 n11 n12 : Int) (l l1 xs : List PV) : R := evLoopAt P E T k 134 134 [] [1, 1, 0, 1, 0, 0, 1, 1, 0, 0, 1, 1, 1, 1, 0] [n1] n ⟨mkT 64 [(1, .s (.c (.p (PV.row 2 0 spans)))), (2, .s (.c (.bptr 0 0))), (5, .s (.c (.loc 1 0 2 0 outLen))), (15, .s (.c (.p (PV.row 2 0 t15)))), (16, .s (.c (.p (PV.int .i64 t16)))), (17, .s (.c (.p (PV.int .i64 t17)))), (35, .s (.c (.p (PV.row 2 0 t35)))), (36, .s (.c (.p (PV.int .i64 t36)))), (37, .s (.c (.p (PV.int .i64 t37))))], [.box [.p (PV.int .i64 n11), .p (PV.int .i64 n12), .p (PV.row 2 0 l), .p (PV.row 2 0 l1)], .arr 57 2 0 false xs]⟩
/-! 135 : impl.isStateOf -/
def c135 (k : Nat) (p p1 : Int) (p2 p3 qs : List PV) : R := evF P E T k 135 [.s (.c (.p (PV.agg [.int .i64 p, .int .i64 p1, .row 2 0 p2, .row 2 0 p3]))), .s (.c (.p (PV.row 0 0 qs)))] []
def r135 (b : Bool) : R := some ([.c (.p (PV.bool b))], [])
def R135 (x0 : R) (K0 : Bool → R) : R := x0.bind fun q0 => bif lensB q0.2 [] && lensS q0.1 [.c (.p (.bool))] then (cBool (resAt q0.1 0)).bind fun b => K0 b else none
@[simp] theorem R135_r (b : Bool) (K0 : Bool → R) : R135 (r135 b) K0 = K0 b := by kernel_rfl
/-! 136 : impl.Program).isCommandNo -/
def c136 (k : Nat) (p p1 : Int) (p2 p3 : List PV) (k1 : Int) : R := evF P E T k 136 [.s (.c (.p (PV.agg [.int .i64 p, .int .i64 p1, .row 2 0 p2, .row 2 0 p3]))), .s (.c (.p (PV.int .i64 k1)))] []
def r136 (b : Bool) : R := some ([.c (.p (PV.bool b))], [])
def R136 (x0 : R) (K0 : Bool → R) : R := x0.bind fun q0 => bif lensB q0.2 [] && lensS q0.1 [.c (.p (.bool))] then (cBool (resAt q0.1 0)).bind fun b => K0 b else none
@[simp] theorem R136_r (b : Bool) (K0 : Bool → R) : R136 (r136 b) K0 = K0 b := by kernel_rfl
/-! 137 : impl.Program).holds -/
def c137 (k : Nat) (p p1 : Int) (p2 p3 t qs : List PV) : R := evF P E T k 137 [.s (.c (.p (PV.agg [.int .i64 p, .int .i64 p1, .row 2 0 p2, .row 2 0 p3]))), .s (.c (.p (PV.row 2 0 t))), .s (.c (.p (PV.row 0 0 qs)))] []
def r137 (b : Bool) : R := some ([.c (.p (PV.bool b))], [])
def R137 (x0 : R) (K0 : Bool → R) : R := x0.bind fun q0 => bif lensB q0.2 [] && lensS q0.1 [.c (.p (.bool))] then (cBool (resAt q0.1 0)).bind fun b => K0 b else none
@[simp] theorem R137_r (b : Bool) (K0 : Bool → R) : R137 (r137 b) K0 = K0 b := by kernel_rfl
/-! 138 : impl.Program).after -/
def c138 (k : Nat) (p p1 : Int) (p2 p3 qc qc1 qs : List PV) : R := evF P E T k 138 [.s (.c (.p (PV.agg [.int .i64 p, .int .i64 p1, .row 2 0 p2, .row 2 0 p3]))), .s (.c (.p (PV.agg [.row 2 0 qc, .row 2 0 qc1]))), .s (.c (.p (PV.row 0 0 qs)))] []
def r138 (l : List PV) : R := some ([.c (.p (PV.row 0 0 l))], [])
def R138 (x0 : R) (K0 : List PV → R) : R := x0.bind fun q0 => bif lensB q0.2 [] && lensS q0.1 [.c (.p (.row 0))] then (cRow (resAt q0.1 0) 0).bind fun l => K0 l else none
@[simp] theorem R138_r (l : List PV) (K0 : List PV → R) : R138 (r138 l) K0 = K0 l := by kernel_rfl
def L138_1 (k n : Nat) (qs : List PV) (outLen : Nat) (t13 : List PV) (t14 t15 n1 n11 : Int) (l l1 xs : List PV) : R := evLoopAt P E T k 138 138 [] [1, 1, 0, 1, 0] [] n ⟨mkT 31 [(2, .s (.c (.p (PV.row 0 0 qs)))), (3, .s (.c (.bptr 0 0))), (7, .s (.c (.loc 1 0 0 0 outLen))), (13, .s (.c (.p (PV.row 2 0 t13)))), (14, .s (.c (.p (PV.int .i64 t14)))), (15, .s (.c (.p (PV.int .i64 t15))))], [.box [.p (PV.int .i64 n1), .p (PV.int .i64 n11), .p (PV.row 2 0 l), .p (PV.row 2 0 l1)], .arr 55 0 0 false xs]⟩
/-! 139 : impl.areSpans -/
def c139 (k : Nat) (wide : Int) (spans : List PV) : R := evF P E T k 139 [.s (.c (.p (PV.int .i64 wide))), .s (.c (.p (PV.row 2 0 spans)))] []
def r139 (b : Bool) : R := some ([.c (.p (PV.bool b))], [])
def R139 (x0 : R) (K0 : Bool → R) : R := x0.bind fun q0 => bif lensB q0.2 [] && lensS q0.1 [.c (.p (.bool))] then (cBool (resAt q0.1 0)).bind fun b => K0 b else none
@[simp] theorem R139_r (b : Bool) (K0 : Bool → R) : R139 (r139 b) K0 = K0 b := by kernel_rfl
/-! 140 : impl.isState -/
def c140 (k : Nat) (wide vars : Int) (state : List PV) : R := evF P E T k 140 [.s (.c (.p (PV.int .i64 wide))), .s (.c (.p (PV.int .i64 vars))), .s (.c (.p (PV.row 0 0 state)))] []
def r140 (b : Bool) : R := some ([.c (.p (PV.bool b))], [])
def R140 (x0 : R) (K0 : Bool → R) : R := x0.bind fun q0 => bif lensB q0.2 [] && lensS q0.1 [.c (.p (.bool))] then (cBool (resAt q0.1 0)).bind fun b => K0 b else none
@[simp] theorem R140_r (b : Bool) (K0 : Bool → R) : R140 (r140 b) K0 = K0 b := by kernel_rfl
/-! 141 : impl.Span).has -/
def c141 (k : Nat) (qs qs1 a : Int) : R := evF P E T k 141 [.s (.c (.p (PV.agg [.int .u64 qs, .int .u64 qs1]))), .s (.c (.p (PV.int .u64 a)))] []
def r141 (b : Bool) : R := some ([.c (.p (PV.bool b))], [])
def R141 (x0 : R) (K0 : Bool → R) : R := x0.bind fun q0 => bif lensB q0.2 [] && lensS q0.1 [.c (.p (.bool))] then (cBool (resAt q0.1 0)).bind fun b => K0 b else none
@[simp] theorem R141_r (b : Bool) (K0 : Bool → R) : R141 (r141 b) K0 = K0 b := by kernel_rfl
/-! 142 : spec.l1Cur).width -/
def c142 (k : Nat) (l : List PV) (n1 n11 : Int) : R := evF P E T k 142 [.s (.c (.bptr 0 0))] [[.p (PV.row 0 0 l), .p (PV.int .i64 n1), .p (PV.int .u64 n11)]]
def r142 (l : List PV) (qr qr1 qr2 : Int) : R := some ([.c (.p (PV.int .i64 qr2))], [[.p (PV.row 0 0 l), .p (PV.int .i64 qr), .p (PV.int .u64 qr1)]])
def R142 (x0 : R) (K0 : List PV → Int → Int → Int → R) : R := x0.bind fun q0 => bif lensB q0.2 [[.p (.row 0), .p (.int .i64), .p (.int .u64)]] && lensS q0.1 [.c (.p (.int .i64))] then (cRow (cellAt q0.2 0 0) 0).bind fun l => (cInt (cellAt q0.2 0 1) .i64).bind fun qr => (cInt (cellAt q0.2 0 2) .u64).bind fun qr1 => (cInt (resAt q0.1 0) .i64).bind fun qr2 => K0 l qr qr1 qr2 else none
@[simp] theorem R142_r (l : List PV) (qr qr1 qr2 : Int) (K0 : List PV → Int → Int → Int → R) : R142 (r142 l qr qr1 qr2) K0 = K0 l qr qr1 qr2 := by kernel_rfl
/-! 143 : spec.l1Cur).pick -/
def c143 (k : Nat) (n1 : Int) (l : List PV) (n11 n12 : Int) : R := evF P E T k 143 [.s (.c (.bptr 0 0)), .s (.c (.p (PV.int .i64 n1)))] [[.p (PV.row 0 0 l), .p (PV.int .i64 n11), .p (PV.int .u64 n12)]]
def r143 (l : List PV) (qr qr1 qr2 : Int) : R := some ([.c (.p (PV.int .i64 qr2))], [[.p (PV.row 0 0 l), .p (PV.int .i64 qr), .p (PV.int .u64 qr1)]])
def R143 (x0 : R) (K0 : List PV → Int → Int → Int → R) : R := x0.bind fun q0 => bif lensB q0.2 [[.p (.row 0), .p (.int .i64), .p (.int .u64)]] && lensS q0.1 [.c (.p (.int .i64))] then (cRow (cellAt q0.2 0 0) 0).bind fun l => (cInt (cellAt q0.2 0 1) .i64).bind fun qr => (cInt (cellAt q0.2 0 2) .u64).bind fun qr1 => (cInt (resAt q0.1 0) .i64).bind fun qr2 => K0 l qr qr1 qr2 else none
@[simp] theorem R143_r (l : List PV) (qr qr1 qr2 : Int) (K0 : List PV → Int → Int → Int → R) : R143 (r143 l qr qr1 qr2) K0 = K0 l qr qr1 qr2 := by kernel_rfl
/-! 144 : spec.l1Cur).state -/
def c144 (k : Nat) (wide vars : Int) (l : List PV) (n1 n11 : Int) : R := evF P E T k 144 [.s (.c (.bptr 0 0)), .s (.c (.p (PV.int .i64 wide))), .s (.c (.p (PV.int .i64 vars)))] [[.p (PV.row 0 0 l), .p (PV.int .i64 n1), .p (PV.int .u64 n11)]]
def r144 (l : List PV) (qr qr1 : Int) (l1 : List PV) : R := some ([.c (.own 55 0 l1)], [[.p (PV.row 0 0 l), .p (PV.int .i64 qr), .p (PV.int .u64 qr1)]])
def R144 (x0 : R) (K0 : List PV → Int → Int → List PV → R) : R := x0.bind fun q0 => bif lensB q0.2 [[.p (.row 0), .p (.int .i64), .p (.int .u64)]] && lensS q0.1 [.c (.own 55 0)] then (cRow (cellAt q0.2 0 0) 0).bind fun l => (cInt (cellAt q0.2 0 1) .i64).bind fun qr => (cInt (cellAt q0.2 0 2) .u64).bind fun qr1 => (asOwn 55 0 (resAt q0.1 0)).bind fun l1 => K0 l qr qr1 l1 else none
@[simp] theorem R144_r (l : List PV) (qr qr1 : Int) (l1 : List PV) (K0 : List PV → Int → Int → List PV → R) : R144 (r144 l qr qr1 l1) K0 = K0 l qr qr1 l1 := by kernel_rfl
def L144_1 (k n : Nat) (wide vars : Int) (lLen : Nat) (k1 : Int) (l : List PV) (n1 n11 : Int) (xs : List PV) : R := evLoopAt P E T k 144 144 [3] [1, 1, 0, 1, 0] [] n ⟨mkT 21 [(0, .s (.c (.bptr 0 0))), (1, .s (.c (.p (PV.int .i64 wide)))), (2, .s (.c (.p (PV.int .i64 vars)))), (7, .s (.c (.loc 1 0 0 0 lLen))), (8, .s (.c (.p (PV.int .i64 k1))))], [.box [.p (PV.row 0 0 l), .p (PV.int .i64 n1), .p (PV.int .u64 n11)], .arr 55 0 0 false xs]⟩
/-! 145 : spec.l1Cur).one -/
def c145 (k : Nat) (n1 : Int) (l : List PV) (n11 n12 : Int) : R := evF P E T k 145 [.s (.c (.bptr 0 0)), .s (.c (.p (PV.int .i64 n1)))] [[.p (PV.row 0 0 l), .p (PV.int .i64 n11), .p (PV.int .u64 n12)]]
def r145 (l : List PV) (qr qr1 : Int) (b : Bool) : R := some ([.c (.p (PV.bool b))], [[.p (PV.row 0 0 l), .p (PV.int .i64 qr), .p (PV.int .u64 qr1)]])
def R145 (x0 : R) (K0 : List PV → Int → Int → Bool → R) : R := x0.bind fun q0 => bif lensB q0.2 [[.p (.row 0), .p (.int .i64), .p (.int .u64)]] && lensS q0.1 [.c (.p (.bool))] then (cRow (cellAt q0.2 0 0) 0).bind fun l => (cInt (cellAt q0.2 0 1) .i64).bind fun qr => (cInt (cellAt q0.2 0 2) .u64).bind fun qr1 => (cBool (resAt q0.1 0)).bind fun b => K0 l qr qr1 b else none
@[simp] theorem R145_r (l : List PV) (qr qr1 : Int) (b : Bool) (K0 : List PV → Int → Int → Bool → R) : R145 (r145 l qr qr1 b) K0 = K0 l qr qr1 b := by kernel_rfl
/-! 146 : spec.l18Spans -/
def c146 (k : Nat) (wide : Int) (spans : List PV) : R := evF P E T k 146 [.s (.c (.p (PV.int .i64 wide))), .s (.c (.p (PV.row 2 0 spans)))] []
def r146 (b : Bool) : R := some ([.c (.p (PV.bool b))], [])
def R146 (x0 : R) (K0 : Bool → R) : R := x0.bind fun q0 => bif lensB q0.2 [] && lensS q0.1 [.c (.p (.bool))] then (cBool (resAt q0.1 0)).bind fun b => K0 b else none
@[simp] theorem R146_r (b : Bool) (K0 : Bool → R) : R146 (r146 b) K0 = K0 b := by kernel_rfl
def L146_1 (k n : Nat) (wide : Int) (t11 : List PV) (t12 t13 : Int) : R := evLoopAt P E T k 146 146 [] [1, 1, 0, 1, 0] [] n ⟨mkT 22 [(0, .s (.c (.p (PV.int .i64 wide)))), (11, .s (.c (.p (PV.row 2 0 t11)))), (12, .s (.c (.p (PV.int .i64 t12)))), (13, .s (.c (.p (PV.int .i64 t13))))], []⟩
/-! 147 : spec.l2Words -/
def c147 (k : Nat) (wide : Int) (state : List PV) : R := evF P E T k 147 [.s (.c (.p (PV.int .i64 wide))), .s (.c (.p (PV.row 0 0 state)))] []
def r147 (b : Bool) : R := some ([.c (.p (PV.bool b))], [])
def R147 (x0 : R) (K0 : Bool → R) : R := x0.bind fun q0 => bif lensB q0.2 [] && lensS q0.1 [.c (.p (.bool))] then (cBool (resAt q0.1 0)).bind fun b => K0 b else none
@[simp] theorem R147_r (b : Bool) (K0 : Bool → R) : R147 (r147 b) K0 = K0 b := by kernel_rfl
def L147_1 (k n : Nat) (wide : Int) (t7 : List PV) (t8 t9 : Int) : R := evLoopAt P E T k 147 147 [] [1, 0, 1, 0] [] n ⟨mkT 18 [(0, .s (.c (.p (PV.int .i64 wide)))), (7, .s (.c (.p (PV.row 0 0 t7)))), (8, .s (.c (.p (PV.int .i64 t8)))), (9, .s (.c (.p (PV.int .i64 t9))))], []⟩
/-! 153 : impl.Program).isCondition -/
def c153 (k : Nat) (p p1 : Int) (p2 p3 t : List PV) : R := evF P E T k 153 [.s (.c (.p (PV.agg [.int .i64 p, .int .i64 p1, .row 2 0 p2, .row 2 0 p3]))), .s (.c (.p (PV.row 2 0 t)))] []
def r153 (b : Bool) : R := some ([.c (.p (PV.bool b))], [])
def R153 (x0 : R) (K0 : Bool → R) : R := x0.bind fun q0 => bif lensB q0.2 [] && lensS q0.1 [.c (.p (.bool))] then (cBool (resAt q0.1 0)).bind fun b => K0 b else none
@[simp] theorem R153_r (b : Bool) (K0 : Bool → R) : R153 (r153 b) K0 = K0 b := by kernel_rfl
/-! 161 : impl.GoodTerm -/
def c161 (k : Nat) (wide vars : Int) (t : List PV) : R := evF P E T k 161 [.s (.c (.p (PV.int .i64 wide))), .s (.c (.p (PV.int .i64 vars))), .s (.c (.p (PV.row 2 0 t)))] []
def r161 (b : Bool) : R := some ([.c (.p (PV.bool b))], [])
def R161 (x0 : R) (K0 : Bool → R) : R := x0.bind fun q0 => bif lensB q0.2 [] && lensS q0.1 [.c (.p (.bool))] then (cBool (resAt q0.1 0)).bind fun b => K0 b else none
@[simp] theorem R161_r (b : Bool) (K0 : Bool → R) : R161 (r161 b) K0 = K0 b := by kernel_rfl
def L161_1 (k n : Nat) (wide vars : Int) (stackLen : Nat) (t33 : List PV) (t34 t35 : Int) (xs : List PV) : R := evLoopAt P E T k 161 161 [] [1, 1, 1, 0, 1, 0] [] n ⟨mkT 80 [(0, .s (.c (.p (PV.int .i64 wide)))), (1, .s (.c (.p (PV.int .i64 vars)))), (7, .s (.c (.loc 0 0 0 0 stackLen))), (33, .s (.c (.p (PV.row 2 0 t33)))), (34, .s (.c (.p (PV.int .i64 t34)))), (35, .s (.c (.p (PV.int .i64 t35))))], [.arr 3 0 0 false xs]⟩
/-! 162 : impl.kindOf -/
def c162 (k : Nat) (t : List PV) : R := evF P E T k 162 [.s (.c (.p (PV.row 2 0 t)))] []
def r162 (qr : Int) : R := some ([.c (.p (PV.int .i64 qr))], [])
def R162 (x0 : R) (K0 : Int → R) : R := x0.bind fun q0 => bif lensB q0.2 [] && lensS q0.1 [.c (.p (.int .i64))] then (cInt (resAt q0.1 0) .i64).bind fun qr => K0 qr else none
@[simp] theorem R162_r (qr : Int) (K0 : Int → R) : R162 (r162 qr) K0 = K0 qr := by kernel_rfl
/-! 187f265 : slices.ContainsFunc[[]int,int] -/
def c187f265 (k : Nat) (qs : List PV) (n1 : Int) : R := evF P E T k 187 [.s (.c (.p (PV.row 0 0 qs))), .s (.c (.fn 265 [0]))] [[.p (PV.int .i64 n1)]]
def r187f265 (qr : Int) (b : Bool) : R := some ([.c (.p (PV.bool b))], [[.p (PV.int .i64 qr)]])
def R187f265 (x0 : R) (K0 : Int → Bool → R) : R := x0.bind fun q0 => bif lensB q0.2 [[.p (.int .i64)]] && lensS q0.1 [.c (.p (.bool))] then (cInt (cellAt q0.2 0 0) .i64).bind fun qr => (cBool (resAt q0.1 0)).bind fun b => K0 qr b else none
@[simp] theorem R187f265_r (qr : Int) (b : Bool) (K0 : Int → Bool → R) : R187f265 (r187f265 qr b) K0 = K0 qr b := by kernel_rfl
def R187f265p (x0 : R) (K0 : Int → Bool → R) : R := x0.bind fun q0 => bif q0.1.all plainS && q0.2.all (fun cs => cs.all plainC) then (bif lensB q0.2 [[.p (.int .i64)]] && lensS q0.1 [.c (.p (.bool))] then (cInt (cellAt q0.2 0 0) .i64).bind fun qr => (cBool (resAt q0.1 0)).bind fun b => K0 qr b else none) else none
@[simp] theorem R187f265p_r (qr : Int) (b : Bool) (K0 : Int → Bool → R) : R187f265p (r187f265 qr b) K0 = K0 qr b := by kernel_rfl
/-! 212f300 : impl.Command] -/
def c212f300 (k : Nat) (qs : List PV) (n1 n11 : Int) (l l1 : List PV) : R := evF P E T k 212 [.s (.c (.p (PV.row 2 0 qs))), .s (.c (.fn 300 [0]))] [[.p (PV.int .i64 n1), .p (PV.int .i64 n11), .p (PV.row 2 0 l), .p (PV.row 2 0 l1)]]
def r212f300 (qr qr1 : Int) (l l1 : List PV) (b : Bool) : R := some ([.c (.p (PV.bool b))], [[.p (PV.int .i64 qr), .p (PV.int .i64 qr1), .p (PV.row 2 0 l), .p (PV.row 2 0 l1)]])
def R212f300 (x0 : R) (K0 : Int → Int → List PV → List PV → Bool → R) : R := x0.bind fun q0 => bif lensB q0.2 [[.p (.int .i64), .p (.int .i64), .p (.row 2), .p (.row 2)]] && lensS q0.1 [.c (.p (.bool))] then (cInt (cellAt q0.2 0 0) .i64).bind fun qr => (cInt (cellAt q0.2 0 1) .i64).bind fun qr1 => (cRow (cellAt q0.2 0 2) 2).bind fun l => (cRow (cellAt q0.2 0 3) 2).bind fun l1 => (cBool (resAt q0.1 0)).bind fun b => K0 qr qr1 l l1 b else none
@[simp] theorem R212f300_r (qr qr1 : Int) (l l1 : List PV) (b : Bool) (K0 : Int → Int → List PV → List PV → Bool → R) : R212f300 (r212f300 qr qr1 l l1 b) K0 = K0 qr qr1 l l1 b := by kernel_rfl
/-! 227 : spec.l1Cur).progOf -/
def c227 (k : Nat) (wide vars : Int) (l : List PV) (n1 n11 : Int) : R := evF P E T k 227 [.s (.c (.bptr 0 0)), .s (.c (.p (PV.int .i64 wide))), .s (.c (.p (PV.int .i64 vars)))] [[.p (PV.row 0 0 l), .p (PV.int .i64 n1), .p (PV.int .u64 n11)]]
def r227 (l : List PV) (qr qr1 qr2 qr3 : Int) (l1 l2 : List PV) : R := some ([.agg [.p (PV.int .i64 qr2), .p (PV.int .i64 qr3), .p (PV.row 2 0 l1), .own ⟨155, some ⟨1, 221, 2, 0, none⟩⟩ 2 l2]], [[.p (PV.row 0 0 l), .p (PV.int .i64 qr), .p (PV.int .u64 qr1)]])
def R227 (x0 : R) (K0 : List PV → Int → Int → Int → Int → List PV → List PV → R) : R := x0.bind fun q0 => bif lensB q0.2 [[.p (.row 0), .p (.int .i64), .p (.int .u64)]] && lensS q0.1 [.agg [.p (.int .i64), .p (.int .i64), .p (.row 2), .own ⟨155, some ⟨1, 221, 2, 0, none⟩⟩ 2]] then (cRow (cellAt q0.2 0 0) 0).bind fun l => (cInt (cellAt q0.2 0 1) .i64).bind fun qr => (cInt (cellAt q0.2 0 2) .u64).bind fun qr1 => (cInt (Dp.partAt q0.1 0 0) .i64).bind fun qr2 => (cInt (Dp.partAt q0.1 0 1) .i64).bind fun qr3 => (cRow (Dp.partAt q0.1 0 2) 2).bind fun l1 => (asOwn ⟨155, some ⟨1, 221, 2, 0, none⟩⟩ 2 (Dp.partAt q0.1 0 3)).bind fun l2 => K0 l qr qr1 qr2 qr3 l1 l2 else none
@[simp] theorem R227_r (l : List PV) (qr qr1 qr2 qr3 : Int) (l1 l2 : List PV) (K0 : List PV → Int → Int → Int → Int → List PV → List PV → R) : R227 (r227 l qr qr1 qr2 qr3 l1 l2) K0 = K0 l qr qr1 qr2 qr3 l1 l2 := by kernel_rfl
def L227_1 (k n : Nat) (wide vars n1 : Int) (l : List PV) (n11 n12 n13 n14 : Int) (l1 l2 : List PV) (n15 n16 : Int) (Len Len1 : Nat) (xs xs1 : List PV) : R := evLoopAt P E T k 227 227 [3] [1, 1, 1, 1, 0, 1, 0] [] n ⟨mkT 44 [(0, .s (.c (.bptr 0 0))), (1, .s (.c (.p (PV.int .i64 wide)))), (2, .s (.c (.p (PV.int .i64 vars)))), (6, .s (.c (.bptr 1 0))), (7, .s (.c (.bptr 2 0))), (8, .s (.c (.p (PV.int .i64 n1))))], [.box [.p (PV.row 0 0 l), .p (PV.int .i64 n11), .p (PV.int .u64 n12)], .box [.p (PV.int .i64 n13), .p (PV.int .i64 n14), .p (PV.row 2 0 l1), .p (PV.row 2 0 l2)], .box [.p (PV.int .i64 n15), .p (PV.int .i64 n16), .loc 3 0 2 0 Len, .loc 4 0 2 0 Len1], .arr 176 2 0 false xs, .arr ⟨155, some ⟨1, 221, 2, 0, none⟩⟩ 2 0 false xs1]⟩
/-! 228 : spec.l1Cur).number -/
def c228 (k : Nat) (wide vars deep : Int) (l : List PV) (n1 n11 : Int) : R := evF P E T k 228 [.s (.c (.bptr 0 0)), .s (.c (.p (PV.int .i64 wide))), .s (.c (.p (PV.int .i64 vars))), .s (.c (.p (PV.int .i64 deep)))] [[.p (PV.row 0 0 l), .p (PV.int .i64 n1), .p (PV.int .u64 n11)]]
def r228 (l : List PV) (qr qr1 : Int) (l1 : List PV) : R := some ([.c (.own 176 2 l1)], [[.p (PV.row 0 0 l), .p (PV.int .i64 qr), .p (PV.int .u64 qr1)]])
def R228 (x0 : R) (K0 : List PV → Int → Int → List PV → R) : R := x0.bind fun q0 => bif lensB q0.2 [[.p (.row 0), .p (.int .i64), .p (.int .u64)]] && lensS q0.1 [.c (.own 176 2)] then (cRow (cellAt q0.2 0 0) 0).bind fun l => (cInt (cellAt q0.2 0 1) .i64).bind fun qr => (cInt (cellAt q0.2 0 2) .u64).bind fun qr1 => (asOwn 176 2 (resAt q0.1 0)).bind fun l1 => K0 l qr qr1 l1 else none
@[simp] theorem R228_r (l : List PV) (qr qr1 : Int) (l1 : List PV) (K0 : List PV → Int → Int → List PV → R) : R228 (r228 l qr qr1 l1) K0 = K0 l qr qr1 l1 := by kernel_rfl
/-! 229 : spec.l2Kind -/
def c229 (k : Nat) (wide vars : Int) (t : List PV) : R := evF P E T k 229 [.s (.c (.p (PV.int .i64 wide))), .s (.c (.p (PV.int .i64 vars))), .s (.c (.p (PV.row 2 0 t)))] []
def r229 (qr : Int) : R := some ([.c (.p (PV.int .i64 qr))], [])
def R229 (x0 : R) (K0 : Int → R) : R := x0.bind fun q0 => bif lensB q0.2 [] && lensS q0.1 [.c (.p (.int .i64))] then (cInt (resAt q0.1 0) .i64).bind fun qr => K0 qr else none
@[simp] theorem R229_r (qr : Int) (K0 : Int → R) : R229 (r229 qr) K0 = K0 qr := by kernel_rfl
def L229_1 (k n : Nat) (wide vars : Int) (pileLen : Nat) (t27 : List PV) (t28 t29 : Int) (xs : List PV) : R := evLoopAt P E T k 229 229 [] [1, 1, 1, 0, 1, 0] [] n ⟨mkT 83 [(0, .s (.c (.p (PV.int .i64 wide)))), (1, .s (.c (.p (PV.int .i64 vars)))), (7, .s (.c (.loc 0 0 0 0 pileLen))), (27, .s (.c (.p (PV.row 2 0 t27)))), (28, .s (.c (.p (PV.int .i64 t28)))), (29, .s (.c (.p (PV.int .i64 t29))))], [.arr 3 0 0 false xs]⟩
def L229_2 (k n1 n : Nat) (wide vars : Int) (pileLen : Nat) (many part own : Int) (t27 : List PV) (t28 t29 : Int) (xs : List PV) : R := evLoopAt P E T k 229 229 [] [1, 1, 1, 0, 1, 0, 0, 1, 1, 0, 0, 1, 1, 1, 0, 0] [n1] n ⟨mkT 83 [(0, .s (.c (.p (PV.int .i64 wide)))), (1, .s (.c (.p (PV.int .i64 vars)))), (7, .s (.c (.loc 0 0 0 0 pileLen))), (10, .s (.c (.p (PV.int .i64 many)))), (11, .s (.c (.p (PV.int .i64 part)))), (12, .s (.c (.p (PV.int .i64 own)))), (27, .s (.c (.p (PV.row 2 0 t27)))), (28, .s (.c (.p (PV.int .i64 t28)))), (29, .s (.c (.p (PV.int .i64 t29))))], [.arr 3 0 0 false xs]⟩
/-! 230 : impl.GoodProgram -/
def c230 (k : Nat) (p p1 : Int) (p2 p3 : List PV) : R := evF P E T k 230 [.s (.c (.p (PV.agg [.int .i64 p, .int .i64 p1, .row 2 0 p2, .row 2 0 p3])))] []
def r230 (b : Bool) : R := some ([.c (.p (PV.bool b))], [])
def R230 (x0 : R) (K0 : Bool → R) : R := x0.bind fun q0 => bif lensB q0.2 [] && lensS q0.1 [.c (.p (.bool))] then (cBool (resAt q0.1 0)).bind fun b => K0 b else none
@[simp] theorem R230_r (b : Bool) (K0 : Bool → R) : R230 (r230 b) K0 = K0 b := by kernel_rfl
/-! 231 : spec.GoodProgram -/
def c231 (k : Nat) (p p1 : Int) (p2 p3 : List PV) : R := evF P E T k 231 [.s (.c (.p (PV.agg [.int .i64 p, .int .i64 p1, .row 2 0 p2, .row 2 0 p3])))] []
def r231 (b : Bool) : R := some ([.c (.p (PV.bool b))], [])
def R231 (x0 : R) (K0 : Bool → R) : R := x0.bind fun q0 => bif lensB q0.2 [] && lensS q0.1 [.c (.p (.bool))] then (cBool (resAt q0.1 0)).bind fun b => K0 b else none
@[simp] theorem R231_r (b : Bool) (K0 : Bool → R) : R231 (r231 b) K0 = K0 b := by kernel_rfl
def L231_1 (k n : Nat) (t18 : List PV) (t19 t20 n1 n11 : Int) (l l1 : List PV) : R := evLoopAt P E T k 231 231 [] [1, 1, 0, 1, 0] [] n ⟨mkT 29 [(1, .s (.c (.bptr 0 0))), (18, .s (.c (.p (PV.row 2 0 t18)))), (19, .s (.c (.p (PV.int .i64 t19)))), (20, .s (.c (.p (PV.int .i64 t20))))], [.box [.p (PV.int .i64 n1), .p (PV.int .i64 n11), .p (PV.row 2 0 l), .p (PV.row 2 0 l1)]]⟩
/-! 234 : impl.mask -/
def c234 (k : Nat) (wide : Int) : R := evF P E T k 234 [.s (.c (.p (PV.int .i64 wide)))] []
def r234 (qr : Int) : R := some ([.c (.p (PV.int .u64 qr))], [])
def R234 (x0 : R) (K0 : Int → R) : R := x0.bind fun q0 => bif lensB q0.2 [] && lensS q0.1 [.c (.p (.int .u64))] then (cInt (resAt q0.1 0) .u64).bind fun qr => K0 qr else none
@[simp] theorem R234_r (qr : Int) (K0 : Int → R) : R234 (r234 qr) K0 = K0 qr := by kernel_rfl
/-! 235 : impl.apply -/
def c235 (k : Nat) (wide op a b : Int) : R := evF P E T k 235 [.s (.c (.p (PV.int .i64 wide))), .s (.c (.p (PV.int .i64 op))), .s (.c (.p (PV.int .u64 a))), .s (.c (.p (PV.int .u64 b)))] []
def r235 (qr : Int) : R := some ([.c (.p (PV.int .u64 qr))], [])
def R235 (x0 : R) (K0 : Int → R) : R := x0.bind fun q0 => bif lensB q0.2 [] && lensS q0.1 [.c (.p (.int .u64))] then (cInt (resAt q0.1 0) .u64).bind fun qr => K0 qr else none
@[simp] theorem R235_r (qr : Int) (K0 : Int → R) : R235 (r235 qr) K0 = K0 qr := by kernel_rfl
/-! 236 : spec.l1Cur).span -/
def c236 (k : Nat) (wide : Int) (l : List PV) (n1 n11 : Int) : R := evF P E T k 236 [.s (.c (.bptr 0 0)), .s (.c (.p (PV.int .i64 wide)))] [[.p (PV.row 0 0 l), .p (PV.int .i64 n1), .p (PV.int .u64 n11)]]
def r236 (l : List PV) (qr qr1 qr2 qr3 : Int) : R := some ([.agg [.p (PV.int .u64 qr2), .p (PV.int .u64 qr3)]], [[.p (PV.row 0 0 l), .p (PV.int .i64 qr), .p (PV.int .u64 qr1)]])
def R236 (x0 : R) (K0 : List PV → Int → Int → Int → Int → R) : R := x0.bind fun q0 => bif lensB q0.2 [[.p (.row 0), .p (.int .i64), .p (.int .u64)]] && lensS q0.1 [.agg [.p (.int .u64), .p (.int .u64)]] then (cRow (cellAt q0.2 0 0) 0).bind fun l => (cInt (cellAt q0.2 0 1) .i64).bind fun qr => (cInt (cellAt q0.2 0 2) .u64).bind fun qr1 => (cInt (Dp.partAt q0.1 0 0) .u64).bind fun qr2 => (cInt (Dp.partAt q0.1 0 1) .u64).bind fun qr3 => K0 l qr qr1 qr2 qr3 else none
@[simp] theorem R236_r (l : List PV) (qr qr1 qr2 qr3 : Int) (K0 : List PV → Int → Int → Int → Int → R) : R236 (r236 l qr qr1 qr2 qr3) K0 = K0 l qr qr1 qr2 qr3 := by kernel_rfl
/-! 237 : impl.spanOf -/
def c237 (k : Nat) (wide : Int) (t spans : List PV) : R := evF P E T k 237 [.s (.c (.p (PV.int .i64 wide))), .s (.c (.p (PV.row 2 0 t))), .s (.c (.p (PV.row 2 0 spans)))] []
def r237 (qr qr1 : Int) : R := some ([.agg [.p (PV.int .u64 qr), .p (PV.int .u64 qr1)]], [])
def R237 (x0 : R) (K0 : Int → Int → R) : R := x0.bind fun q0 => bif lensB q0.2 [] && lensS q0.1 [.agg [.p (.int .u64), .p (.int .u64)]] then (cInt (Dp.partAt q0.1 0 0) .u64).bind fun qr => (cInt (Dp.partAt q0.1 0 1) .u64).bind fun qr1 => K0 qr qr1 else none
@[simp] theorem R237_r (qr qr1 : Int) (K0 : Int → Int → R) : R237 (r237 qr qr1) K0 = K0 qr qr1 := by kernel_rfl
def L237_1 (k n : Nat) (spans : List PV) (stackLen : Nat) (t16 : List PV) (t17 t18 n1 n11 n12 n13 : Int) (xs : List PV) : R := evLoopAt P E T k 237 237 [] [1, 1, 0, 1, 0] [] n ⟨mkT 111 [(2, .s (.c (.p (PV.row 2 0 spans)))), (6, .s (.c (.bptr 0 0))), (7, .s (.c (.bptr 1 0))), (8, .s (.c (.loc 2 0 2 0 stackLen))), (16, .s (.c (.p (PV.row 2 0 t16)))), (17, .s (.c (.p (PV.int .i64 t17)))), (18, .s (.c (.p (PV.int .i64 t18))))], [.box [.p (PV.int .u64 n1), .p (PV.int .u64 n11)], .box [.p (PV.int .u64 n12), .p (PV.int .u64 n13)], .arr 57 2 0 false xs]⟩
/-! 238 : impl.join -/
def c238 (k : Nat) (a a1 b b1 : Int) : R := evF P E T k 238 [.s (.c (.p (PV.agg [.int .u64 a, .int .u64 a1]))), .s (.c (.p (PV.agg [.int .u64 b, .int .u64 b1])))] []
def r238 (qr qr1 : Int) : R := some ([.agg [.p (PV.int .u64 qr), .p (PV.int .u64 qr1)]], [])
def R238 (x0 : R) (K0 : Int → Int → R) : R := x0.bind fun q0 => bif lensB q0.2 [] && lensS q0.1 [.agg [.p (.int .u64), .p (.int .u64)]] then (cInt (Dp.partAt q0.1 0 0) .u64).bind fun qr => (cInt (Dp.partAt q0.1 0 1) .u64).bind fun qr1 => K0 qr qr1 else none
@[simp] theorem R238_r (qr qr1 : Int) (K0 : Int → Int → R) : R238 (r238 qr qr1) K0 = K0 qr qr1 := by kernel_rfl
/-! 239 : spec.l18Of -/
def c239 (k : Nat) (wide : Int) (t : List PV) (k1 : Int) (spans : List PV) : R := evF P E T k 239 [.s (.c (.p (PV.int .i64 wide))), .s (.c (.p (PV.row 2 0 t))), .s (.c (.p (PV.int .i64 k1))), .s (.c (.p (PV.row 2 0 spans)))] []
def r239 (qr qr1 : Int) : R := some ([.agg [.p (PV.int .u64 qr), .p (PV.int .u64 qr1)]], [])
def R239 (x0 : R) (K0 : Int → Int → R) : R := x0.bind fun q0 => bif lensB q0.2 [] && lensS q0.1 [.agg [.p (.int .u64), .p (.int .u64)]] then (cInt (Dp.partAt q0.1 0 0) .u64).bind fun qr => (cInt (Dp.partAt q0.1 0 1) .u64).bind fun qr1 => K0 qr qr1 else none
@[simp] theorem R239_r (qr qr1 : Int) (K0 : Int → Int → R) : R239 (r239 qr qr1) K0 = K0 qr qr1 := by kernel_rfl
/-! 240 : spec.l18Join -/
def c240 (k : Nat) (a a1 b b1 : Int) : R := evF P E T k 240 [.s (.c (.p (PV.agg [.int .u64 a, .int .u64 a1]))), .s (.c (.p (PV.agg [.int .u64 b, .int .u64 b1])))] []
def r240 (qr qr1 : Int) : R := some ([.agg [.p (PV.int .u64 qr), .p (PV.int .u64 qr1)]], [])
def R240 (x0 : R) (K0 : Int → Int → R) : R := x0.bind fun q0 => bif lensB q0.2 [] && lensS q0.1 [.agg [.p (.int .u64), .p (.int .u64)]] then (cInt (Dp.partAt q0.1 0 0) .u64).bind fun qr => (cInt (Dp.partAt q0.1 0 1) .u64).bind fun qr1 => K0 qr qr1 else none
@[simp] theorem R240_r (qr qr1 : Int) (K0 : Int → Int → R) : R240 (r240 qr qr1) K0 = K0 qr qr1 := by kernel_rfl
/-! 241 : slices.Clone[[]uint64,uint64] -/
def c241 (k : Nat) (qs : List PV) : R := evF P E T k 241 [.s (.c (.p (PV.row 0 0 qs)))] []
def r241 (l : List PV) : R := some ([.c (.own 55 0 l)], [])
def R241 (x0 : R) (K0 : List PV → R) : R := x0.bind fun q0 => bif lensB q0.2 [] && lensS q0.1 [.c (.own 55 0)] then (asOwn 55 0 (resAt q0.1 0)).bind fun l => K0 l else none
@[simp] theorem R241_r (l : List PV) (K0 : List PV → R) : R241 (r241 l) K0 = K0 l := by kernel_rfl
/-! 242 : impl.isVars -/
def c242 (k : Nat) (n1 : Int) : R := evF P E T k 242 [.s (.c (.p (PV.int .i64 n1)))] []
def r242 (b : Bool) : R := some ([.c (.p (PV.bool b))], [])
def R242 (x0 : R) (K0 : Bool → R) : R := x0.bind fun q0 => bif lensB q0.2 [] && lensS q0.1 [.c (.p (.bool))] then (cBool (resAt q0.1 0)).bind fun b => K0 b else none
@[simp] theorem R242_r (b : Bool) (K0 : Bool → R) : R242 (r242 b) K0 = K0 b := by kernel_rfl
/-! 243f244 : impl.Span] -/
def c243f244 (k : Nat) (qs : List PV) (n1 : Int) : R := evF P E T k 243 [.s (.c (.p (PV.row 2 0 qs))), .s (.c (.cfn 244 [PV.agg [.int .i64 n1]]))] []
def r243f244 (b : Bool) : R := some ([.c (.p (PV.bool b))], [])
def R243f244 (x0 : R) (K0 : Bool → R) : R := x0.bind fun q0 => bif lensB q0.2 [] && lensS q0.1 [.c (.p (.bool))] then (cBool (resAt q0.1 0)).bind fun b => K0 b else none
@[simp] theorem R243f244_r (b : Bool) (K0 : Bool → R) : R243f244 (r243f244 b) K0 = K0 b := by kernel_rfl
def R243f244p (x0 : R) (K0 : Bool → R) : R := x0.bind fun q0 => bif q0.1.all plainS && q0.2.all (fun cs => cs.all plainC) then (bif lensB q0.2 [] && lensS q0.1 [.c (.p (.bool))] then (cBool (resAt q0.1 0)).bind fun b => K0 b else none) else none
@[simp] theorem R243f244p_r (b : Bool) (K0 : Bool → R) : R243f244p (r243f244 b) K0 = K0 b := by kernel_rfl
/-! 244 : impl.areSpans$1 -/
def c244 (k : Nat) (qs qs1 n1 : Int) : R := evF P E T k 244 [.s (.c (.p (PV.agg [.int .u64 qs, .int .u64 qs1]))), .s (.c (.eptr (PV.agg [.int .i64 n1]) 1 0))] []
def r244 (b : Bool) : R := some ([.c (.p (PV.bool b))], [])
def R244 (x0 : R) (K0 : Bool → R) : R := x0.bind fun q0 => bif lensB q0.2 [] && lensS q0.1 [.c (.p (.bool))] then (cBool (resAt q0.1 0)).bind fun b => K0 b else none
@[simp] theorem R244_r (b : Bool) (K0 : Bool → R) : R244 (r244 b) K0 = K0 b := by kernel_rfl
/-! 245 : impl.GoodSpan -/
def c245 (k : Nat) (wide qs qs1 : Int) : R := evF P E T k 245 [.s (.c (.p (PV.int .i64 wide))), .s (.c (.p (PV.agg [.int .u64 qs, .int .u64 qs1])))] []
def r245 (b : Bool) : R := some ([.c (.p (PV.bool b))], [])
def R245 (x0 : R) (K0 : Bool → R) : R := x0.bind fun q0 => bif lensB q0.2 [] && lensS q0.1 [.c (.p (.bool))] then (cBool (resAt q0.1 0)).bind fun b => K0 b else none
@[simp] theorem R245_r (b : Bool) (K0 : Bool → R) : R245 (r245 b) K0 = K0 b := by kernel_rfl
/-! 246 : impl.isWide -/
def c246 (k : Nat) (n1 : Int) : R := evF P E T k 246 [.s (.c (.p (PV.int .i64 n1)))] []
def r246 (b : Bool) : R := some ([.c (.p (PV.bool b))], [])
def R246 (x0 : R) (K0 : Bool → R) : R := x0.bind fun q0 => bif lensB q0.2 [] && lensS q0.1 [.c (.p (.bool))] then (cBool (resAt q0.1 0)).bind fun b => K0 b else none
@[simp] theorem R246_r (b : Bool) (K0 : Bool → R) : R246 (r246 b) K0 = K0 b := by kernel_rfl
/-! 247f248 : slices.ContainsFunc[[]uint64,uint64] -/
def c247f248 (k : Nat) (qs : List PV) (n1 : Int) : R := evF P E T k 247 [.s (.c (.p (PV.row 0 0 qs))), .s (.c (.fn 248 [0]))] [[.p (PV.int .i64 n1)]]
def r247f248 (qr : Int) (b : Bool) : R := some ([.c (.p (PV.bool b))], [[.p (PV.int .i64 qr)]])
def R247f248 (x0 : R) (K0 : Int → Bool → R) : R := x0.bind fun q0 => bif lensB q0.2 [[.p (.int .i64)]] && lensS q0.1 [.c (.p (.bool))] then (cInt (cellAt q0.2 0 0) .i64).bind fun qr => (cBool (resAt q0.1 0)).bind fun b => K0 qr b else none
@[simp] theorem R247f248_r (qr : Int) (b : Bool) (K0 : Int → Bool → R) : R247f248 (r247f248 qr b) K0 = K0 qr b := by kernel_rfl
/-! 248 : impl.isState$1 -/
def c248 (k : Nat) (a n1 : Int) : R := evF P E T k 248 [.s (.c (.p (PV.int .u64 a))), .s (.c (.bptr 0 0))] [[.p (PV.int .i64 n1)]]
def r248 (qr : Int) (b : Bool) : R := some ([.c (.p (PV.bool b))], [[.p (PV.int .i64 qr)]])
def R248 (x0 : R) (K0 : Int → Bool → R) : R := x0.bind fun q0 => bif lensB q0.2 [[.p (.int .i64)]] && lensS q0.1 [.c (.p (.bool))] then (cInt (cellAt q0.2 0 0) .i64).bind fun qr => (cBool (resAt q0.1 0)).bind fun b => K0 qr b else none
@[simp] theorem R248_r (qr : Int) (b : Bool) (K0 : Int → Bool → R) : R248 (r248 qr b) K0 = K0 qr b := by kernel_rfl
/-! 249 : impl.GoodWord -/
def c249 (k : Nat) (wide a : Int) : R := evF P E T k 249 [.s (.c (.p (PV.int .i64 wide))), .s (.c (.p (PV.int .u64 a)))] []
def r249 (b : Bool) : R := some ([.c (.p (PV.bool b))], [])
def R249 (x0 : R) (K0 : Bool → R) : R := x0.bind fun q0 => bif lensB q0.2 [] && lensS q0.1 [.c (.p (.bool))] then (cBool (resAt q0.1 0)).bind fun b => K0 b else none
@[simp] theorem R249_r (b : Bool) (K0 : Bool → R) : R249 (r249 b) K0 = K0 b := by kernel_rfl
/-! 250 : spec.l1Cur).next -/
def c250 (k : Nat) (l : List PV) (n1 n11 : Int) : R := evF P E T k 250 [.s (.c (.bptr 0 0))] [[.p (PV.row 0 0 l), .p (PV.int .i64 n1), .p (PV.int .u64 n11)]]
def r250 (l : List PV) (qr qr1 qr2 : Int) : R := some ([.c (.p (PV.int .i64 qr2))], [[.p (PV.row 0 0 l), .p (PV.int .i64 qr), .p (PV.int .u64 qr1)]])
def R250 (x0 : R) (K0 : List PV → Int → Int → Int → R) : R := x0.bind fun q0 => bif lensB q0.2 [[.p (.row 0), .p (.int .i64), .p (.int .u64)]] && lensS q0.1 [.c (.p (.int .i64))] then (cRow (cellAt q0.2 0 0) 0).bind fun l => (cInt (cellAt q0.2 0 1) .i64).bind fun qr => (cInt (cellAt q0.2 0 2) .u64).bind fun qr1 => (cInt (resAt q0.1 0) .i64).bind fun qr2 => K0 l qr qr1 qr2 else none
@[simp] theorem R250_r (l : List PV) (qr qr1 qr2 : Int) (K0 : List PV → Int → Int → Int → R) : R250 (r250 l qr qr1 qr2) K0 = K0 l qr qr1 qr2 := by kernel_rfl
/-! 251 : spec.l1Cur).word -/
def c251 (k : Nat) (wide : Int) (l : List PV) (n1 n11 : Int) : R := evF P E T k 251 [.s (.c (.bptr 0 0)), .s (.c (.p (PV.int .i64 wide)))] [[.p (PV.row 0 0 l), .p (PV.int .i64 n1), .p (PV.int .u64 n11)]]
def r251 (l : List PV) (qr qr1 qr2 : Int) : R := some ([.c (.p (PV.int .u64 qr2))], [[.p (PV.row 0 0 l), .p (PV.int .i64 qr), .p (PV.int .u64 qr1)]])
def R251 (x0 : R) (K0 : List PV → Int → Int → Int → R) : R := x0.bind fun q0 => bif lensB q0.2 [[.p (.row 0), .p (.int .i64), .p (.int .u64)]] && lensS q0.1 [.c (.p (.int .u64))] then (cRow (cellAt q0.2 0 0) 0).bind fun l => (cInt (cellAt q0.2 0 1) .i64).bind fun qr => (cInt (cellAt q0.2 0 2) .u64).bind fun qr1 => (cInt (resAt q0.1 0) .u64).bind fun qr2 => K0 l qr qr1 qr2 else none
@[simp] theorem R251_r (l : List PV) (qr qr1 qr2 : Int) (K0 : List PV → Int → Int → Int → R) : R251 (r251 l qr qr1 qr2) K0 = K0 l qr qr1 qr2 := by kernel_rfl
/-! 252 : spec.GoodSpan -/
def c252 (k : Nat) (wide qs qs1 : Int) : R := evF P E T k 252 [.s (.c (.p (PV.int .i64 wide))), .s (.c (.p (PV.agg [.int .u64 qs, .int .u64 qs1])))] []
def r252 (b : Bool) : R := some ([.c (.p (PV.bool b))], [])
def R252 (x0 : R) (K0 : Bool → R) : R := x0.bind fun q0 => bif lensB q0.2 [] && lensS q0.1 [.c (.p (.bool))] then (cBool (resAt q0.1 0)).bind fun b => K0 b else none
@[simp] theorem R252_r (b : Bool) (K0 : Bool → R) : R252 (r252 b) K0 = K0 b := by kernel_rfl
/-! 253 : spec.GoodWord -/
def c253 (k : Nat) (wide a : Int) : R := evF P E T k 253 [.s (.c (.p (PV.int .i64 wide))), .s (.c (.p (PV.int .u64 a)))] []
def r253 (b : Bool) : R := some ([.c (.p (PV.bool b))], [])
def R253 (x0 : R) (K0 : Bool → R) : R := x0.bind fun q0 => bif lensB q0.2 [] && lensS q0.1 [.c (.p (.bool))] then (cBool (resAt q0.1 0)).bind fun b => K0 b else none
@[simp] theorem R253_r (b : Bool) (K0 : Bool → R) : R253 (r253 b) K0 = K0 b := by kernel_rfl
/-! 255 : impl.isTermOf -/
def c255 (k : Nat) (wide vars : Int) (t : List PV) (kind : Int) : R := evF P E T k 255 [.s (.c (.p (PV.int .i64 wide))), .s (.c (.p (PV.int .i64 vars))), .s (.c (.p (PV.row 2 0 t))), .s (.c (.p (PV.int .i64 kind)))] []
def r255 (b : Bool) : R := some ([.c (.p (PV.bool b))], [])
def R255 (x0 : R) (K0 : Bool → R) : R := x0.bind fun q0 => bif lensB q0.2 [] && lensS q0.1 [.c (.p (.bool))] then (cBool (resAt q0.1 0)).bind fun b => K0 b else none
@[simp] theorem R255_r (b : Bool) (K0 : Bool → R) : R255 (r255 b) K0 = K0 b := by kernel_rfl
/-! 263 : impl.operandsOf -/
def c263 (k : Nat) (op : Int) : R := evF P E T k 263 [.s (.c (.p (PV.int .i64 op)))] []
def r263 (qr qr1 qr2 : Int) : R := some ([.c (.p (PV.int .i64 qr)), .c (.p (PV.int .i64 qr1)), .c (.p (PV.int .i64 qr2))], [])
def R263 (x0 : R) (K0 : Int → Int → Int → R) : R := x0.bind fun q0 => bif lensB q0.2 [] && lensS q0.1 [.c (.p (.int .i64)), .c (.p (.int .i64)), .c (.p (.int .i64))] then (cInt (resAt q0.1 0) .i64).bind fun qr => (cInt (resAt q0.1 1) .i64).bind fun qr1 => (cInt (resAt q0.1 2) .i64).bind fun qr2 => K0 qr qr1 qr2 else none
@[simp] theorem R263_r (qr qr1 qr2 : Int) (K0 : Int → Int → Int → R) : R263 (r263 qr qr1 qr2) K0 = K0 qr qr1 qr2 := by kernel_rfl
/-! 264 : impl.isLeafRight -/
def c264 (k : Nat) (wide vars x x1 : Int) : R := evF P E T k 264 [.s (.c (.p (PV.int .i64 wide))), .s (.c (.p (PV.int .i64 vars))), .s (.c (.p (PV.agg [.int .i64 x, .int .u64 x1])))] []
def r264 (b : Bool) : R := some ([.c (.p (PV.bool b))], [])
def R264 (x0 : R) (K0 : Bool → R) : R := x0.bind fun q0 => bif lensB q0.2 [] && lensS q0.1 [.c (.p (.bool))] then (cBool (resAt q0.1 0)).bind fun b => K0 b else none
@[simp] theorem R264_r (b : Bool) (K0 : Bool → R) : R264 (r264 b) K0 = K0 b := by kernel_rfl
/-! 265 : impl.GoodTerm$1 -/
def c265 (k : Nat) (own n1 : Int) : R := evF P E T k 265 [.s (.c (.p (PV.int .i64 own))), .s (.c (.bptr 0 0))] [[.p (PV.int .i64 n1)]]
def r265 (qr : Int) (b : Bool) : R := some ([.c (.p (PV.bool b))], [[.p (PV.int .i64 qr)]])
def R265 (x0 : R) (K0 : Int → Bool → R) : R := x0.bind fun q0 => bif lensB q0.2 [[.p (.int .i64)]] && lensS q0.1 [.c (.p (.bool))] then (cInt (cellAt q0.2 0 0) .i64).bind fun qr => (cBool (resAt q0.1 0)).bind fun b => K0 qr b else none
@[simp] theorem R265_r (qr : Int) (b : Bool) (K0 : Int → Bool → R) : R265 (r265 qr b) K0 = K0 qr b := by kernel_rfl
/-! 273f265 : slices.IndexFunc[[]int,int] -/
def c273f265 (k : Nat) (qs : List PV) (n1 : Int) : R := evF P E T k 273 [.s (.c (.p (PV.row 0 0 qs))), .s (.c (.fn 265 [0]))] [[.p (PV.int .i64 n1)]]
def r273f265 (qr qr1 : Int) : R := some ([.c (.p (PV.int .i64 qr1))], [[.p (PV.int .i64 qr)]])
def R273f265 (x0 : R) (K0 : Int → Int → R) : R := x0.bind fun q0 => bif lensB q0.2 [[.p (.int .i64)]] && lensS q0.1 [.c (.p (.int .i64))] then (cInt (cellAt q0.2 0 0) .i64).bind fun qr => (cInt (resAt q0.1 0) .i64).bind fun qr1 => K0 qr qr1 else none
@[simp] theorem R273f265_r (qr qr1 : Int) (K0 : Int → Int → R) : R273f265 (r273f265 qr qr1) K0 = K0 qr qr1 := by kernel_rfl
def L273f265_1 (k n : Nat) (qs : List PV) (t7 t8 n1 : Int) : R := evLoopAt P E T k 273 266273 [1] [1, 0, 1, 0] [] n ⟨mkT 19 [(0, .s (.c (.p (PV.row 0 0 qs)))), (1, .s (.c (.fn 265 [0]))), (7, .s (.c (.p (PV.int .i64 t7)))), (8, .s (.c (.p (PV.int .i64 t8))))], [.box [.p (PV.int .i64 n1)]]⟩
/-! 281 : spec.l2Need -/
def c281 (k : Nat) (op : Int) : R := evF P E T k 281 [.s (.c (.p (PV.int .i64 op)))] []
def r281 (qr qr1 qr2 : Int) : R := some ([.c (.p (PV.int .i64 qr)), .c (.p (PV.int .i64 qr1)), .c (.p (PV.int .i64 qr2))], [])
def R281 (x0 : R) (K0 : Int → Int → Int → R) : R := x0.bind fun q0 => bif lensB q0.2 [] && lensS q0.1 [.c (.p (.int .i64)), .c (.p (.int .i64)), .c (.p (.int .i64))] then (cInt (resAt q0.1 0) .i64).bind fun qr => (cInt (resAt q0.1 1) .i64).bind fun qr1 => (cInt (resAt q0.1 2) .i64).bind fun qr2 => K0 qr qr1 qr2 else none
@[simp] theorem R281_r (qr qr1 qr2 : Int) (K0 : Int → Int → Int → R) : R281 (r281 qr qr1 qr2) K0 = K0 qr qr1 qr2 := by kernel_rfl
/-! 283f300 : impl.Command] -/
def c283f300 (k : Nat) (qs : List PV) (n1 n11 : Int) (l l1 : List PV) : R := evF P E T k 283 [.s (.c (.p (PV.row 2 0 qs))), .s (.c (.fn 300 [0]))] [[.p (PV.int .i64 n1), .p (PV.int .i64 n11), .p (PV.row 2 0 l), .p (PV.row 2 0 l1)]]
def r283f300 (qr qr1 : Int) (l l1 : List PV) (qr2 : Int) : R := some ([.c (.p (PV.int .i64 qr2))], [[.p (PV.int .i64 qr), .p (PV.int .i64 qr1), .p (PV.row 2 0 l), .p (PV.row 2 0 l1)]])
def R283f300 (x0 : R) (K0 : Int → Int → List PV → List PV → Int → R) : R := x0.bind fun q0 => bif lensB q0.2 [[.p (.int .i64), .p (.int .i64), .p (.row 2), .p (.row 2)]] && lensS q0.1 [.c (.p (.int .i64))] then (cInt (cellAt q0.2 0 0) .i64).bind fun qr => (cInt (cellAt q0.2 0 1) .i64).bind fun qr1 => (cRow (cellAt q0.2 0 2) 2).bind fun l => (cRow (cellAt q0.2 0 3) 2).bind fun l1 => (cInt (resAt q0.1 0) .i64).bind fun qr2 => K0 qr qr1 l l1 qr2 else none
@[simp] theorem R283f300_r (qr qr1 : Int) (l l1 : List PV) (qr2 : Int) (K0 : Int → Int → List PV → List PV → Int → R) : R283f300 (r283f300 qr qr1 l l1 qr2) K0 = K0 qr qr1 l l1 qr2 := by kernel_rfl
def L283f300_1 (k n : Nat) (qs : List PV) (t7 t8 n1 n11 : Int) (l l1 : List PV) : R := evLoopAt P E T k 283 301283 [4] [1, 0, 1, 0] [] n ⟨mkT 19 [(0, .s (.c (.p (PV.row 2 0 qs)))), (1, .s (.c (.fn 300 [0]))), (7, .s (.c (.p (PV.int .i64 t7)))), (8, .s (.c (.p (PV.int .i64 t8))))], [.box [.p (PV.int .i64 n1), .p (PV.int .i64 n11), .p (PV.row 2 0 l), .p (PV.row 2 0 l1)]]⟩
/-! 296 : spec.l1Cur).command -/
def c296 (k : Nat) (wide vars : Int) (l : List PV) (n1 n11 : Int) : R := evF P E T k 296 [.s (.c (.bptr 0 0)), .s (.c (.p (PV.int .i64 wide))), .s (.c (.p (PV.int .i64 vars)))] [[.p (PV.row 0 0 l), .p (PV.int .i64 n1), .p (PV.int .u64 n11)]]
def r296 (l : List PV) (qr qr1 : Int) (l1 l2 : List PV) : R := some ([.agg [.p (PV.row 2 0 l1), .own 221 2 l2]], [[.p (PV.row 0 0 l), .p (PV.int .i64 qr), .p (PV.int .u64 qr1)]])
def R296 (x0 : R) (K0 : List PV → Int → Int → List PV → List PV → R) : R := x0.bind fun q0 => bif lensB q0.2 [[.p (.row 0), .p (.int .i64), .p (.int .u64)]] && lensS q0.1 [.agg [.p (.row 2), .own 221 2]] then (cRow (cellAt q0.2 0 0) 0).bind fun l => (cInt (cellAt q0.2 0 1) .i64).bind fun qr => (cInt (cellAt q0.2 0 2) .u64).bind fun qr1 => (cRow (Dp.partAt q0.1 0 0) 2).bind fun l1 => (asOwn 221 2 (Dp.partAt q0.1 0 1)).bind fun l2 => K0 l qr qr1 l1 l2 else none
@[simp] theorem R296_r (l : List PV) (qr qr1 : Int) (l1 l2 : List PV) (K0 : List PV → Int → Int → List PV → List PV → R) : R296 (r296 l qr qr1 l1 l2) K0 = K0 l qr qr1 l1 l2 := by kernel_rfl
def L296_1 (k n : Nat) (wide vars v : Int) (l : List PV) (n1 n11 : Int) (l1 l2 : List PV) (Len Len1 : Nat) (xs xs1 : List PV) : R := evLoopAt P E T k 296 296 [3] [1, 1, 0, 1, 0] [] n ⟨mkT 35 [(0, .s (.c (.bptr 0 0))), (1, .s (.c (.p (PV.int .i64 wide)))), (2, .s (.c (.p (PV.int .i64 vars)))), (6, .s (.c (.bptr 1 0))), (7, .s (.c (.bptr 2 0))), (8, .s (.c (.p (PV.int .i64 v))))], [.box [.p (PV.row 0 0 l), .p (PV.int .i64 n1), .p (PV.int .u64 n11)], .box [.p (PV.row 2 0 l1), .p (PV.row 2 0 l2)], .box [.loc 3 0 2 0 Len, .loc 4 0 2 0 Len1], .arr 176 2 0 false xs, .arr 221 2 0 false xs1]⟩
/-! 297 : spec.l1Cut -/
def c297 (k : Nat) (wide a : Int) : R := evF P E T k 297 [.s (.c (.p (PV.int .i64 wide))), .s (.c (.p (PV.int .u64 a)))] []
def r297 (qr : Int) : R := some ([.c (.p (PV.int .u64 qr))], [])
def R297 (x0 : R) (K0 : Int → R) : R := x0.bind fun q0 => bif lensB q0.2 [] && lensS q0.1 [.c (.p (.int .u64))] then (cInt (resAt q0.1 0) .u64).bind fun qr => K0 qr else none
@[simp] theorem R297_r (qr : Int) (K0 : Int → R) : R297 (r297 qr) K0 = K0 qr := by kernel_rfl
def L297_1 (k n : Nat) (wide a out k1 : Int) : R := evLoopAt P E T k 297 297 [] [1, 1, 0, 1, 0] [] n ⟨mkT 20 [(0, .s (.c (.p (PV.int .i64 wide)))), (1, .s (.c (.p (PV.int .u64 a)))), (5, .s (.c (.p (PV.int .u64 out)))), (6, .s (.c (.p (PV.int .i64 k1))))], []⟩
/-! 298 : spec.l1Wide -/
def c298 (k : Nat) (wide : Int) : R := evF P E T k 298 [.s (.c (.p (PV.int .i64 wide)))] []
def r298 (b : Bool) : R := some ([.c (.p (PV.bool b))], [])
def R298 (x0 : R) (K0 : Bool → R) : R := x0.bind fun q0 => bif lensB q0.2 [] && lensS q0.1 [.c (.p (.bool))] then (cBool (resAt q0.1 0)).bind fun b => K0 b else none
@[simp] theorem R298_r (b : Bool) (K0 : Bool → R) : R298 (r298 b) K0 = K0 b := by kernel_rfl
/-! 299 : spec.l2N -/
def c299 (k : Nat) (wide vars n1 n11 : Int) : R := evF P E T k 299 [.s (.c (.p (PV.int .i64 wide))), .s (.c (.p (PV.int .i64 vars))), .s (.c (.p (PV.agg [.int .i64 n1, .int .u64 n11])))] []
def r299 (b : Bool) : R := some ([.c (.p (PV.bool b))], [])
def R299 (x0 : R) (K0 : Bool → R) : R := x0.bind fun q0 => bif lensB q0.2 [] && lensS q0.1 [.c (.p (.bool))] then (cBool (resAt q0.1 0)).bind fun b => K0 b else none
@[simp] theorem R299_r (b : Bool) (K0 : Bool → R) : R299 (r299 b) K0 = K0 b := by kernel_rfl
/-! 300 : impl.GoodProgram$1 -/
def c300 (k : Nat) (qc qc1 : List PV) (n1 n11 : Int) (l l1 : List PV) : R := evF P E T k 300 [.s (.c (.p (PV.agg [.row 2 0 qc, .row 2 0 qc1]))), .s (.c (.bptr 0 0))] [[.p (PV.int .i64 n1), .p (PV.int .i64 n11), .p (PV.row 2 0 l), .p (PV.row 2 0 l1)]]
def r300 (qr qr1 : Int) (l l1 : List PV) (b : Bool) : R := some ([.c (.p (PV.bool b))], [[.p (PV.int .i64 qr), .p (PV.int .i64 qr1), .p (PV.row 2 0 l), .p (PV.row 2 0 l1)]])
def R300 (x0 : R) (K0 : Int → Int → List PV → List PV → Bool → R) : R := x0.bind fun q0 => bif lensB q0.2 [[.p (.int .i64), .p (.int .i64), .p (.row 2), .p (.row 2)]] && lensS q0.1 [.c (.p (.bool))] then (cInt (cellAt q0.2 0 0) .i64).bind fun qr => (cInt (cellAt q0.2 0 1) .i64).bind fun qr1 => (cRow (cellAt q0.2 0 2) 2).bind fun l => (cRow (cellAt q0.2 0 3) 2).bind fun l1 => (cBool (resAt q0.1 0)).bind fun b => K0 qr qr1 l l1 b else none
@[simp] theorem R300_r (qr qr1 : Int) (l l1 : List PV) (b : Bool) (K0 : Int → Int → List PV → List PV → Bool → R) : R300 (r300 qr qr1 l l1 b) K0 = K0 qr qr1 l l1 b := by kernel_rfl
/-! 301 : impl.Program).isCommand -/
def c301 (k : Nat) (p p1 : Int) (p2 p3 qc qc1 : List PV) : R := evF P E T k 301 [.s (.c (.p (PV.agg [.int .i64 p, .int .i64 p1, .row 2 0 p2, .row 2 0 p3]))), .s (.c (.p (PV.agg [.row 2 0 qc, .row 2 0 qc1])))] []
def r301 (b : Bool) : R := some ([.c (.p (PV.bool b))], [])
def R301 (x0 : R) (K0 : Bool → R) : R := x0.bind fun q0 => bif lensB q0.2 [] && lensS q0.1 [.c (.p (.bool))] then (cBool (resAt q0.1 0)).bind fun b => K0 b else none
@[simp] theorem R301_r (b : Bool) (K0 : Bool → R) : R301 (r301 b) K0 = K0 b := by kernel_rfl
def L301_1 (k n : Nat) (t13 : List PV) (t14 t15 n1 n11 : Int) (l l1 l2 l3 : List PV) : R := evLoopAt P E T k 301 301 [] [1, 1, 0, 1, 0] [] n ⟨mkT 57 [(2, .s (.c (.bptr 0 0))), (3, .s (.c (.bptr 1 0))), (13, .s (.c (.p (PV.row 2 0 t13)))), (14, .s (.c (.p (PV.int .i64 t14)))), (15, .s (.c (.p (PV.int .i64 t15))))], [.box [.p (PV.int .i64 n1), .p (PV.int .i64 n11), .p (PV.row 2 0 l), .p (PV.row 2 0 l1)], .box [.p (PV.row 2 0 l2), .p (PV.row 2 0 l3)]]⟩
/-! 302 : spec.l7Command -/
def c302 (k : Nat) (p p1 : Int) (p2 p3 qc qc1 : List PV) : R := evF P E T k 302 [.s (.c (.p (PV.agg [.int .i64 p, .int .i64 p1, .row 2 0 p2, .row 2 0 p3]))), .s (.c (.p (PV.agg [.row 2 0 qc, .row 2 0 qc1])))] []
def r302 (b : Bool) : R := some ([.c (.p (PV.bool b))], [])
def R302 (x0 : R) (K0 : Bool → R) : R := x0.bind fun q0 => bif lensB q0.2 [] && lensS q0.1 [.c (.p (.bool))] then (cBool (resAt q0.1 0)).bind fun b => K0 b else none
@[simp] theorem R302_r (b : Bool) (K0 : Bool → R) : R302 (r302 b) K0 = K0 b := by kernel_rfl
def L302_1 (k n : Nat) (t21 : List PV) (t22 t23 n1 n11 : Int) (l l1 l2 l3 : List PV) : R := evLoopAt P E T k 302 302 [] [1, 1, 0, 1, 0] [] n ⟨mkT 62 [(2, .s (.c (.bptr 0 0))), (3, .s (.c (.bptr 1 0))), (21, .s (.c (.p (PV.row 2 0 t21)))), (22, .s (.c (.p (PV.int .i64 t22)))), (23, .s (.c (.p (PV.int .i64 t23))))], [.box [.p (PV.int .i64 n1), .p (PV.int .i64 n11), .p (PV.row 2 0 l), .p (PV.row 2 0 l1)], .box [.p (PV.row 2 0 l2), .p (PV.row 2 0 l3)]]⟩
/-! 303 : impl.DivWord -/
def c303 (k : Nat) (wide a b : Int) : R := evF P E T k 303 [.s (.c (.p (PV.int .i64 wide))), .s (.c (.p (PV.int .u64 a))), .s (.c (.p (PV.int .u64 b)))] []
def r303 (qr qr1 : Int) (b : Bool) : R := some ([.c (.p (PV.int .u64 qr)), .c (.p (PV.int .u64 qr1)), .c (.p (PV.bool b))], [])
def R303 (x0 : R) (K0 : Int → Int → Bool → R) : R := x0.bind fun q0 => bif lensB q0.2 [] && lensS q0.1 [.c (.p (.int .u64)), .c (.p (.int .u64)), .c (.p (.bool))] then (cInt (resAt q0.1 0) .u64).bind fun qr => (cInt (resAt q0.1 1) .u64).bind fun qr1 => (cBool (resAt q0.1 2)).bind fun b => K0 qr qr1 b else none
@[simp] theorem R303_r (qr qr1 : Int) (b : Bool) (K0 : Int → Int → Bool → R) : R303 (r303 qr qr1 b) K0 = K0 qr qr1 b := by kernel_rfl
/-! 304 : impl.shift -/
def c304 (k : Nat) (wide a by1 : Int) (left : Bool) : R := evF P E T k 304 [.s (.c (.p (PV.int .i64 wide))), .s (.c (.p (PV.int .u64 a))), .s (.c (.p (PV.int .u64 by1))), .s (.c (.p (PV.bool left)))] []
def r304 (qr : Int) : R := some ([.c (.p (PV.int .u64 qr))], [])
def R304 (x0 : R) (K0 : Int → R) : R := x0.bind fun q0 => bif lensB q0.2 [] && lensS q0.1 [.c (.p (.int .u64))] then (cInt (resAt q0.1 0) .u64).bind fun qr => K0 qr else none
@[simp] theorem R304_r (qr : Int) (K0 : Int → R) : R304 (r304 qr) K0 = K0 qr := by kernel_rfl
/-! 305 : impl.truth -/
def c305 (k : Nat) (holds : Bool) : R := evF P E T k 305 [.s (.c (.p (PV.bool holds)))] []
def r305 (qr : Int) : R := some ([.c (.p (PV.int .u64 qr))], [])
def R305 (x0 : R) (K0 : Int → R) : R := x0.bind fun q0 => bif lensB q0.2 [] && lensS q0.1 [.c (.p (.int .u64))] then (cInt (resAt q0.1 0) .u64).bind fun qr => K0 qr else none
@[simp] theorem R305_r (qr : Int) (K0 : Int → R) : R305 (r305 qr) K0 = K0 qr := by kernel_rfl
/-! 306 : impl.signed -/
def c306 (k : Nat) (wide a : Int) : R := evF P E T k 306 [.s (.c (.p (PV.int .i64 wide))), .s (.c (.p (PV.int .u64 a)))] []
def r306 (qr : Int) : R := some ([.c (.p (PV.int .i64 qr))], [])
def R306 (x0 : R) (K0 : Int → R) : R := x0.bind fun q0 => bif lensB q0.2 [] && lensS q0.1 [.c (.p (.int .i64))] then (cInt (resAt q0.1 0) .i64).bind fun qr => K0 qr else none
@[simp] theorem R306_r (qr : Int) (K0 : Int → R) : R306 (r306 qr) K0 = K0 qr := by kernel_rfl
/-! 307 : impl.spanOfTwo -/
def c307 (k : Nat) (op all all1 a a1 b b1 : Int) : R := evF P E T k 307 [.s (.c (.p (PV.int .i64 op))), .s (.c (.p (PV.agg [.int .u64 all, .int .u64 all1]))), .s (.c (.p (PV.agg [.int .u64 a, .int .u64 a1]))), .s (.c (.p (PV.agg [.int .u64 b, .int .u64 b1])))] []
def r307 (qr qr1 : Int) : R := some ([.agg [.p (PV.int .u64 qr), .p (PV.int .u64 qr1)]], [])
def R307 (x0 : R) (K0 : Int → Int → R) : R := x0.bind fun q0 => bif lensB q0.2 [] && lensS q0.1 [.agg [.p (.int .u64), .p (.int .u64)]] then (cInt (Dp.partAt q0.1 0 0) .u64).bind fun qr => (cInt (Dp.partAt q0.1 0 1) .u64).bind fun qr1 => K0 qr qr1 else none
@[simp] theorem R307_r (qr qr1 : Int) (K0 : Int → Int → R) : R307 (r307 qr qr1) K0 = K0 qr qr1 := by kernel_rfl
/-! 308 : spec.l2From -/
def c308 (k : Nat) (t : List PV) (k1 : Int) : R := evF P E T k 308 [.s (.c (.p (PV.row 2 0 t))), .s (.c (.p (PV.int .i64 k1)))] []
def r308 (qr : Int) : R := some ([.c (.p (PV.int .i64 qr))], [])
def R308 (x0 : R) (K0 : Int → R) : R := x0.bind fun q0 => bif lensB q0.2 [] && lensS q0.1 [.c (.p (.int .i64))] then (cInt (resAt q0.1 0) .i64).bind fun qr => K0 qr else none
@[simp] theorem R308_r (qr : Int) (K0 : Int → R) : R308 (r308 qr) K0 = K0 qr := by kernel_rfl
def L308_1 (k n : Nat) (t : List PV) (many from1 : Int) : R := evLoopAt P E T k 308 308 [] [1, 1, 1, 0, 0] [] n ⟨mkT 29 [(0, .s (.c (.p (PV.row 2 0 t)))), (5, .s (.c (.p (PV.int .i64 many)))), (8, .s (.c (.p (PV.int .i64 from1))))], []⟩
/-! 309 : spec.l18Num -/
def c309 (k : Nat) (wide op a a1 b b1 : Int) : R := evF P E T k 309 [.s (.c (.p (PV.int .i64 wide))), .s (.c (.p (PV.int .i64 op))), .s (.c (.p (PV.agg [.int .u64 a, .int .u64 a1]))), .s (.c (.p (PV.agg [.int .u64 b, .int .u64 b1])))] []
def r309 (qr qr1 : Int) : R := some ([.agg [.p (PV.int .u64 qr), .p (PV.int .u64 qr1)]], [])
def R309 (x0 : R) (K0 : Int → Int → R) : R := x0.bind fun q0 => bif lensB q0.2 [] && lensS q0.1 [.agg [.p (.int .u64), .p (.int .u64)]] then (cInt (Dp.partAt q0.1 0 0) .u64).bind fun qr => (cInt (Dp.partAt q0.1 0 1) .u64).bind fun qr1 => K0 qr qr1 else none
@[simp] theorem R309_r (qr qr1 : Int) (K0 : Int → Int → R) : R309 (r309 qr qr1) K0 = K0 qr qr1 := by kernel_rfl
/-! 310 : spec.l18Ask -/
def c310 (k : Nat) (op a a1 b b1 : Int) : R := evF P E T k 310 [.s (.c (.p (PV.int .i64 op))), .s (.c (.p (PV.agg [.int .u64 a, .int .u64 a1]))), .s (.c (.p (PV.agg [.int .u64 b, .int .u64 b1])))] []
def r310 (qr qr1 : Int) : R := some ([.agg [.p (PV.int .u64 qr), .p (PV.int .u64 qr1)]], [])
def R310 (x0 : R) (K0 : Int → Int → R) : R := x0.bind fun q0 => bif lensB q0.2 [] && lensS q0.1 [.agg [.p (.int .u64), .p (.int .u64)]] then (cInt (Dp.partAt q0.1 0 0) .u64).bind fun qr => (cInt (Dp.partAt q0.1 0 1) .u64).bind fun qr1 => K0 qr qr1 else none
@[simp] theorem R310_r (qr qr1 : Int) (K0 : Int → Int → R) : R310 (r310 qr qr1) K0 = K0 qr qr1 := by kernel_rfl
/-! 311 : spec.l18Least -/
def c311 (k : Nat) (a b : Int) : R := evF P E T k 311 [.s (.c (.p (PV.int .u64 a))), .s (.c (.p (PV.int .u64 b)))] []
def r311 (qr : Int) : R := some ([.c (.p (PV.int .u64 qr))], [])
def R311 (x0 : R) (K0 : Int → R) : R := x0.bind fun q0 => bif lensB q0.2 [] && lensS q0.1 [.c (.p (.int .u64))] then (cInt (resAt q0.1 0) .u64).bind fun qr => K0 qr else none
@[simp] theorem R311_r (qr : Int) (K0 : Int → R) : R311 (r311 qr) K0 = K0 qr := by kernel_rfl
/-! 312 : spec.l18Most -/
def c312 (k : Nat) (a b : Int) : R := evF P E T k 312 [.s (.c (.p (PV.int .u64 a))), .s (.c (.p (PV.int .u64 b)))] []
def r312 (qr : Int) : R := some ([.c (.p (PV.int .u64 qr))], [])
def R312 (x0 : R) (K0 : Int → R) : R := x0.bind fun q0 => bif lensB q0.2 [] && lensS q0.1 [.c (.p (.int .u64))] then (cInt (resAt q0.1 0) .u64).bind fun qr => K0 qr else none
@[simp] theorem R312_r (qr : Int) (K0 : Int → R) : R312 (r312 qr) K0 = K0 qr := by kernel_rfl
/-! 313f244 : impl.Span] -/
def c313f244 (k : Nat) (qs : List PV) (n1 : Int) : R := evF P E T k 313 [.s (.c (.p (PV.row 2 0 qs))), .s (.c (.cfn 244 [PV.agg [.int .i64 n1]]))] []
def r313f244 (qr : Int) : R := some ([.c (.p (PV.int .i64 qr))], [])
def R313f244 (x0 : R) (K0 : Int → R) : R := x0.bind fun q0 => bif lensB q0.2 [] && lensS q0.1 [.c (.p (.int .i64))] then (cInt (resAt q0.1 0) .i64).bind fun qr => K0 qr else none
@[simp] theorem R313f244_r (qr : Int) (K0 : Int → R) : R313f244 (r313f244 qr) K0 = K0 qr := by kernel_rfl
def R313f244p (x0 : R) (K0 : Int → R) : R := x0.bind fun q0 => bif q0.1.all plainS && q0.2.all (fun cs => cs.all plainC) then (bif lensB q0.2 [] && lensS q0.1 [.c (.p (.int .i64))] then (cInt (resAt q0.1 0) .i64).bind fun qr => K0 qr else none) else none
@[simp] theorem R313f244p_r (qr : Int) (K0 : Int → R) : R313f244p (r313f244 qr) K0 = K0 qr := by kernel_rfl
def L313f244_1 (k n : Nat) (qs : List PV) (n1 t7 t8 : Int) : R := evLoopAt P E T k 313 245313 [] [1, 0, 1, 0] [] n ⟨mkT 19 [(0, .s (.c (.p (PV.row 2 0 qs)))), (1, .s (.c (.cfn 244 [PV.agg [.int .i64 n1]]))), (7, .s (.c (.p (PV.int .i64 t7)))), (8, .s (.c (.p (PV.int .i64 t8))))], []⟩
/-! 314f248 : slices.IndexFunc[[]uint64,uint64] -/
def c314f248 (k : Nat) (qs : List PV) (n1 : Int) : R := evF P E T k 314 [.s (.c (.p (PV.row 0 0 qs))), .s (.c (.fn 248 [0]))] [[.p (PV.int .i64 n1)]]
def r314f248 (qr qr1 : Int) : R := some ([.c (.p (PV.int .i64 qr1))], [[.p (PV.int .i64 qr)]])
def R314f248 (x0 : R) (K0 : Int → Int → R) : R := x0.bind fun q0 => bif lensB q0.2 [[.p (.int .i64)]] && lensS q0.1 [.c (.p (.int .i64))] then (cInt (cellAt q0.2 0 0) .i64).bind fun qr => (cInt (resAt q0.1 0) .i64).bind fun qr1 => K0 qr qr1 else none
@[simp] theorem R314f248_r (qr qr1 : Int) (K0 : Int → Int → R) : R314f248 (r314f248 qr qr1) K0 = K0 qr qr1 := by kernel_rfl
def L314f248_1 (k n : Nat) (qs : List PV) (t7 t8 n1 : Int) : R := evLoopAt P E T k 314 249314 [1] [1, 0, 1, 0] [] n ⟨mkT 19 [(0, .s (.c (.p (PV.row 0 0 qs)))), (1, .s (.c (.fn 248 [0]))), (7, .s (.c (.p (PV.int .i64 t7)))), (8, .s (.c (.p (PV.int .i64 t8))))], [.box [.p (PV.int .i64 n1)]]⟩
/-! 315 : spec.l1Cur).long -/
def c315 (k : Nat) (l : List PV) (n1 n11 : Int) : R := evF P E T k 315 [.s (.c (.bptr 0 0))] [[.p (PV.row 0 0 l), .p (PV.int .i64 n1), .p (PV.int .u64 n11)]]
def r315 (l : List PV) (qr qr1 qr2 : Int) : R := some ([.c (.p (PV.int .u64 qr2))], [[.p (PV.row 0 0 l), .p (PV.int .i64 qr), .p (PV.int .u64 qr1)]])
def R315 (x0 : R) (K0 : List PV → Int → Int → Int → R) : R := x0.bind fun q0 => bif lensB q0.2 [[.p (.row 0), .p (.int .i64), .p (.int .u64)]] && lensS q0.1 [.c (.p (.int .u64))] then (cRow (cellAt q0.2 0 0) 0).bind fun l => (cInt (cellAt q0.2 0 1) .i64).bind fun qr => (cInt (cellAt q0.2 0 2) .u64).bind fun qr1 => (cInt (resAt q0.1 0) .u64).bind fun qr2 => K0 l qr qr1 qr2 else none
@[simp] theorem R315_r (l : List PV) (qr qr1 qr2 : Int) (K0 : List PV → Int → Int → Int → R) : R315 (r315 l qr qr1 qr2) K0 = K0 l qr qr1 qr2 := by kernel_rfl
def L315_1 (k n : Nat) (n1 i : Int) (l : List PV) (n11 n12 : Int) : R := evLoopAt P E T k 315 315 [3] [1, 1, 0, 1, 0] [] n ⟨mkT 16 [(0, .s (.c (.bptr 0 0))), (3, .s (.c (.p (PV.int .u64 n1)))), (4, .s (.c (.p (PV.int .i64 i))))], [.box [.p (PV.row 0 0 l), .p (PV.int .i64 n11), .p (PV.int .u64 n12)]]⟩
/-! 316 : spec.l1Both -/
def c316 (k : Nat) (wide a b : Int) : R := evF P E T k 316 [.s (.c (.p (PV.int .i64 wide))), .s (.c (.p (PV.int .u64 a))), .s (.c (.p (PV.int .u64 b)))] []
def r316 (b : Bool) : R := some ([.c (.p (PV.bool b))], [])
def R316 (x0 : R) (K0 : Bool → R) : R := x0.bind fun q0 => bif lensB q0.2 [] && lensS q0.1 [.c (.p (.bool))] then (cBool (resAt q0.1 0)).bind fun b => K0 b else none
@[simp] theorem R316_r (b : Bool) (K0 : Bool → R) : R316 (r316 b) K0 = K0 b := by kernel_rfl
/-! 326 : impl.areWords -/
def c326 (k : Nat) (wide a b : Int) : R := evF P E T k 326 [.s (.c (.p (PV.int .i64 wide))), .s (.c (.p (PV.int .u64 a))), .s (.c (.p (PV.int .u64 b)))] []
def r326 (b : Bool) : R := some ([.c (.p (PV.bool b))], [])
def R326 (x0 : R) (K0 : Bool → R) : R := x0.bind fun q0 => bif lensB q0.2 [] && lensS q0.1 [.c (.p (.bool))] then (cBool (resAt q0.1 0)).bind fun b => K0 b else none
@[simp] theorem R326_r (b : Bool) (K0 : Bool → R) : R326 (r326 b) K0 = K0 b := by kernel_rfl
/-! 327 : bits.Div64 -/
def c327 (k : Nat) (hi lo y : Int) : R := evF P E T k 327 [.s (.c (.p (PV.int .u64 hi))), .s (.c (.p (PV.int .u64 lo))), .s (.c (.p (PV.int .u64 y)))] []
def r327 (qr qr1 : Int) : R := some ([.c (.p (PV.int .u64 qr)), .c (.p (PV.int .u64 qr1))], [])
def R327 (x0 : R) (K0 : Int → Int → R) : R := x0.bind fun q0 => bif lensB q0.2 [] && lensS q0.1 [.c (.p (.int .u64)), .c (.p (.int .u64))] then (cInt (resAt q0.1 0) .u64).bind fun qr => (cInt (resAt q0.1 1) .u64).bind fun qr1 => K0 qr qr1 else none
@[simp] theorem R327_r (qr qr1 : Int) (K0 : Int → Int → R) : R327 (r327 qr qr1) K0 = K0 qr qr1 := by kernel_rfl
def L327_1 (k n : Nat) (y qs yn1 yn0 un32 un1 un0 q1 rhat : Int) : R := evLoopAt P E T k 327 327 [] [1, 1, 1, 1, 1, 1, 1, 1, 1, 1, 1, 1, 1, 1, 0, 0] [] n ⟨mkT 135 [(2, .s (.c (.p (PV.int .u64 y)))), (8, .s (.c (.p (PV.int .u64 qs)))), (9, .s (.c (.p (PV.int .u64 yn1)))), (10, .s (.c (.p (PV.int .u64 yn0)))), (11, .s (.c (.p (PV.int .u64 un32)))), (13, .s (.c (.p (PV.int .u64 un1)))), (14, .s (.c (.p (PV.int .u64 un0)))), (15, .s (.c (.p (PV.int .u64 q1)))), (16, .s (.c (.p (PV.int .u64 rhat))))], []⟩
def L327_2 (k n : Nat) (y qs yn1 yn0 un0 q1 rhat un21 q0 : Int) : R := evLoopAt P E T k 327 327 [] [1, 1, 1, 1, 1, 1, 1, 1, 1, 1, 1, 1, 1, 1, 1, 1, 1, 1, 0, 0] [] n ⟨mkT 135 [(2, .s (.c (.p (PV.int .u64 y)))), (8, .s (.c (.p (PV.int .u64 qs)))), (9, .s (.c (.p (PV.int .u64 yn1)))), (10, .s (.c (.p (PV.int .u64 yn0)))), (14, .s (.c (.p (PV.int .u64 un0)))), (15, .s (.c (.p (PV.int .u64 q1)))), (16, .s (.c (.p (PV.int .u64 rhat)))), (17, .s (.c (.p (PV.int .u64 un21)))), (18, .s (.c (.p (PV.int .u64 q0))))], []⟩
/-! 328 : impl.sumSpan -/
def c328 (k : Nat) (all all1 a a1 b b1 : Int) : R := evF P E T k 328 [.s (.c (.p (PV.agg [.int .u64 all, .int .u64 all1]))), .s (.c (.p (PV.agg [.int .u64 a, .int .u64 a1]))), .s (.c (.p (PV.agg [.int .u64 b, .int .u64 b1])))] []
def r328 (qr qr1 : Int) : R := some ([.agg [.p (PV.int .u64 qr), .p (PV.int .u64 qr1)]], [])
def R328 (x0 : R) (K0 : Int → Int → R) : R := x0.bind fun q0 => bif lensB q0.2 [] && lensS q0.1 [.agg [.p (.int .u64), .p (.int .u64)]] then (cInt (Dp.partAt q0.1 0 0) .u64).bind fun qr => (cInt (Dp.partAt q0.1 0 1) .u64).bind fun qr1 => K0 qr qr1 else none
@[simp] theorem R328_r (qr qr1 : Int) (K0 : Int → Int → R) : R328 (r328 qr qr1) K0 = K0 qr qr1 := by kernel_rfl
/-! 329 : impl.productSpan -/
def c329 (k : Nat) (all all1 a a1 b b1 : Int) : R := evF P E T k 329 [.s (.c (.p (PV.agg [.int .u64 all, .int .u64 all1]))), .s (.c (.p (PV.agg [.int .u64 a, .int .u64 a1]))), .s (.c (.p (PV.agg [.int .u64 b, .int .u64 b1])))] []
def r329 (qr qr1 : Int) : R := some ([.agg [.p (PV.int .u64 qr), .p (PV.int .u64 qr1)]], [])
def R329 (x0 : R) (K0 : Int → Int → R) : R := x0.bind fun q0 => bif lensB q0.2 [] && lensS q0.1 [.agg [.p (.int .u64), .p (.int .u64)]] then (cInt (Dp.partAt q0.1 0 0) .u64).bind fun qr => (cInt (Dp.partAt q0.1 0 1) .u64).bind fun qr1 => K0 qr qr1 else none
@[simp] theorem R329_r (qr qr1 : Int) (K0 : Int → Int → R) : R329 (r329 qr qr1) K0 = K0 qr qr1 := by kernel_rfl
/-! 330 : impl.meetSpans -/
def c330 (k : Nat) (a a1 b b1 : Int) : R := evF P E T k 330 [.s (.c (.p (PV.agg [.int .u64 a, .int .u64 a1]))), .s (.c (.p (PV.agg [.int .u64 b, .int .u64 b1])))] []
def r330 (qr qr1 : Int) (b : Bool) : R := some ([.agg [.p (PV.int .u64 qr), .p (PV.int .u64 qr1)], .c (.p (PV.bool b))], [])
def R330 (x0 : R) (K0 : Int → Int → Bool → R) : R := x0.bind fun q0 => bif lensB q0.2 [] && lensS q0.1 [.agg [.p (.int .u64), .p (.int .u64)], .c (.p (.bool))] then (cInt (Dp.partAt q0.1 0 0) .u64).bind fun qr => (cInt (Dp.partAt q0.1 0 1) .u64).bind fun qr1 => (cBool (resAt q0.1 1)).bind fun b => K0 qr qr1 b else none
@[simp] theorem R330_r (qr qr1 : Int) (b : Bool) (K0 : Int → Int → Bool → R) : R330 (r330 qr qr1 b) K0 = K0 qr qr1 b := by kernel_rfl
/-! 331 : impl.comparison -/
def c331 (k : Nat) (yes no : Bool) : R := evF P E T k 331 [.s (.c (.p (PV.bool yes))), .s (.c (.p (PV.bool no)))] []
def r331 (qr qr1 : Int) : R := some ([.agg [.p (PV.int .u64 qr), .p (PV.int .u64 qr1)]], [])
def R331 (x0 : R) (K0 : Int → Int → R) : R := x0.bind fun q0 => bif lensB q0.2 [] && lensS q0.1 [.agg [.p (.int .u64), .p (.int .u64)]] then (cInt (Dp.partAt q0.1 0 0) .u64).bind fun qr => (cInt (Dp.partAt q0.1 0 1) .u64).bind fun qr1 => K0 qr qr1 else none
@[simp] theorem R331_r (qr qr1 : Int) (K0 : Int → Int → R) : R331 (r331 qr qr1) K0 = K0 qr qr1 := by kernel_rfl
/-! 332 : spec.l18Fits -/
def c332 (k : Nat) (wide a b : Int) : R := evF P E T k 332 [.s (.c (.p (PV.int .i64 wide))), .s (.c (.p (PV.int .u64 a))), .s (.c (.p (PV.int .u64 b)))] []
def r332 (b : Bool) : R := some ([.c (.p (PV.bool b))], [])
def R332 (x0 : R) (K0 : Bool → R) : R := x0.bind fun q0 => bif lensB q0.2 [] && lensS q0.1 [.c (.p (.bool))] then (cBool (resAt q0.1 0)).bind fun b => K0 b else none
@[simp] theorem R332_r (b : Bool) (K0 : Bool → R) : R332 (r332 b) K0 = K0 b := by kernel_rfl
/-! 348 : bits.Len64 -/
def c348 (k : Nat) (x : Int) : R := evF P E T k 348 [.s (.c (.p (PV.int .u64 x)))] []
def r348 (qr : Int) : R := some ([.c (.p (PV.int .i64 qr))], [])
def R348 (x0 : R) (K0 : Int → R) : R := x0.bind fun q0 => bif lensB q0.2 [] && lensS q0.1 [.c (.p (.int .i64))] then (cInt (resAt q0.1 0) .i64).bind fun qr => K0 qr else none
@[simp] theorem R348_r (qr : Int) (K0 : Int → R) : R348 (r348 qr) K0 = K0 qr := by kernel_rfl
/-! 350 : bits.Mul64 -/
def c350 (k : Nat) (x y : Int) : R := evF P E T k 350 [.s (.c (.p (PV.int .u64 x))), .s (.c (.p (PV.int .u64 y)))] []
def r350 (qr qr1 : Int) : R := some ([.c (.p (PV.int .u64 qr)), .c (.p (PV.int .u64 qr1))], [])
def R350 (x0 : R) (K0 : Int → Int → R) : R := x0.bind fun q0 => bif lensB q0.2 [] && lensS q0.1 [.c (.p (.int .u64)), .c (.p (.int .u64))] then (cInt (resAt q0.1 0) .u64).bind fun qr => (cInt (resAt q0.1 1) .u64).bind fun qr1 => K0 qr qr1 else none
@[simp] theorem R350_r (qr qr1 : Int) (K0 : Int → Int → R) : R350 (r350 qr qr1) K0 = K0 qr qr1 := by kernel_rfl
/-! 351 : bits.LeadingZeros64 -/
def c351 (k : Nat) (x : Int) : R := evF P E T k 351 [.s (.c (.p (PV.int .u64 x)))] []
def r351 (qr : Int) : R := some ([.c (.p (PV.int .i64 qr))], [])
def R351 (x0 : R) (K0 : Int → R) : R := x0.bind fun q0 => bif lensB q0.2 [] && lensS q0.1 [.c (.p (.int .i64))] then (cInt (resAt q0.1 0) .i64).bind fun qr => K0 qr else none
@[simp] theorem R351_r (qr : Int) (K0 : Int → R) : R351 (r351 qr) K0 = K0 qr := by kernel_rfl
end
end Go.Proofs.YtclkgblckicabaaGreat
/- Normal forms: printed by nf.py. -/
set_option linter.unusedVariables false
set_option maxRecDepth 100000
namespace Go.Proofs.YtclkgblckicabaaGreat
open Go.Dp
/-! 4 : laws.FnSettled -/
theorem n4 (k : Nat) (code more : List PV) : c4 (k + 1) code more =
 R12 (c12 k code more) fun b1 =>
 bif b1 then
  r4 true
 else
  R26 (c26 k code) fun v1 v2 l1 l2 l3 v3 =>
  R27 (c27 k v1 v2 l1 l2 l3 v3) fun l4 b2 b3 =>
  R28 (c28 k v1 v2 l1 l2 l3 v3) fun l5 b4 b5 =>
  bif (!(b3 == b5)) then
   r4 false
  else
   bif (!(b2 == b4)) then
    r4 false
   else
    R29 (c29 k l4 l5) fun b6 =>
    bif !b6 then
     r4 false
    else
     bif b3 then
      bif b2 then
       R30 (c30 k v1 v2 l1 l2 l4) fun l6 b7 =>
       bif !b7 then
        r4 false
       else
        R29 (c29 k l6 l4) fun b8 =>
        bif !b8 then
         r4 false
        else L4_1 k k more l4 0 l4 (l4.length : Int) 0 v1 v2 l1 l2 []
      else
       R34 (c34 k more) fun v4 v5 l7 l8 l9 =>
       R30 (c30 k v4 v5 l7 l8 l9) fun l10 b9 =>
       R35 (c35 k v4 v5 l7 l8 l9) fun l11 b10 =>
       R36 (c36 k more) fun v6 l12 l13 =>
       R33 (c33 k v6 l12 l13) fun b11 b12 =>
       R37 (c37 k v6 l12 l13) fun b13 b14 =>
       bif (b9 == b10) then
        R29 (c29 k l10 l11) fun b15 =>
        bif b15 then
         bif (b12 == b14) then
          r4 (b11 == b13)
         else r4 false
        else r4 false
       else r4 false
     else
      R34 (c34 k more) fun v7 v8 l14 l15 l16 =>
      R30 (c30 k v7 v8 l14 l15 l16) fun l17 b16 =>
      R35 (c35 k v7 v8 l14 l15 l16) fun l18 b17 =>
      R36 (c36 k more) fun v9 l19 l20 =>
      R33 (c33 k v9 l19 l20) fun b18 b19 =>
      R37 (c37 k v9 l19 l20) fun b20 b21 =>
      bif (b16 == b17) then
       R29 (c29 k l17 l18) fun b22 =>
       bif b22 then
        bif (b19 == b21) then
         r4 (b18 == b20)
        else r4 false
       else r4 false
      else r4 false := by kernel_rfl
theorem sL4_1 (k n : Nat) (more l : List PV) (stateLen : Nat) (t96 : List PV) (t97 t98 n1 n11 : Int) (l1 l2 xs : List PV) : L4_1 k (n + 1) more l stateLen t96 t97 t98 n1 n11 l1 l2 xs =
 bif decide (t98 < t97) then
  (lookP t96 t98).bind fun p1 =>
  bif p1.shp 2 then
   (p1.atInt .u64 0).bind fun n2 =>
   (p1.atInt .u64 1).bind fun n3 =>
   bif decide (IntKind.u64.wrap (n3 - n2) < 1000000) then
    R31 (c31 k more) fun v1 =>
    bif !(IntKind.i64.wrap (t98 + 1) == 0) then
     bif !(IntKind.u64.wrap ((IntKind.u64.wrap (n3 - n2)) + 1) == 0) then
      bif decide ((stateLen + 1) * 8 ≤ LIM) && decide (stateLen + 1 ≤ LIM) then
       L4_1 k n more l (stateLen + 1) t96 t97 (IntKind.i64.wrap (t98 + 1)) n1 n11 l1 l2 ((xs.take stateLen) ++ [PV.int .u64 (IntKind.u64.wrap (n2 + ((IntKind.u64.wrap (IntKind.i64.wrap (v1.tdiv (IntKind.i64.wrap (t98 + 1))))).tmod (IntKind.u64.wrap ((IntKind.u64.wrap (n3 - n2)) + 1)))))])
      else none
     else none
    else none
   else
    R31 (c31 k more) fun v2 =>
    bif !(IntKind.i64.wrap (t98 + 1) == 0) then
     bif decide ((stateLen + 1) * 8 ≤ LIM) && decide (stateLen + 1 ≤ LIM) then
      L4_1 k n more l (stateLen + 1) t96 t97 (IntKind.i64.wrap (t98 + 1)) n1 n11 l1 l2 ((xs.take stateLen) ++ [PV.int .u64 (IntKind.u64.wrap (n2 + ((IntKind.u64.wrap (IntKind.i64.wrap (v2.tdiv (IntKind.i64.wrap (t98 + 1))))).tmod 1000000)))])
     else none
    else none
  else none
 else L4_2 k k more l stateLen (l2.length : Int) 0 n1 n11 l1 l2 xs := by kernel_rfl
theorem sL4_2 (k n : Nat) (more l : List PV) (stateLen : Nat) (t139 t140 n1 n11 : Int) (l1 l2 xs : List PV) : L4_2 k (n + 1) more l stateLen t139 t140 n1 n11 l1 l2 xs =
 bif decide (t140 < t139) then
  R32 (c32 k n1 n11 l1 l2 (xs.take stateLen) t140) fun l3 b1 =>
  R33 (c33 k n1 l l3) fun b2 b3 =>
  bif b1 then
   bif !b3 then
    r4 false
   else
    bif !b2 then
     r4 false
    else L4_3 k n more l (xs.take stateLen) t139 (IntKind.i64.wrap (t140 + 1)) n1 n11 l1 l2
  else L4_3 k n more l (xs.take stateLen) t139 (IntKind.i64.wrap (t140 + 1)) n1 n11 l1 l2
 else
  R34 (c34 k more) fun v1 v2 l4 l5 l6 =>
  R30 (c30 k v1 v2 l4 l5 l6) fun l7 b4 =>
  R35 (c35 k v1 v2 l4 l5 l6) fun l8 b5 =>
  R36 (c36 k more) fun v3 l9 l10 =>
  R33 (c33 k v3 l9 l10) fun b6 b7 =>
  R37 (c37 k v3 l9 l10) fun b8 b9 =>
  bif (b4 == b5) then
   R29 (c29 k l7 l8) fun b10 =>
   bif b10 then
    bif (b7 == b9) then
     r4 (b6 == b8)
    else r4 false
   else r4 false
  else r4 false := by kernel_rfl
theorem sL4_3 (k n : Nat) (more l state : List PV) (t139 t140 n1 n11 : Int) (l1 l2 : List PV) : L4_3 k (n + 1) more l state t139 t140 n1 n11 l1 l2 =
 bif decide (t140 < t139) then
  R32 (c32 k n1 n11 l1 l2 state t140) fun l3 b1 =>
  R33 (c33 k n1 l l3) fun b2 b3 =>
  bif b1 then
   bif !b3 then
    r4 false
   else
    bif !b2 then
     r4 false
    else L4_3 k n more l state t139 (IntKind.i64.wrap (t140 + 1)) n1 n11 l1 l2
  else L4_3 k n more l state t139 (IntKind.i64.wrap (t140 + 1)) n1 n11 l1 l2
 else
  R34 (c34 k more) fun v1 v2 l4 l5 l6 =>
  R30 (c30 k v1 v2 l4 l5 l6) fun l7 b4 =>
  R35 (c35 k v1 v2 l4 l5 l6) fun l8 b5 =>
  R36 (c36 k more) fun v3 l9 l10 =>
  R33 (c33 k v3 l9 l10) fun b6 b7 =>
  R37 (c37 k v3 l9 l10) fun b8 b9 =>
  bif (b4 == b5) then
   R29 (c29 k l7 l8) fun b10 =>
   bif b10 then
    bif (b7 == b9) then
     r4 (b6 == b8)
    else r4 false
   else r4 false
  else r4 false := by kernel_rfl
/-! 12 : laws.big -/
theorem n12 (k : Nat) (code more : List PV) : c12 (k + 1) code more =
 bif decide ((code.length : Int) > 1048576) then
  r12 true
 else r12 (decide ((more.length : Int) > IntKind.i64.wrap (1048576 - (code.length : Int)))) := by kernel_rfl
/-! 26 : spec.DrawSettleSpans -/
theorem n26 (k : Nat) (code : List PV) : c26 (k + 1) code =
 R126 (c126 k code 0 0) fun l1 v1 v2 v3 v4 l2 l3 =>
 R127 (c127 k v3 v4 l1 v1 v2) fun l4 v5 v6 l5 =>
 R128 (c128 k [PV.int .i64 0, PV.int .i64 1, PV.int .i64 2, PV.int .i64 5, PV.int .i64 20, PV.int .i64 20, PV.int .i64 21] l4 v5 v6) fun l6 v7 v8 v9 =>
 r26 v3 v4 l2 l3 l5 v9 := by kernel_rfl
/-! 27 : impl.SettleSpans -/
theorem n27 (k : Nat) (p p1 : Int) (p2 p3 spans : List PV) (rounds : Int) : c27 (k + 1) p p1 p2 p3 spans rounds =
 R129 (c129 k p p1 p2 p3 spans) fun b1 =>
 bif !b1 then
  r27 [] false false
 else
  bif decide (rounds < 0) then
   r27 [] false false
  else
   bif decide (rounds > 20) then
    r27 [] false false
   else
    R130 (c130 k spans) fun l1 =>
    L27_1 k k l1.length rounds 0 p p1 p2 p3 l1 := by kernel_rfl
theorem sL27_1 (k n : Nat) (outLen : Nat) (t24 t25 n1 n11 : Int) (l l1 xs : List PV) : L27_1 k (n + 1) outLen t24 t25 n1 n11 l l1 xs =
 bif decide (t25 < t24) then
  R131 (c131 k n1 n11 l l1 (xs.take outLen)) fun l2 =>
  L27_2 k n l2 t24 (IntKind.i64.wrap (t25 + 1)) n1 n11 l l1
 else
  R131 (c131 k n1 n11 l l1 (xs.take outLen)) fun l3 =>
  R132 (c132 k l3 (xs.take outLen)) fun b1 =>
  r27 (xs.take outLen) b1 true := by kernel_rfl
theorem sL27_2 (k n : Nat) (out : List PV) (t24 t25 n1 n11 : Int) (l l1 : List PV) : L27_2 k (n + 1) out t24 t25 n1 n11 l l1 =
 bif decide (t25 < t24) then
  R131 (c131 k n1 n11 l l1 out) fun l2 =>
  L27_2 k n l2 t24 (IntKind.i64.wrap (t25 + 1)) n1 n11 l l1
 else
  R131 (c131 k n1 n11 l l1 out) fun l3 =>
  R132 (c132 k l3 out) fun b1 =>
  r27 out b1 true := by kernel_rfl
/-! 28 : spec.SettleSpans -/
theorem n28 (k : Nat) (p p1 : Int) (p2 p3 spans : List PV) (rounds : Int) : c28 (k + 1) p p1 p2 p3 spans rounds =
 R133 (c133 k p p1 p2 p3 spans) fun b1 =>
 bif !b1 then
  r28 [] false false
 else
  R117 (c117 k rounds 0 20) fun b2 =>
  bif !b2 then
   r28 [] false false
  else
   bif decide ((0 + spans.length) * 16 ≤ LIM) && decide (0 + spans.length ≤ LIM) then
    L28_1 k k rounds (0 + spans.length) p p1 p2 p3 ([] ++ spans)
   else none := by kernel_rfl
theorem sL28_1 (k n : Nat) (rounds : Int) (outLen : Nat) (n1 n11 : Int) (l l1 xs : List PV) : L28_1 k (n + 1) rounds outLen n1 n11 l l1 xs =
 bif decide (rounds > 0) then
  R134 (c134 k n1 n11 l l1 (xs.take outLen)) fun l2 =>
  L28_2 k n (IntKind.i64.wrap (rounds - 1)) l2 n1 n11 l l1
 else
  R134 (c134 k n1 n11 l l1 (xs.take outLen)) fun l3 =>
  L28_3 k k (xs.take outLen) true l3 (l3.length : Int) 0 := by kernel_rfl
theorem sL28_2 (k n : Nat) (rounds : Int) (out : List PV) (n1 n11 : Int) (l l1 : List PV) : L28_2 k (n + 1) rounds out n1 n11 l l1 =
 bif decide (rounds > 0) then
  R134 (c134 k n1 n11 l l1 out) fun l2 =>
  L28_2 k n (IntKind.i64.wrap (rounds - 1)) l2 n1 n11 l l1
 else
  R134 (c134 k n1 n11 l l1 out) fun l3 =>
  L28_3 k k out true l3 (l3.length : Int) 0 := by kernel_rfl
theorem sL28_3 (k n : Nat) (out : List PV) (still : Bool) (t34 : List PV) (t35 t36 : Int) : L28_3 k (n + 1) out still t34 t35 t36 =
 bif decide (t36 < t35) then
  (lookP t34 t36).bind fun p1 =>
  bif p1.shp 2 then
   (p1.atInt .u64 0).bind fun n1 =>
   (p1.atInt .u64 1).bind fun n2 =>
   bif still then
    (lookP out t36).bind fun p2 =>
    bif p2.shp 2 then
     (p2.atInt .u64 0).bind fun n3 =>
     (p2.atInt .u64 1).bind fun n4 =>
     L28_3 k n out ((n1 == n3) && ((n2 == n4) && true)) t34 t35 (IntKind.i64.wrap (t36 + 1))
    else none
   else L28_3 k n out false t34 t35 (IntKind.i64.wrap (t36 + 1))
  else none
 else r28 out still true := by kernel_rfl
/-! 29 : laws.sameSpans -/
theorem n29 (k : Nat) (a b : List PV) : c29 (k + 1) a b =
 bif ((a.length : Int) != (b.length : Int)) then
  r29 false
 else L29_1 k k a b (a.length : Int) 0 := by kernel_rfl
theorem sL29_1 (k n : Nat) (a b : List PV) (t12 t13 : Int) : L29_1 k (n + 1) a b t12 t13 =
 bif decide (t13 < t12) then
  (lookP a t13).bind fun p1 =>
  bif p1.shp 2 then
   (p1.atInt .u64 0).bind fun n1 =>
   (p1.atInt .u64 1).bind fun n2 =>
   (lookP b t13).bind fun p2 =>
   bif p2.shp 2 then
    (p2.atInt .u64 0).bind fun n3 =>
    (p2.atInt .u64 1).bind fun n4 =>
    bif (!((n1 == n3) && ((n2 == n4) && true))) then
     r29 false
    else L29_1 k n a b t12 (IntKind.i64.wrap (t13 + 1))
   else none
  else none
 else r29 true := by kernel_rfl
/-! 30 : impl.SpanRound -/
theorem n30 (k : Nat) (p p1 : Int) (p2 p3 spans : List PV) : c30 (k + 1) p p1 p2 p3 spans =
 R129 (c129 k p p1 p2 p3 spans) fun b1 =>
 bif !b1 then
  r30 [] false
 else
  R131 (c131 k p p1 p2 p3 spans) fun l1 =>
  r30 l1 true := by kernel_rfl
/-! 31 : laws.numberOf -/
theorem n31 (k : Nat) (b : List PV) : c31 (k + 1) b =
 L31_1 k k 0 b (b.length : Int) 0 := by kernel_rfl
theorem sL31_1 (k n : Nat) (n1 : Int) (t6 : List PV) (t7 t8 : Int) : L31_1 k (n + 1) n1 t6 t7 t8 =
 bif decide (t8 < t7) then
  (lookP t6 t8).bind fun p1 =>
  (p1.atInt .u8 0).bind fun n2 =>
  L31_1 k n ((IntKind.i64.wrap ((IntKind.i64.wrap (31 * n1)) + (IntKind.i64.wrap n2))).tmod 1000003) t6 t7 (IntKind.i64.wrap (t8 + 1))
 else r31 n1 := by kernel_rfl
/-! 32 : impl.StepBy -/
theorem n32 (k : Nat) (p p1 : Int) (p2 p3 qs : List PV) (k1 : Int) : c32 (k + 1) p p1 p2 p3 qs k1 =
 R135 (c135 k p p1 p2 p3 qs) fun b1 =>
 bif !b1 then
  r32 [] false
 else
  R136 (c136 k p p1 p2 p3 k1) fun b2 =>
  bif !b2 then
   r32 [] false
  else
   (lookP p3 k1).bind fun p4 =>
   (p4.atRow 2 0).bind fun l1 =>
   R137 (c137 k p p1 p2 p3 l1 qs) fun b3 =>
   bif !b3 then
    r32 [] false
   else
    (lookP p3 k1).bind fun p5 =>
    bif p5.shp 2 then
     (p5.atRow 2 0).bind fun l2 =>
     (p5.atRow 2 1).bind fun l3 =>
     R138 (c138 k p p1 p2 p3 l2 l3 qs) fun l4 =>
     r32 l4 true
    else none := by kernel_rfl
/-! 33 : impl.InSpans -/
theorem n33 (k : Nat) (wide : Int) (spans state : List PV) : c33 (k + 1) wide spans state =
 R139 (c139 k wide spans) fun b1 =>
 bif !b1 then
  r33 false false
 else
  R140 (c140 k wide (spans.length : Int) state) fun b2 =>
  bif !b2 then
   r33 false false
  else L33_1 k k state spans (spans.length : Int) 0 := by kernel_rfl
theorem sL33_1 (k n : Nat) (state t22 : List PV) (t23 t24 : Int) : L33_1 k (n + 1) state t22 t23 t24 =
 bif decide (t24 < t23) then
  (lookP t22 t24).bind fun p1 =>
  bif p1.shp 2 then
   (p1.atInt .u64 0).bind fun n1 =>
   (p1.atInt .u64 1).bind fun n2 =>
   (lookP state t24).bind fun p2 =>
   (p2.atInt .u64 0).bind fun n3 =>
   R141 (c141 k n1 n2 n3) fun b1 =>
   bif !b1 then
    r33 false true
   else L33_1 k n state t22 t23 (IntKind.i64.wrap (t24 + 1))
  else none
 else r33 true true := by kernel_rfl
/-! 34 : spec.DrawSpanRound -/
theorem n34 (k : Nat) (code : List PV) : c34 (k + 1) code =
 R126 (c126 k code 0 0) fun l1 v1 v2 v3 v4 l2 l3 =>
 R127 (c127 k v3 v4 l1 v1 v2) fun l4 v5 v6 l5 =>
 r34 v3 v4 l2 l3 l5 := by kernel_rfl
/-! 35 : spec.SpanRound -/
theorem n35 (k : Nat) (p p1 : Int) (p2 p3 spans : List PV) : c35 (k + 1) p p1 p2 p3 spans =
 R133 (c133 k p p1 p2 p3 spans) fun b1 =>
 bif !b1 then
  r35 [] false
 else
  R134 (c134 k p p1 p2 p3 spans) fun l1 =>
  r35 l1 true := by kernel_rfl
/-! 36 : spec.DrawInSpans -/
theorem n36 (k : Nat) (code : List PV) : c36 (k + 1) code =
 R142 (c142 k code 0 0) fun l1 v1 v2 v3 =>
 R143 (c143 k 4 l1 v1 v2) fun l2 v4 v5 v6 =>
 R127 (c127 k v3 (IntKind.i64.wrap (1 + v6)) l2 v4 v5) fun l3 v7 v8 l4 =>
 R144 (c144 k v3 (l4.length : Int) l3 v7 v8) fun l5 v9 v10 l6 =>
 R145 (c145 k 3 l5 v9 v10) fun l7 v11 v12 b1 =>
 bif b1 then
  L36_1 k k v3 l4 l6.length (l6.length : Int) 0 l6
 else r36 v3 l4 (l6.take l6.length) := by kernel_rfl
theorem sL36_1 (k n : Nat) (n1 : Int) (l : List PV) (sLen : Nat) (t29 t30 : Int) (xs : List PV) : L36_1 k (n + 1) n1 l sLen t29 t30 xs =
 bif decide (t30 < t29) then
  (lookP l t30).bind fun p1 =>
  (p1.atInt .u64 1).bind fun n2 =>
  bif decide ((0 : Int) ≤ t30) && decide (t30 < (sLen : Int)) then
   (xs[0 + t30.toNat]?).bind fun p2 =>
   L36_1 k n n1 l sLen t29 (IntKind.i64.wrap (t30 + 1)) (xs.set (0 + t30.toNat) (PV.int .u64 n2))
  else none
 else r36 n1 l (xs.take sLen) := by kernel_rfl
/-! 37 : spec.InSpans -/
theorem n37 (k : Nat) (wide : Int) (spans state : List PV) : c37 (k + 1) wide spans state =
 R146 (c146 k wide spans) fun b1 =>
 bif !b1 then
  r37 false false
 else
  bif ((state.length : Int) != (spans.length : Int)) then
   r37 false false
  else
   R147 (c147 k wide state) fun b2 =>
   bif !b2 then
    r37 false false
   else L37_1 k k state spans (spans.length : Int) 0 := by kernel_rfl
theorem sL37_1 (k n : Nat) (state t27 : List PV) (t28 t29 : Int) : L37_1 k (n + 1) state t27 t28 t29 =
 bif decide (t29 < t28) then
  (lookP t27 t29).bind fun p1 =>
  bif p1.shp 2 then
   (p1.atInt .u64 0).bind fun n1 =>
   (p1.atInt .u64 1).bind fun n2 =>
   (lookP state t29).bind fun p2 =>
   (p2.atInt .u64 0).bind fun n3 =>
   bif decide (n3 < n1) then
    r37 false true
   else
    (lookP state t29).bind fun p3 =>
    (p3.atInt .u64 0).bind fun n4 =>
    bif decide (n4 > n2) then
     r37 false true
    else L37_1 k n state t27 t28 (IntKind.i64.wrap (t29 + 1))
  else none
 else r37 true true := by kernel_rfl
/-! 105 : spec.l1Cur).small -/
theorem n105 (k : Nat) (l : List PV) (n1 n11 : Int) : c105 (k + 1) l n1 n11 =
 R128 (c128 k [PV.int .i64 1, PV.int .i64 2, PV.int .i64 2, PV.int .i64 2, PV.int .i64 3, PV.int .i64 4] l n1 n11) fun l1 v1 v2 v3 =>
 bif decide (v3 < 3) then
  bif !(v3 == 0) then
   R143 (c143 k (IntKind.i64.wrap ((6 : Int).tdiv v3)) l1 v1 v2) fun l2 v4 v5 v6 =>
   L105_1 k k v3 (IntKind.i64.wrap (1 + v6)) l2 v4 v5 0 0 [] []
  else none
 else L105_1 k k v3 1 l1 v1 v2 0 0 [] [] := by kernel_rfl
theorem sL105_1 (k n : Nat) (wide vars : Int) (l : List PV) (n1 n11 n12 n13 : Int) (l1 l2 : List PV) : L105_1 k (n + 1) wide vars l n1 n11 n12 n13 l1 l2 =
 bif decide (IntKind.i64.wrap (wide * vars) > 5) then
  L105_1 k n wide (IntKind.i64.wrap (vars - 1)) l n1 n11 n12 n13 l1 l2
 else
  bif decide (vars > 4) then
   L105_1 k n wide (IntKind.i64.wrap (vars - 1)) l n1 n11 n12 n13 l1 l2
  else
   R227 (c227 k wide vars l n1 n11) fun l3 v1 v2 v3 v4 l4 l5 =>
   R143 (c143 k 40 l3 v1 v2) fun l6 v5 v6 v7 =>
   bif (v7 == 0) then
    R128 (c128 k [PV.int .i64 0, PV.int .i64 4, PV.int .i64 5] l6 v5 v6) fun l7 v8 v9 v10 =>
    r105 l7 v8 v9 v3 v10 l4 (l5.take l5.length)
   else
    bif (v7 == 1) then
     r105 l6 v5 v6 v3 v4 l4 []
    else
     bif (v7 == 2) then
      bif decide ((0 : Int) < (l5.length : Int)) then
       (l5[0]?).bind fun p1 =>
       (putPart p1 2 0 (PV.row 2 0 [PV.agg [.int .i64 1, .int .u64 0]]) 0).bind fun p2 =>
       r105 l6 v5 v6 v3 v4 l4 ((l5.set 0 p2).take l5.length)
      else none
     else
      bif (v7 == 3) then
       bif decide ((0 : Int) < (l5.length : Int)) then
        (l5[0]?).bind fun p3 =>
        (p3.atRow 2 1).bind fun l8 =>
        bif decide ((l8.length + 1) * 32 ≤ LIM) && decide (l8.length + 1 ≤ LIM) then
         bif decide ((0 : Int) < (l5.length : Int)) then
          (l5[0]?).bind fun p4 =>
          bif decide (l8.length + 1 ≤ (l8 ++ [PV.agg [.int .i64 0, .row 2 0 [PV.agg [.int .i64 1, .int .u64 0]]]]).length) then
           (putPart p4 2 1 (PV.row 2 0 ((l8 ++ [PV.agg [.int .i64 0, .row 2 0 [PV.agg [.int .i64 1, .int .u64 0]]]]).take (l8.length + 1))) 0).bind fun p5 =>
           r105 l6 v5 v6 v3 v4 l4 ((l5.set 0 p5).take l5.length)
          else none
         else none
        else none
       else none
      else r105 l6 v5 v6 v3 v4 l4 (l5.take l5.length) := by kernel_rfl
/-! 107 : spec.l1Cur).asked -/
theorem n107 (k : Nat) (wide vars deep : Int) (l : List PV) (n1 n11 : Int) : c107 (k + 1) wide vars deep l n1 n11 =
 R145 (c145 k 20 l n1 n11) fun l1 v1 v2 b1 =>
 bif b1 then
  R143 (c143 k 2 l1 v1 v2) fun l2 v3 v4 v5 =>
  r107 l2 v3 v4 [PV.agg [.int .i64 20, .int .u64 (IntKind.u64.wrap v5)]]
 else
  bif decide (deep > 0) then
   R145 (c145 k 4 l1 v1 v2) fun l3 v6 v7 b2 =>
   bif b2 then
    R107 (c107 k wide vars (IntKind.i64.wrap (deep - 1)) l3 v6 v7) fun l4 v8 v9 l5 =>
    bif decide ((l5.length + 1) * 16 ≤ LIM) && decide (l5.length + 1 ≤ LIM) then
     r107 l4 v8 v9 (((l5.take l5.length) ++ [PV.agg [.int .i64 19, .int .u64 0]]).take (l5.length + 1))
    else none
   else
    bif decide (deep > 0) then
     R145 (c145 k 2 l3 v6 v7) fun l6 v10 v11 b3 =>
     bif b3 then
      R107 (c107 k wide vars (IntKind.i64.wrap (deep - 1)) l6 v10 v11) fun l7 v12 v13 l8 =>
      R107 (c107 k wide vars (IntKind.i64.wrap (deep - 1)) l7 v12 v13) fun l9 v14 v15 l10 =>
      bif decide ((l8.length + ((l10.take l10.length).length)) * 16 ≤ LIM) && decide (l8.length + ((l10.take l10.length).length) ≤ LIM) then
       R128 (c128 k [PV.int .i64 17, PV.int .i64 18] l9 v14 v15) fun l11 v16 v17 v18 =>
       bif decide (((l8.length + ((l10.take l10.length).length)) + 1) * 16 ≤ LIM) && decide ((l8.length + ((l10.take l10.length).length)) + 1 ≤ LIM) then
        r107 l11 v16 v17 (((((l8.take l8.length) ++ (l10.take l10.length)).take (l8.length + ((l10.take l10.length).length))) ++ [PV.agg [.int .i64 v18, .int .u64 0]]).take ((l8.length + ((l10.take l10.length).length)) + 1))
       else none
      else none
     else
      R228 (c228 k wide vars 1 l6 v10 v11) fun l12 v19 v20 l13 =>
      R143 (c143 k 2 l12 v19 v20) fun l14 v21 v22 v23 =>
      R228 (c228 k wide vars v23 l14 v21 v22) fun l15 v24 v25 l16 =>
      bif decide ((l13.length + ((l16.take l16.length).length)) * 16 ≤ LIM) && decide (l13.length + ((l16.take l16.length).length) ≤ LIM) then
       R128 (c128 k [PV.int .i64 14, PV.int .i64 15, PV.int .i64 15, PV.int .i64 16] l15 v24 v25) fun l17 v26 v27 v28 =>
       bif decide (((l13.length + ((l16.take l16.length).length)) + 1) * 16 ≤ LIM) && decide ((l13.length + ((l16.take l16.length).length)) + 1 ≤ LIM) then
        r107 l17 v26 v27 (((((l13.take l13.length) ++ (l16.take l16.length)).take (l13.length + ((l16.take l16.length).length))) ++ [PV.agg [.int .i64 v28, .int .u64 0]]).take ((l13.length + ((l16.take l16.length).length)) + 1))
       else none
      else none
    else
     R228 (c228 k wide vars 1 l3 v6 v7) fun l18 v29 v30 l19 =>
     R143 (c143 k 2 l18 v29 v30) fun l20 v31 v32 v33 =>
     R228 (c228 k wide vars v33 l20 v31 v32) fun l21 v34 v35 l22 =>
     bif decide ((l19.length + ((l22.take l22.length).length)) * 16 ≤ LIM) && decide (l19.length + ((l22.take l22.length).length) ≤ LIM) then
      R128 (c128 k [PV.int .i64 14, PV.int .i64 15, PV.int .i64 15, PV.int .i64 16] l21 v34 v35) fun l23 v36 v37 v38 =>
      bif decide (((l19.length + ((l22.take l22.length).length)) + 1) * 16 ≤ LIM) && decide ((l19.length + ((l22.take l22.length).length)) + 1 ≤ LIM) then
       r107 l23 v36 v37 (((((l19.take l19.length) ++ (l22.take l22.length)).take (l19.length + ((l22.take l22.length).length))) ++ [PV.agg [.int .i64 v38, .int .u64 0]]).take ((l19.length + ((l22.take l22.length).length)) + 1))
      else none
     else none
  else
   bif decide (deep > 0) then
    R145 (c145 k 2 l1 v1 v2) fun l24 v39 v40 b4 =>
    bif b4 then
     R107 (c107 k wide vars (IntKind.i64.wrap (deep - 1)) l24 v39 v40) fun l25 v41 v42 l26 =>
     R107 (c107 k wide vars (IntKind.i64.wrap (deep - 1)) l25 v41 v42) fun l27 v43 v44 l28 =>
     bif decide ((l26.length + ((l28.take l28.length).length)) * 16 ≤ LIM) && decide (l26.length + ((l28.take l28.length).length) ≤ LIM) then
      R128 (c128 k [PV.int .i64 17, PV.int .i64 18] l27 v43 v44) fun l29 v45 v46 v47 =>
      bif decide (((l26.length + ((l28.take l28.length).length)) + 1) * 16 ≤ LIM) && decide ((l26.length + ((l28.take l28.length).length)) + 1 ≤ LIM) then
       r107 l29 v45 v46 (((((l26.take l26.length) ++ (l28.take l28.length)).take (l26.length + ((l28.take l28.length).length))) ++ [PV.agg [.int .i64 v47, .int .u64 0]]).take ((l26.length + ((l28.take l28.length).length)) + 1))
      else none
     else none
    else
     R228 (c228 k wide vars 1 l24 v39 v40) fun l30 v48 v49 l31 =>
     R143 (c143 k 2 l30 v48 v49) fun l32 v50 v51 v52 =>
     R228 (c228 k wide vars v52 l32 v50 v51) fun l33 v53 v54 l34 =>
     bif decide ((l31.length + ((l34.take l34.length).length)) * 16 ≤ LIM) && decide (l31.length + ((l34.take l34.length).length) ≤ LIM) then
      R128 (c128 k [PV.int .i64 14, PV.int .i64 15, PV.int .i64 15, PV.int .i64 16] l33 v53 v54) fun l35 v55 v56 v57 =>
      bif decide (((l31.length + ((l34.take l34.length).length)) + 1) * 16 ≤ LIM) && decide ((l31.length + ((l34.take l34.length).length)) + 1 ≤ LIM) then
       r107 l35 v55 v56 (((((l31.take l31.length) ++ (l34.take l34.length)).take (l31.length + ((l34.take l34.length).length))) ++ [PV.agg [.int .i64 v57, .int .u64 0]]).take ((l31.length + ((l34.take l34.length).length)) + 1))
      else none
     else none
   else
    R228 (c228 k wide vars 1 l1 v1 v2) fun l36 v58 v59 l37 =>
    R143 (c143 k 2 l36 v58 v59) fun l38 v60 v61 v62 =>
    R228 (c228 k wide vars v62 l38 v60 v61) fun l39 v63 v64 l40 =>
    bif decide ((l37.length + ((l40.take l40.length).length)) * 16 ≤ LIM) && decide (l37.length + ((l40.take l40.length).length) ≤ LIM) then
     R128 (c128 k [PV.int .i64 14, PV.int .i64 15, PV.int .i64 15, PV.int .i64 16] l39 v63 v64) fun l41 v65 v66 v67 =>
     bif decide (((l37.length + ((l40.take l40.length).length)) + 1) * 16 ≤ LIM) && decide ((l37.length + ((l40.take l40.length).length)) + 1 ≤ LIM) then
      r107 l41 v65 v66 (((((l37.take l37.length) ++ (l40.take l40.length)).take (l37.length + ((l40.take l40.length).length))) ++ [PV.agg [.int .i64 v67, .int .u64 0]]).take ((l37.length + ((l40.take l40.length).length)) + 1))
     else none
    else none := by kernel_rfl
/-! 110 : spec.l7Asks -/
theorem n110 (k : Nat) (p p1 : Int) (p2 p3 t : List PV) : c110 (k + 1) p p1 p2 p3 t =
 R229 (c229 k p p1 t) fun v1 =>
 r110 (v1 == 2) := by kernel_rfl
/-! 117 : spec.l1In -/
theorem n117 (k : Nat) (n1 lo hi : Int) : c117 (k + 1) n1 lo hi =
 bif decide (n1 ≥ lo) then
  r117 (decide (n1 ≤ hi))
 else r117 false := by kernel_rfl
end Go.Proofs.YtclkgblckicabaaGreat
/- Normal forms: printed by nf.py. -/
set_option linter.unusedVariables false
set_option maxRecDepth 100000
namespace Go.Proofs.YtclkgblckicabaaGreat
open Go.Dp
/-! 122 : impl.valueOf -/
theorem n122 (k : Nat) (wide : Int) (t state : List PV) : c122 (k + 1) wide t state =
 L122_1 k k wide state 0 t (t.length : Int) 0 [] := by kernel_rfl
theorem sL122_1 (k n : Nat) (wide : Int) (state : List PV) (stackLen : Nat) (t12 : List PV) (t13 t14 : Int) (xs : List PV) : L122_1 k (n + 1) wide state stackLen t12 t13 t14 xs =
 bif decide (t14 < t13) then
  (lookP t12 t14).bind fun p1 =>
  bif p1.shp 2 then
   (p1.atInt .i64 0).bind fun n1 =>
   (p1.atInt .u64 1).bind fun n2 =>
   bif (n1 == 1) then
    bif decide ((stackLen + 1) * 8 ≤ LIM) && decide (stackLen + 1 ≤ LIM) then
     L122_1 k n wide state (stackLen + 1) t12 t13 (IntKind.i64.wrap (t14 + 1)) ((xs.take stackLen) ++ [PV.int .u64 n2])
    else none
   else
    bif (n1 == 20) then
     bif decide ((stackLen + 1) * 8 ≤ LIM) && decide (stackLen + 1 ≤ LIM) then
      L122_1 k n wide state (stackLen + 1) t12 t13 (IntKind.i64.wrap (t14 + 1)) ((xs.take stackLen) ++ [PV.int .u64 n2])
     else none
    else
     bif (n1 == 2) then
      (lookP state n2).bind fun p2 =>
      (p2.atInt .u64 0).bind fun n3 =>
      bif decide ((stackLen + 1) * 8 ≤ LIM) && decide (stackLen + 1 ≤ LIM) then
       L122_1 k n wide state (stackLen + 1) t12 t13 (IntKind.i64.wrap (t14 + 1)) ((xs.take stackLen) ++ [PV.int .u64 n3])
      else none
     else
      bif (n1 == 13) then
       bif decide ((0 : Int) ≤ IntKind.i64.wrap ((stackLen : Int) - 1)) && decide (IntKind.i64.wrap ((stackLen : Int) - 1) < (stackLen : Int)) then
        (xs[0 + ((IntKind.i64.wrap ((stackLen : Int) - 1)).toNat)]?).bind fun p3 =>
        (p3.atInt .u64 0).bind fun n4 =>
        R234 (c234 k wide) fun v1 =>
        bif decide ((0 : Int) ≤ IntKind.i64.wrap ((stackLen : Int) - 1)) && decide (IntKind.i64.wrap ((stackLen : Int) - 1) < (stackLen : Int)) then
         (xs[0 + ((IntKind.i64.wrap ((stackLen : Int) - 1)).toNat)]?).bind fun p4 =>
         L122_1 k n wide state stackLen t12 t13 (IntKind.i64.wrap (t14 + 1)) (xs.set (0 + ((IntKind.i64.wrap ((stackLen : Int) - 1)).toNat)) (PV.int .u64 (bitsOp .and .u64 (bitsOp .xor .u64 18446744073709551615 n4) v1)))
        else none
       else none
      else
       bif (n1 == 19) then
        bif decide ((0 : Int) ≤ IntKind.i64.wrap ((stackLen : Int) - 1)) && decide (IntKind.i64.wrap ((stackLen : Int) - 1) < (stackLen : Int)) then
         (xs[0 + ((IntKind.i64.wrap ((stackLen : Int) - 1)).toNat)]?).bind fun p5 =>
         (p5.atInt .u64 0).bind fun n5 =>
         bif decide ((0 : Int) ≤ IntKind.i64.wrap ((stackLen : Int) - 1)) && decide (IntKind.i64.wrap ((stackLen : Int) - 1) < (stackLen : Int)) then
          (xs[0 + ((IntKind.i64.wrap ((stackLen : Int) - 1)).toNat)]?).bind fun p6 =>
          L122_1 k n wide state stackLen t12 t13 (IntKind.i64.wrap (t14 + 1)) (xs.set (0 + ((IntKind.i64.wrap ((stackLen : Int) - 1)).toNat)) (PV.int .u64 (IntKind.u64.wrap (1 - n5))))
         else none
        else none
       else
        bif decide ((0 : Int) ≤ IntKind.i64.wrap ((IntKind.i64.wrap ((stackLen : Int) - 1)) - 1)) && decide (IntKind.i64.wrap ((IntKind.i64.wrap ((stackLen : Int) - 1)) - 1) ≤ (stackLen : Int)) then
         bif decide ((0 : Int) ≤ IntKind.i64.wrap ((IntKind.i64.wrap ((stackLen : Int) - 1)) - 1)) && decide (IntKind.i64.wrap ((IntKind.i64.wrap ((stackLen : Int) - 1)) - 1) < (stackLen : Int)) then
          (xs[0 + ((IntKind.i64.wrap ((IntKind.i64.wrap ((stackLen : Int) - 1)) - 1)).toNat)]?).bind fun p7 =>
          (p7.atInt .u64 0).bind fun n6 =>
          bif decide ((0 : Int) ≤ IntKind.i64.wrap ((stackLen : Int) - 1)) && decide (IntKind.i64.wrap ((stackLen : Int) - 1) < (stackLen : Int)) then
           (xs[0 + ((IntKind.i64.wrap ((stackLen : Int) - 1)).toNat)]?).bind fun p8 =>
           (p8.atInt .u64 0).bind fun n7 =>
           R235 (c235 k wide n1 n6 n7) fun v2 =>
           bif decide ((((IntKind.i64.wrap ((IntKind.i64.wrap ((stackLen : Int) - 1)) - 1)).toNat) + 1) * 8 ≤ LIM) && decide (((IntKind.i64.wrap ((IntKind.i64.wrap ((stackLen : Int) - 1)) - 1)).toNat) + 1 ≤ LIM) then
            L122_1 k n wide state (((IntKind.i64.wrap ((IntKind.i64.wrap ((stackLen : Int) - 1)) - 1)).toNat) + 1) t12 t13 (IntKind.i64.wrap (t14 + 1)) ((xs.take ((IntKind.i64.wrap ((IntKind.i64.wrap ((stackLen : Int) - 1)) - 1)).toNat)) ++ [PV.int .u64 v2])
           else none
          else none
         else none
        else none
  else none
 else
  bif decide ((0 : Int) < (stackLen : Int)) then
   (xs[0]?).bind fun p9 =>
   (p9.atInt .u64 0).bind fun n8 =>
   r122 n8
  else none := by kernel_rfl
/-! 126 : spec.l1Cur).prog -/
theorem n126 (k : Nat) (l : List PV) (n1 n11 : Int) : c126 (k + 1) l n1 n11 =
 R145 (c145 k 2 l n1 n11) fun l1 v1 v2 b1 =>
 bif b1 then
  R105 (c105 k l1 v1 v2) fun l2 v3 v4 v5 v6 l3 l4 =>
  r126 l2 v3 v4 v5 v6 l3 l4
 else
  R128 (c128 k [PV.int .i64 8, PV.int .i64 32, PV.int .i64 64] l1 v1 v2) fun l5 v7 v8 v9 =>
  R143 (c143 k 3 l5 v7 v8) fun l6 v10 v11 v12 =>
  R227 (c227 k v9 (IntKind.i64.wrap (1 + v12)) l6 v10 v11) fun l7 v13 v14 v15 v16 l8 l9 =>
  r126 l7 v13 v14 v15 v16 l8 (l9.take l9.length) := by kernel_rfl
/-! 127 : spec.l1Cur).spans -/
theorem n127 (k : Nat) (wide vars : Int) (l : List PV) (n1 n11 : Int) : c127 (k + 1) wide vars l n1 n11 =
 L127_1 k k wide vars 0 0 l n1 n11 [] := by kernel_rfl
theorem sL127_1 (k n : Nat) (wide vars : Int) (lLen : Nat) (k1 : Int) (l : List PV) (n1 n11 : Int) (xs : List PV) : L127_1 k (n + 1) wide vars lLen k1 l n1 n11 xs =
 bif decide (k1 < vars) then
  R236 (c236 k wide l n1 n11) fun l1 v1 v2 v3 v4 =>
  bif decide ((lLen + 1) * 16 ≤ LIM) && decide (lLen + 1 ≤ LIM) then
   L127_1 k n wide vars (lLen + 1) (IntKind.i64.wrap (k1 + 1)) l1 v1 v2 ((xs.take lLen) ++ [PV.agg [.int .u64 v3, .int .u64 v4]])
  else none
 else r127 l n1 n11 (xs.take lLen) := by kernel_rfl
/-! 128 : spec.l1Cur).among -/
theorem n128 (k : Nat) (list l : List PV) (n1 n11 : Int) : c128 (k + 1) list l n1 n11 =
 R143 (c143 k (list.length : Int) l n1 n11) fun l1 v1 v2 v3 =>
 (lookP list v3).bind fun p1 =>
 (p1.atInt .i64 0).bind fun n2 =>
 r128 l1 v1 v2 n2 := by kernel_rfl
/-! 129 : impl.areSpansOf -/
theorem n129 (k : Nat) (p p1 : Int) (p2 p3 spans : List PV) : c129 (k + 1) p p1 p2 p3 spans =
 R230 (c230 k p p1 p2 p3) fun b1 =>
 bif b1 then
  bif ((spans.length : Int) == p1) then
   R139 (c139 k p spans) fun b2 =>
   r129 b2
  else r129 false
 else r129 false := by kernel_rfl
/-! 130 : impl.Span] -/
theorem n130 (k : Nat) (qs : List PV) (h1 : qs.length * 16 ≤ LIM) (h2 : qs.length ≤ LIM) : c130 (k + 1) qs = r130 qs := evF_T (by simp [T, cloneT, clones, lk, h1, h2] <;> rfl)
/-! 131 : impl.spanRound -/
theorem n131 (k : Nat) (p p1 : Int) (p2 p3 spans : List PV) : c131 (k + 1) p p1 p2 p3 spans =
 R130 (c130 k spans) fun l1 =>
 L131_1 k k spans l1.length p3 (p3.length : Int) 0 p p1 p2 p3 l1 := by kernel_rfl
theorem sL131_1 (k n : Nat) (spans : List PV) (outLen : Nat) (t13 : List PV) (t14 t15 n1 n11 : Int) (l l1 xs : List PV) : L131_1 k (n + 1) spans outLen t13 t14 t15 n1 n11 l l1 xs =
 bif decide (t15 < t14) then
  (lookP t13 t15).bind fun p1 =>
  bif p1.shp 2 then
   (p1.atRow 2 0).bind fun l2 =>
   (p1.atRow 2 1).bind fun l3 =>
   R237 (c237 k n1 l2 spans) fun v1 v2 =>
   bif ((v1 == 0) && ((v2 == 0) && true)) then
    L131_1 k n spans outLen t13 t14 (IntKind.i64.wrap (t15 + 1)) n1 n11 l l1 xs
   else L131_2 k n k spans outLen t13 t14 t15 l3 (l3.length : Int) 0 n1 n11 l l1 xs
  else none
 else r131 (xs.take outLen) := by kernel_rfl
theorem sL131_2 (k n1 n : Nat) (spans : List PV) (outLen : Nat) (t13 : List PV) (t14 t15 : Int) (t28 : List PV) (t29 t30 n11 n12 : Int) (l l1 xs : List PV) : L131_2 k n1 (n + 1) spans outLen t13 t14 t15 t28 t29 t30 n11 n12 l l1 xs =
 bif decide (t30 < t29) then
  (lookP t28 t30).bind fun p1 =>
  bif p1.shp 2 then
   (p1.atInt .i64 0).bind fun n2 =>
   (p1.atRow 2 1).bind fun l2 =>
   bif decide ((0 : Int) ≤ n2) && decide (n2 < (outLen : Int)) then
    (xs[0 + n2.toNat]?).bind fun p2 =>
    bif p2.shp 2 then
     (p2.atInt .u64 0).bind fun n3 =>
     (p2.atInt .u64 1).bind fun n4 =>
     R237 (c237 k n11 l2 spans) fun v1 v2 =>
     R238 (c238 k n3 n4 v1 v2) fun v3 v4 =>
     bif decide ((0 : Int) ≤ n2) && decide (n2 < (outLen : Int)) then
      (xs[0 + n2.toNat]?).bind fun p3 =>
      L131_2 k n1 n spans outLen t13 t14 t15 t28 t29 (IntKind.i64.wrap (t30 + 1)) n11 n12 l l1 (xs.set (0 + n2.toNat) (PV.agg [.int .u64 v3, .int .u64 v4]))
     else none
    else none
   else none
  else none
 else L131_1 k n1 spans outLen t13 t14 (IntKind.i64.wrap (t15 + 1)) n11 n12 l l1 xs := by kernel_rfl
/-! 132 : impl.Span] -/
theorem n132 (k : Nat) (qs1 qs2 : List PV) : c132 (k + 1) qs1 qs2 =
 bif ((qs1.length : Int) != (qs2.length : Int)) then
  r132 false
 else L132_1 k k qs1 qs2 (qs1.length : Int) 0 := by kernel_rfl
theorem sL132_1 (k n : Nat) (qs1 qs2 : List PV) (t12 t13 : Int) : L132_1 k (n + 1) qs1 qs2 t12 t13 =
 bif decide (t13 < t12) then
  (lookP qs1 t13).bind fun p1 =>
  bif p1.shp 2 then
   (p1.atInt .u64 0).bind fun n1 =>
   (p1.atInt .u64 1).bind fun n2 =>
   (lookP qs2 t13).bind fun p2 =>
   bif p2.shp 2 then
    (p2.atInt .u64 0).bind fun n3 =>
    (p2.atInt .u64 1).bind fun n4 =>
    bif (!((n1 == n3) && ((n2 == n4) && true))) then
     r132 false
    else L132_1 k n qs1 qs2 t12 (IntKind.i64.wrap (t13 + 1))
   else none
  else none
 else r132 true := by kernel_rfl
/-! 133 : spec.l18For -/
theorem n133 (k : Nat) (p p1 : Int) (p2 p3 spans : List PV) : c133 (k + 1) p p1 p2 p3 spans =
 R231 (c231 k p p1 p2 p3) fun b1 =>
 bif b1 then
  bif ((spans.length : Int) == p1) then
   R146 (c146 k p spans) fun b2 =>
   r133 b2
  else r133 false
 else r133 false := by kernel_rfl
/-! 134 : spec.l18Round -/
theorem n134 (k : Nat) (p p1 : Int) (p2 p3 spans : List PV) : c134 (k + 1) p p1 p2 p3 spans =
 bif decide ((0 + spans.length) * 16 ≤ LIM) && decide (0 + spans.length ≤ LIM) then
  L134_1 k k spans (0 + spans.length) p3 (p3.length : Int) 0 p p1 p2 p3 ([] ++ spans)
 else none := by kernel_rfl
theorem sL134_1 (k n : Nat) (spans : List PV) (outLen : Nat) (t15 : List PV) (t16 t17 n1 n11 : Int) (l l1 xs : List PV) : L134_1 k (n + 1) spans outLen t15 t16 t17 n1 n11 l l1 xs =
 bif decide (t17 < t16) then
  (lookP t15 t17).bind fun p1 =>
  bif p1.shp 2 then
   (p1.atRow 2 0).bind fun l2 =>
   (p1.atRow 2 1).bind fun l3 =>
   R239 (c239 k n1 l2 (IntKind.i64.wrap ((l2.length : Int) - 1)) spans) fun v1 v2 =>
   bif (v2 == 0) then
    L134_1 k n spans outLen t15 t16 (IntKind.i64.wrap (t17 + 1)) n1 n11 l l1 xs
   else L134_2 k n k spans outLen t15 t16 t17 l3 (l3.length : Int) 0 n1 n11 l l1 xs
  else none
 else r134 (xs.take outLen) := by kernel_rfl
theorem sL134_2 (k n1 n : Nat) (spans : List PV) (outLen : Nat) (t15 : List PV) (t16 t17 : Int) (t35 : List PV) (t36 t37 n11 n12 : Int) (l l1 xs : List PV) : L134_2 k n1 (n + 1) spans outLen t15 t16 t17 t35 t36 t37 n11 n12 l l1 xs =
 bif decide (t37 < t36) then
  (lookP t35 t37).bind fun p1 =>
  bif p1.shp 2 then
   (p1.atInt .i64 0).bind fun n2 =>
   (p1.atRow 2 1).bind fun l2 =>
   bif decide ((0 : Int) ≤ n2) && decide (n2 < (outLen : Int)) then
    (xs[0 + n2.toNat]?).bind fun p2 =>
    bif p2.shp 2 then
     (p2.atInt .u64 0).bind fun n3 =>
     (p2.atInt .u64 1).bind fun n4 =>
     R239 (c239 k n11 l2 (IntKind.i64.wrap ((l2.length : Int) - 1)) spans) fun v1 v2 =>
     R240 (c240 k n3 n4 v1 v2) fun v3 v4 =>
     bif decide ((0 : Int) ≤ n2) && decide (n2 < (outLen : Int)) then
      (xs[0 + n2.toNat]?).bind fun p3 =>
      L134_2 k n1 n spans outLen t15 t16 t17 t35 t36 (IntKind.i64.wrap (t37 + 1)) n11 n12 l l1 (xs.set (0 + n2.toNat) (PV.agg [.int .u64 v3, .int .u64 v4]))
     else none
    else none
   else none
  else none
 else L134_1 k n1 spans outLen t15 t16 (IntKind.i64.wrap (t17 + 1)) n11 n12 l l1 xs := by kernel_rfl
/-! 135 : impl.isStateOf -/
theorem n135 (k : Nat) (p p1 : Int) (p2 p3 qs : List PV) : c135 (k + 1) p p1 p2 p3 qs =
 R230 (c230 k p p1 p2 p3) fun b1 =>
 bif b1 then
  R140 (c140 k p p1 qs) fun b2 =>
  r135 b2
 else r135 false := by kernel_rfl
/-! 136 : impl.Program).isCommandNo -/
theorem n136 (k : Nat) (p p1 : Int) (p2 p3 : List PV) (k1 : Int) : c136 (k + 1) p p1 p2 p3 k1 =
 bif decide (k1 ≥ 0) then
  r136 (decide (k1 < (p3.length : Int)))
 else r136 false := by kernel_rfl
/-! 137 : impl.Program).holds -/
theorem n137 (k : Nat) (p p1 : Int) (p2 p3 t qs : List PV) : c137 (k + 1) p p1 p2 p3 t qs =
 R122 (c122 k p t qs) fun v1 =>
 r137 (v1 == 1) := by kernel_rfl
/-! 138 : impl.Program).after -/
theorem n138 (k : Nat) (p p1 : Int) (p2 p3 qc qc1 qs : List PV) : c138 (k + 1) p p1 p2 p3 qc qc1 qs =
 R241 (c241 k qs) fun l1 =>
 L138_1 k k qs l1.length qc1 (qc1.length : Int) 0 p p1 p2 p3 l1 := by kernel_rfl
theorem sL138_1 (k n : Nat) (qs : List PV) (outLen : Nat) (t13 : List PV) (t14 t15 n1 n11 : Int) (l l1 xs : List PV) : L138_1 k (n + 1) qs outLen t13 t14 t15 n1 n11 l l1 xs =
 bif decide (t15 < t14) then
  (lookP t13 t15).bind fun p1 =>
  bif p1.shp 2 then
   (p1.atInt .i64 0).bind fun n2 =>
   (p1.atRow 2 1).bind fun l2 =>
   R122 (c122 k n1 l2 qs) fun v1 =>
   bif decide ((0 : Int) ≤ n2) && decide (n2 < (outLen : Int)) then
    (xs[0 + n2.toNat]?).bind fun p2 =>
    L138_1 k n qs outLen t13 t14 (IntKind.i64.wrap (t15 + 1)) n1 n11 l l1 (xs.set (0 + n2.toNat) (PV.int .u64 v1))
   else none
  else none
 else r138 (xs.take outLen) := by kernel_rfl
/-! 139 : impl.areSpans -/
theorem n139 (k : Nat) (wide : Int) (spans : List PV) : c139 (k + 1) wide spans =
 R242 (c242 k (spans.length : Int)) fun b1 =>
 bif b1 then
  R243f244p (c243f244 k spans wide) fun b2 =>
  r139 (!b2)
 else r139 false := by kernel_rfl
/-! 140 : impl.isState -/
theorem n140 (k : Nat) (wide vars : Int) (state : List PV) : c140 (k + 1) wide vars state =
 R246 (c246 k wide) fun b1 =>
 bif b1 then
  R242 (c242 k vars) fun b2 =>
  bif b2 then
   bif ((state.length : Int) == vars) then
    R247f248 (c247f248 k state wide) fun v1 b3 =>
    r140 (!b3)
   else r140 false
  else r140 false
 else r140 false := by kernel_rfl
/-! 141 : impl.Span).has -/
theorem n141 (k : Nat) (qs qs1 a : Int) : c141 (k + 1) qs qs1 a =
 bif decide (qs ≤ a) then
  r141 (decide (a ≤ qs1))
 else r141 false := by kernel_rfl
/-! 142 : spec.l1Cur).width -/
theorem n142 (k : Nat) (l : List PV) (n1 n11 : Int) : c142 (k + 1) l n1 n11 =
 R128 (c128 k [PV.int .i64 1, PV.int .i64 2, PV.int .i64 3, PV.int .i64 4, PV.int .i64 8, PV.int .i64 16, PV.int .i64 32, PV.int .i64 63, PV.int .i64 64, PV.int .i64 0, PV.int .i64 65] l n1 n11) fun l1 v1 v2 v3 =>
 r142 l1 v1 v2 v3 := by kernel_rfl
/-! 143 : spec.l1Cur).pick -/
theorem n143 (k : Nat) (n1 : Int) (l : List PV) (n11 n12 : Int) : c143 (k + 1) n1 l n11 n12 =
 bif decide (n1 ≤ 1) then
  r143 l n11 n12 0
 else
  R250 (c250 k l n11 n12) fun l1 v1 v2 v3 =>
  bif decide (n1 > 200) then
   R250 (c250 k l1 v1 v2) fun l2 v4 v5 v6 =>
   bif !(n1 == 0) then
    r143 l2 v4 v5 ((IntKind.i64.wrap ((IntKind.i64.wrap (v3 * 256)) + v6)).tmod n1)
   else none
  else
   bif !(n1 == 0) then
    r143 l1 v1 v2 (v3.tmod n1)
   else none := by kernel_rfl
/-! 144 : spec.l1Cur).state -/
theorem n144 (k : Nat) (wide vars : Int) (l : List PV) (n1 n11 : Int) : c144 (k + 1) wide vars l n1 n11 =
 L144_1 k k wide vars 0 0 l n1 n11 [] := by kernel_rfl
theorem sL144_1 (k n : Nat) (wide vars : Int) (lLen : Nat) (k1 : Int) (l : List PV) (n1 n11 : Int) (xs : List PV) : L144_1 k (n + 1) wide vars lLen k1 l n1 n11 xs =
 bif decide (k1 < vars) then
  R251 (c251 k wide l n1 n11) fun l1 v1 v2 v3 =>
  bif decide ((lLen + 1) * 8 ≤ LIM) && decide (lLen + 1 ≤ LIM) then
   L144_1 k n wide vars (lLen + 1) (IntKind.i64.wrap (k1 + 1)) l1 v1 v2 ((xs.take lLen) ++ [PV.int .u64 v3])
  else none
 else r144 l n1 n11 (xs.take lLen) := by kernel_rfl
/-! 145 : spec.l1Cur).one -/
theorem n145 (k : Nat) (n1 : Int) (l : List PV) (n11 n12 : Int) : c145 (k + 1) n1 l n11 n12 =
 R143 (c143 k n1 l n11 n12) fun l1 v1 v2 v3 =>
 r145 l1 v1 v2 (v3 == 0) := by kernel_rfl
/-! 146 : spec.l18Spans -/
theorem n146 (k : Nat) (wide : Int) (spans : List PV) : c146 (k + 1) wide spans =
 R117 (c117 k (spans.length : Int) 1 4) fun b1 =>
 bif !b1 then
  r146 false
 else L146_1 k k wide spans (spans.length : Int) 0 := by kernel_rfl
theorem sL146_1 (k n : Nat) (wide : Int) (t11 : List PV) (t12 t13 : Int) : L146_1 k (n + 1) wide t11 t12 t13 =
 bif decide (t13 < t12) then
  (lookP t11 t13).bind fun p1 =>
  bif p1.shp 2 then
   (p1.atInt .u64 0).bind fun n1 =>
   (p1.atInt .u64 1).bind fun n2 =>
   R252 (c252 k wide n1 n2) fun b1 =>
   bif !b1 then
    r146 false
   else L146_1 k n wide t11 t12 (IntKind.i64.wrap (t13 + 1))
  else none
 else r146 true := by kernel_rfl
/-! 147 : spec.l2Words -/
theorem n147 (k : Nat) (wide : Int) (state : List PV) : c147 (k + 1) wide state =
 L147_1 k k wide state (state.length : Int) 0 := by kernel_rfl
theorem sL147_1 (k n : Nat) (wide : Int) (t7 : List PV) (t8 t9 : Int) : L147_1 k (n + 1) wide t7 t8 t9 =
 bif decide (t9 < t8) then
  (lookP t7 t9).bind fun p1 =>
  (p1.atInt .u64 0).bind fun n1 =>
  R253 (c253 k wide n1) fun b1 =>
  bif !b1 then
   r147 false
  else L147_1 k n wide t7 t8 (IntKind.i64.wrap (t9 + 1))
 else r147 true := by kernel_rfl
/-! 153 : impl.Program).isCondition -/
theorem n153 (k : Nat) (p p1 : Int) (p2 p3 t : List PV) : c153 (k + 1) p p1 p2 p3 t =
 R255 (c255 k p p1 t 2) fun b1 =>
 r153 b1 := by kernel_rfl
/-! 161 : impl.GoodTerm -/
theorem n161 (k : Nat) (wide vars : Int) (t : List PV) : c161 (k + 1) wide vars t =
 R246 (c246 k wide) fun b1 =>
 bif !b1 then
  r161 false
 else
  R242 (c242 k vars) fun b2 =>
  bif !b2 then
   r161 false
  else
   bif decide ((t.length : Int) < 1) then
    r161 false
   else
    bif decide ((t.length : Int) > 48) then
     r161 false
    else L161_1 k k wide vars 0 t (t.length : Int) 0 [] := by kernel_rfl
theorem sL161_1 (k n : Nat) (wide vars : Int) (stackLen : Nat) (t33 : List PV) (t34 t35 : Int) (xs : List PV) : L161_1 k (n + 1) wide vars stackLen t33 t34 t35 xs =
 bif decide (t35 < t34) then
  (lookP t33 t35).bind fun p1 =>
  bif p1.shp 2 then
   (p1.atInt .i64 0).bind fun n1 =>
   (p1.atInt .u64 1).bind fun n2 =>
   R263 (c263 k n1) fun v1 v2 v3 =>
   bif (v3 == 0) then
    r161 false
   else
    R264 (c264 k wide vars n1 n2) fun b1 =>
    bif !b1 then
     r161 false
    else
     bif decide (IntKind.i64.wrap ((stackLen : Int) - v1) < 0) then
      r161 false
     else
      bif decide ((0 : Int) ≤ IntKind.i64.wrap ((stackLen : Int) - v1)) && decide (IntKind.i64.wrap ((stackLen : Int) - v1) ≤ (stackLen : Int)) && decide ((stackLen : Int) ≤ (stackLen : Int)) then
       R187f265p (c187f265 k ((xs.drop (0 + ((IntKind.i64.wrap ((stackLen : Int) - v1)).toNat))).take (stackLen - ((IntKind.i64.wrap ((stackLen : Int) - v1)).toNat))) v2) fun v4 b2 =>
       bif b2 then
        r161 false
       else
        bif decide ((0 : Int) ≤ IntKind.i64.wrap ((stackLen : Int) - v1)) && decide (IntKind.i64.wrap ((stackLen : Int) - v1) ≤ (stackLen : Int)) then
         bif decide ((((IntKind.i64.wrap ((stackLen : Int) - v1)).toNat) + 1) * 8 ≤ LIM) && decide (((IntKind.i64.wrap ((stackLen : Int) - v1)).toNat) + 1 ≤ LIM) then
          L161_1 k n wide vars (((IntKind.i64.wrap ((stackLen : Int) - v1)).toNat) + 1) t33 t34 (IntKind.i64.wrap (t35 + 1)) ((xs.take ((IntKind.i64.wrap ((stackLen : Int) - v1)).toNat)) ++ [PV.int .i64 v3])
         else none
        else none
      else none
  else none
 else r161 ((stackLen : Int) == 1) := by kernel_rfl
/-! 162 : impl.kindOf -/
theorem n162 (k : Nat) (t : List PV) : c162 (k + 1) t =
 (lookP t (IntKind.i64.wrap ((t.length : Int) - 1))).bind fun p1 =>
 (p1.atInt .i64 0).bind fun n1 =>
 R263 (c263 k n1) fun v1 v2 v3 =>
 r162 v3 := by kernel_rfl
/-! 187 : slices.ContainsFunc[[]int,int] -/
theorem n187f265 (k : Nat) (qs : List PV) (n1 : Int) : c187f265 (k + 1) qs n1 =
 R273f265 (c273f265 k qs n1) fun v1 v2 =>
 r187f265 v1 (decide (v2 ≥ 0)) := by kernel_rfl
/-! 212 : impl.Command] -/
theorem n212f300 (k : Nat) (qs : List PV) (n1 n11 : Int) (l l1 : List PV) : c212f300 (k + 1) qs n1 n11 l l1 =
 R283f300 (c283f300 k qs n1 n11 l l1) fun v1 v2 l2 l3 v3 =>
 r212f300 v1 v2 l2 l3 (decide (v3 ≥ 0)) := by kernel_rfl
/-! 227 : spec.l1Cur).progOf -/
theorem n227 (k : Nat) (wide vars : Int) (l : List PV) (n1 n11 : Int) : c227 (k + 1) wide vars l n1 n11 =
 R143 (c143 k 2 l n1 n11) fun l1 v1 v2 v3 =>
 R145 (c145 k 3 l1 v1 v2) fun l2 v4 v5 b1 =>
 bif b1 then
  R107 (c107 k wide vars 1 l2 v4 v5) fun l3 v6 v7 l4 =>
  R143 (c143 k 3 l3 v6 v7) fun l5 v8 v9 v10 =>
  L227_1 k k wide vars (IntKind.i64.wrap (1 + v10)) l5 v8 v9 0 0 [] [] wide vars l4.length 0 l4 []
 else
  R143 (c143 k 3 l2 v4 v5) fun l6 v11 v12 v13 =>
  L227_1 k k wide vars (IntKind.i64.wrap (1 + v13)) l6 v11 v12 0 0 [] [] wide vars 3 0 [PV.agg [.int .i64 2, .int .u64 0], PV.agg [.int .i64 1, .int .u64 (IntKind.u64.wrap v3)], PV.agg [.int .i64 14, .int .u64 0]] [] := by kernel_rfl
theorem sL227_1 (k n : Nat) (wide vars n1 : Int) (l : List PV) (n11 n12 n13 n14 : Int) (l1 l2 : List PV) (n15 n16 : Int) (Len Len1 : Nat) (xs xs1 : List PV) : L227_1 k (n + 1) wide vars n1 l n11 n12 n13 n14 l1 l2 n15 n16 Len Len1 xs xs1 =
 bif decide (n1 > 0) then
  R296 (c296 k wide vars l n11 n12) fun l3 v1 v2 l4 l5 =>
  bif decide (l5.length ≤ l5.length) then
   bif (Len1 == xs1.length) && decide ((Len1 + 1) * 48 ≤ LIM) && decide (Len1 + 1 ≤ LIM) then
    L227_1 k n wide vars (IntKind.i64.wrap (n1 - 1)) l3 v1 v2 n13 n14 l1 l2 n15 n16 Len (Len1 + 1) xs (xs1 ++ [PV.agg [.row 2 0 l4, .row 2 0 (l5.take l5.length)]])
   else none
  else none
 else
  bif (Len1 == xs1.length) then
   r227 l n11 n12 n15 n16 (xs.take Len) (xs1.take Len1)
  else none := by kernel_rfl
/-! 228 : spec.l1Cur).number -/
theorem n228 (k : Nat) (wide vars deep : Int) (l : List PV) (n1 n11 : Int) : c228 (k + 1) wide vars deep l n1 n11 =
 bif (deep == 0) then
  R145 (c145 k 2 l n1 n11) fun l1 v1 v2 b1 =>
  bif b1 then
   R143 (c143 k 9 l1 v1 v2) fun l2 v3 v4 v5 =>
   R297 (c297 k wide (IntKind.u64.wrap v5)) fun v6 =>
   r228 l2 v3 v4 [PV.agg [.int .i64 1, .int .u64 v6]]
  else
   R143 (c143 k vars l1 v1 v2) fun l3 v7 v8 v9 =>
   r228 l3 v7 v8 [PV.agg [.int .i64 2, .int .u64 (IntKind.u64.wrap v9)]]
 else
  R145 (c145 k 4 l n1 n11) fun l4 v10 v11 b2 =>
  bif b2 then
   R145 (c145 k 2 l4 v10 v11) fun l5 v12 v13 b3 =>
   bif b3 then
    R143 (c143 k 9 l5 v12 v13) fun l6 v14 v15 v16 =>
    R297 (c297 k wide (IntKind.u64.wrap v16)) fun v17 =>
    r228 l6 v14 v15 [PV.agg [.int .i64 1, .int .u64 v17]]
   else
    R143 (c143 k vars l5 v12 v13) fun l7 v18 v19 v20 =>
    r228 l7 v18 v19 [PV.agg [.int .i64 2, .int .u64 (IntKind.u64.wrap v20)]]
  else
   R145 (c145 k 7 l4 v10 v11) fun l8 v21 v22 b4 =>
   bif b4 then
    R228 (c228 k wide vars (IntKind.i64.wrap (deep - 1)) l8 v21 v22) fun l9 v23 v24 l10 =>
    bif decide ((l10.length + 1) * 16 ≤ LIM) && decide (l10.length + 1 ≤ LIM) then
     r228 l9 v23 v24 (((l10.take l10.length) ++ [PV.agg [.int .i64 13, .int .u64 0]]).take (l10.length + 1))
    else none
   else
    R228 (c228 k wide vars (IntKind.i64.wrap (deep - 1)) l8 v21 v22) fun l11 v25 v26 l12 =>
    R228 (c228 k wide vars (IntKind.i64.wrap (deep - 1)) l11 v25 v26) fun l13 v27 v28 l14 =>
    bif decide ((l12.length + ((l14.take l14.length).length)) * 16 ≤ LIM) && decide (l12.length + ((l14.take l14.length).length) ≤ LIM) then
     R128 (c128 k [PV.int .i64 3, PV.int .i64 3, PV.int .i64 3, PV.int .i64 4, PV.int .i64 4, PV.int .i64 5, PV.int .i64 8, PV.int .i64 9, PV.int .i64 10] l13 v27 v28) fun l15 v29 v30 v31 =>
     R145 (c145 k 6 l15 v29 v30) fun l16 v32 v33 b5 =>
     bif b5 then
      R128 (c128 k [PV.int .i64 6, PV.int .i64 7, PV.int .i64 11, PV.int .i64 12] l16 v32 v33) fun l17 v34 v35 v36 =>
      bif decide (((l12.length + ((l14.take l14.length).length)) + 1) * 16 ≤ LIM) && decide ((l12.length + ((l14.take l14.length).length)) + 1 ≤ LIM) then
       r228 l17 v34 v35 (((((l12.take l12.length) ++ (l14.take l14.length)).take (l12.length + ((l14.take l14.length).length))) ++ [PV.agg [.int .i64 v36, .int .u64 0]]).take ((l12.length + ((l14.take l14.length).length)) + 1))
      else none
     else
      bif decide (((l12.length + ((l14.take l14.length).length)) + 1) * 16 ≤ LIM) && decide ((l12.length + ((l14.take l14.length).length)) + 1 ≤ LIM) then
       r228 l16 v32 v33 (((((l12.take l12.length) ++ (l14.take l14.length)).take (l12.length + ((l14.take l14.length).length))) ++ [PV.agg [.int .i64 v31, .int .u64 0]]).take ((l12.length + ((l14.take l14.length).length)) + 1))
      else none
    else none := by kernel_rfl
end Go.Proofs.YtclkgblckicabaaGreat
/- Normal forms: printed by nf.py. -/
set_option linter.unusedVariables false
set_option maxRecDepth 100000
namespace Go.Proofs.YtclkgblckicabaaGreat
open Go.Dp
/-! 229 : spec.l2Kind -/
theorem n229 (k : Nat) (wide vars : Int) (t : List PV) : c229 (k + 1) wide vars t =
 R298 (c298 k wide) fun b1 =>
 bif !b1 then
  r229 0
 else
  R117 (c117 k vars 1 4) fun b2 =>
  bif !b2 then
   r229 0
  else
   R117 (c117 k (t.length : Int) 1 48) fun b3 =>
   bif !b3 then
    r229 0
   else L229_1 k k wide vars 0 t (t.length : Int) 0 [] := by kernel_rfl
theorem sL229_1 (k n : Nat) (wide vars : Int) (pileLen : Nat) (t27 : List PV) (t28 t29 : Int) (xs : List PV) : L229_1 k (n + 1) wide vars pileLen t27 t28 t29 xs =
 bif decide (t29 < t28) then
  (lookP t27 t29).bind fun p1 =>
  bif p1.shp 2 then
   (p1.atInt .i64 0).bind fun n1 =>
   (p1.atInt .u64 1).bind fun n2 =>
   R281 (c281 k n1) fun v1 v2 v3 =>
   bif (v3 == 0) then
    r229 0
   else
    R299 (c299 k wide vars n1 n2) fun b1 =>
    bif !b1 then
     r229 0
    else
     bif decide ((pileLen : Int) < v1) then
      r229 0
     else L229_2 k n k wide vars pileLen v1 v2 v3 t27 t28 t29 xs
  else none
 else
  bif ((pileLen : Int) != 1) then
   r229 0
  else
   bif decide ((0 : Int) < (pileLen : Int)) then
    (xs[0]?).bind fun p2 =>
    (p2.atInt .i64 0).bind fun n3 =>
    r229 n3
   else none := by kernel_rfl
theorem sL229_2 (k n1 n : Nat) (wide vars : Int) (pileLen : Nat) (many part own : Int) (t27 : List PV) (t28 t29 : Int) (xs : List PV) : L229_2 k n1 (n + 1) wide vars pileLen many part own t27 t28 t29 xs =
 bif decide (many > 0) then
  bif decide ((0 : Int) ≤ IntKind.i64.wrap ((pileLen : Int) - 1)) && decide (IntKind.i64.wrap ((pileLen : Int) - 1) < (pileLen : Int)) then
   (xs[0 + ((IntKind.i64.wrap ((pileLen : Int) - 1)).toNat)]?).bind fun p1 =>
   (p1.atInt .i64 0).bind fun n2 =>
   bif (n2 != part) then
    r229 0
   else
    bif decide ((0 : Int) ≤ IntKind.i64.wrap ((pileLen : Int) - 1)) && decide (IntKind.i64.wrap ((pileLen : Int) - 1) ≤ (pileLen : Int)) then
     L229_2 k n1 n wide vars ((IntKind.i64.wrap ((pileLen : Int) - 1)).toNat) (IntKind.i64.wrap (many - 1)) part own t27 t28 t29 xs
    else none
  else none
 else
  bif decide ((pileLen + 1) * 8 ≤ LIM) && decide (pileLen + 1 ≤ LIM) then
   L229_1 k n1 wide vars (pileLen + 1) t27 t28 (IntKind.i64.wrap (t29 + 1)) ((xs.take pileLen) ++ [PV.int .i64 own])
  else none := by kernel_rfl
/-! 230 : impl.GoodProgram -/
theorem n230 (k : Nat) (p p1 : Int) (p2 p3 : List PV) : c230 (k + 1) p p1 p2 p3 =
 R246 (c246 k p) fun b1 =>
 bif !b1 then
  r230 false
 else
  R242 (c242 k p1) fun b2 =>
  bif !b2 then
   r230 false
  else
   R153 (c153 k p p1 p2 p3 p2) fun b3 =>
   bif !b3 then
    r230 false
   else
    bif decide ((p3.length : Int) < 1) then
     r230 false
    else
     bif decide ((p3.length : Int) > 6) then
      r230 false
     else
      R212f300 (c212f300 k p3 p p1 p2 p3) fun v1 v2 l1 l2 b4 =>
      r230 (!b4) := by kernel_rfl
/-! 231 : spec.GoodProgram -/
theorem n231 (k : Nat) (p p1 : Int) (p2 p3 : List PV) : c231 (k + 1) p p1 p2 p3 =
 R110 (c110 k p p1 p2 p3 p2) fun b1 =>
 bif !b1 then
  r231 false
 else
  R117 (c117 k (p3.length : Int) 1 6) fun b2 =>
  bif !b2 then
   r231 false
  else L231_1 k k p3 (p3.length : Int) 0 p p1 p2 p3 := by kernel_rfl
theorem sL231_1 (k n : Nat) (t18 : List PV) (t19 t20 n1 n11 : Int) (l l1 : List PV) : L231_1 k (n + 1) t18 t19 t20 n1 n11 l l1 =
 bif decide (t20 < t19) then
  (lookP t18 t20).bind fun p1 =>
  bif p1.shp 2 then
   (p1.atRow 2 0).bind fun l2 =>
   (p1.atRow 2 1).bind fun l3 =>
   R302 (c302 k n1 n11 l l1 l2 l3) fun b1 =>
   bif !b1 then
    r231 false
   else L231_1 k n t18 t19 (IntKind.i64.wrap (t20 + 1)) n1 n11 l l1
  else none
 else r231 true := by kernel_rfl
/-! 234 : impl.mask -/
theorem n234 (k : Nat) (wide : Int) : c234 (k + 1) wide =
 bif !decide (IntKind.i64.wrap (64 - wide) < 0) then
  r234 (shrI .u64 18446744073709551615 (IntKind.i64.wrap (64 - wide)))
 else none := by kernel_rfl
/-! 235 : impl.apply -/
theorem n235 (k : Nat) (wide op a b : Int) : c235 (k + 1) wide op a b =
 bif (op == 3) then
  R234 (c234 k wide) fun v1 =>
  r235 (bitsOp .and .u64 (IntKind.u64.wrap (a + b)) v1)
 else
  bif (op == 4) then
   R234 (c234 k wide) fun v2 =>
   r235 (bitsOp .and .u64 (IntKind.u64.wrap (a - b)) v2)
  else
   bif (op == 5) then
    R234 (c234 k wide) fun v3 =>
    r235 (bitsOp .and .u64 (IntKind.u64.wrap (a * b)) v3)
   else
    bif (op == 6) then
     R303 (c303 k wide a b) fun v4 v5 b1 =>
     R234 (c234 k wide) fun v6 =>
     r235 (bitsOp .and .u64 v4 v6)
    else
     bif (op == 7) then
      R303 (c303 k wide a b) fun v7 v8 b2 =>
      R234 (c234 k wide) fun v9 =>
      r235 (bitsOp .and .u64 v8 v9)
     else
      bif (op == 8) then
       R234 (c234 k wide) fun v10 =>
       r235 (bitsOp .and .u64 (bitsOp .and .u64 a b) v10)
      else
       bif (op == 17) then
        R234 (c234 k wide) fun v11 =>
        r235 (bitsOp .and .u64 (bitsOp .and .u64 a b) v11)
       else
        bif (op == 9) then
         R234 (c234 k wide) fun v12 =>
         r235 (bitsOp .and .u64 (bitsOp .or .u64 a b) v12)
        else
         bif (op == 18) then
          R234 (c234 k wide) fun v13 =>
          r235 (bitsOp .and .u64 (bitsOp .or .u64 a b) v13)
         else
          bif (op == 10) then
           R234 (c234 k wide) fun v14 =>
           r235 (bitsOp .and .u64 (bitsOp .xor .u64 a b) v14)
          else
           bif (op == 11) then
            R304 (c304 k wide a b (op == 11)) fun v15 =>
            R234 (c234 k wide) fun v16 =>
            r235 (bitsOp .and .u64 v15 v16)
           else
            bif (op == 12) then
            R304 (c304 k wide a b (op == 11)) fun v17 =>
            R234 (c234 k wide) fun v18 =>
            r235 (bitsOp .and .u64 v17 v18)
            else
            bif (op == 14) then
            R305 (c305 k (a == b)) fun v19 =>
            R234 (c234 k wide) fun v20 =>
            r235 (bitsOp .and .u64 v19 v20)
            else
            bif (op == 15) then
            R305 (c305 k (decide (a < b))) fun v21 =>
            R234 (c234 k wide) fun v22 =>
            r235 (bitsOp .and .u64 v21 v22)
            else
            bif (op == 16) then
            R306 (c306 k wide a) fun v23 =>
            R306 (c306 k wide b) fun v24 =>
            R305 (c305 k (decide (v23 < v24))) fun v25 =>
            R234 (c234 k wide) fun v26 =>
            r235 (bitsOp .and .u64 v25 v26)
            else
            R234 (c234 k wide) fun v27 =>
            r235 (bitsOp .and .u64 0 v27) := by kernel_rfl
/-! 236 : spec.l1Cur).span -/
theorem n236 (k : Nat) (wide : Int) (l : List PV) (n1 n11 : Int) : c236 (k + 1) wide l n1 n11 =
 R251 (c251 k wide l n1 n11) fun l1 v1 v2 v3 =>
 R251 (c251 k wide l1 v1 v2) fun l2 v4 v5 v6 =>
 R145 (c145 k 3 l2 v4 v5) fun l3 v7 v8 b1 =>
 bif b1 then
  bif decide (v3 > v3) then
   R145 (c145 k 30 l3 v7 v8) fun l4 v9 v10 b2 =>
   bif !b2 then
    r236 l4 v9 v10 v3 v3
   else r236 l4 v9 v10 v3 v3
  else r236 l3 v7 v8 v3 v3
 else
  bif decide (v3 > v6) then
   R145 (c145 k 30 l3 v7 v8) fun l5 v11 v12 b3 =>
   bif !b3 then
    r236 l5 v11 v12 v6 v3
   else r236 l5 v11 v12 v3 v6
  else r236 l3 v7 v8 v3 v6 := by kernel_rfl
/-! 237 : impl.spanOf -/
theorem n237 (k : Nat) (wide : Int) (t spans : List PV) : c237 (k + 1) wide t spans =
 R234 (c234 k wide) fun v1 =>
 L237_1 k k spans 0 t (t.length : Int) 0 0 0 0 v1 [] := by kernel_rfl
theorem sL237_1 (k n : Nat) (spans : List PV) (stackLen : Nat) (t16 : List PV) (t17 t18 n1 n11 n12 n13 : Int) (xs : List PV) : L237_1 k (n + 1) spans stackLen t16 t17 t18 n1 n11 n12 n13 xs =
 bif decide (t18 < t17) then
  (lookP t16 t18).bind fun p1 =>
  bif p1.shp 2 then
   (p1.atInt .i64 0).bind fun n2 =>
   (p1.atInt .u64 1).bind fun n3 =>
   bif (n2 == 1) then
    bif decide ((stackLen + 1) * 16 ≤ LIM) && decide (stackLen + 1 ≤ LIM) then
     L237_1 k n spans (stackLen + 1) t16 t17 (IntKind.i64.wrap (t18 + 1)) n1 n11 n12 n13 ((xs.take stackLen) ++ [PV.agg [.int .u64 n3, .int .u64 n3]])
    else none
   else
    bif (n2 == 20) then
     bif decide ((stackLen + 1) * 16 ≤ LIM) && decide (stackLen + 1 ≤ LIM) then
      L237_1 k n spans (stackLen + 1) t16 t17 (IntKind.i64.wrap (t18 + 1)) n1 n11 n12 n13 ((xs.take stackLen) ++ [PV.agg [.int .u64 n3, .int .u64 n3]])
     else none
    else
     bif (n2 == 2) then
      (lookP spans n3).bind fun p2 =>
      bif p2.shp 2 then
       (p2.atInt .u64 0).bind fun n4 =>
       (p2.atInt .u64 1).bind fun n5 =>
       bif decide ((stackLen + 1) * 16 ≤ LIM) && decide (stackLen + 1 ≤ LIM) then
        L237_1 k n spans (stackLen + 1) t16 t17 (IntKind.i64.wrap (t18 + 1)) n1 n11 n12 n13 ((xs.take stackLen) ++ [PV.agg [.int .u64 n4, .int .u64 n5]])
       else none
      else none
     else
      bif (n2 == 13) then
       bif decide ((0 : Int) ≤ IntKind.i64.wrap ((stackLen : Int) - 1)) && decide (IntKind.i64.wrap ((stackLen : Int) - 1) < (stackLen : Int)) then
        (xs[0 + ((IntKind.i64.wrap ((stackLen : Int) - 1)).toNat)]?).bind fun p3 =>
        (p3.atInt .u64 1).bind fun n6 =>
        bif decide ((0 : Int) ≤ IntKind.i64.wrap ((stackLen : Int) - 1)) && decide (IntKind.i64.wrap ((stackLen : Int) - 1) < (stackLen : Int)) then
         (xs[0 + ((IntKind.i64.wrap ((stackLen : Int) - 1)).toNat)]?).bind fun p4 =>
         (p4.atInt .u64 0).bind fun n7 =>
         bif decide ((0 : Int) ≤ IntKind.i64.wrap ((stackLen : Int) - 1)) && decide (IntKind.i64.wrap ((stackLen : Int) - 1) < (stackLen : Int)) then
          (xs[0 + ((IntKind.i64.wrap ((stackLen : Int) - 1)).toNat)]?).bind fun p5 =>
          L237_1 k n spans stackLen t16 t17 (IntKind.i64.wrap (t18 + 1)) n1 n11 n12 n13 (xs.set (0 + ((IntKind.i64.wrap ((stackLen : Int) - 1)).toNat)) (PV.agg [.int .u64 (IntKind.u64.wrap (n13 - n6)), .int .u64 (IntKind.u64.wrap (n13 - n7))]))
         else none
        else none
       else none
      else
       bif (n2 == 19) then
        bif decide ((0 : Int) ≤ IntKind.i64.wrap ((stackLen : Int) - 1)) && decide (IntKind.i64.wrap ((stackLen : Int) - 1) < (stackLen : Int)) then
         (xs[0 + ((IntKind.i64.wrap ((stackLen : Int) - 1)).toNat)]?).bind fun p6 =>
         (p6.atInt .u64 1).bind fun n8 =>
         bif decide ((0 : Int) ≤ IntKind.i64.wrap ((stackLen : Int) - 1)) && decide (IntKind.i64.wrap ((stackLen : Int) - 1) < (stackLen : Int)) then
          (xs[0 + ((IntKind.i64.wrap ((stackLen : Int) - 1)).toNat)]?).bind fun p7 =>
          (p7.atInt .u64 0).bind fun n9 =>
          bif decide ((0 : Int) ≤ IntKind.i64.wrap ((stackLen : Int) - 1)) && decide (IntKind.i64.wrap ((stackLen : Int) - 1) < (stackLen : Int)) then
           (xs[0 + ((IntKind.i64.wrap ((stackLen : Int) - 1)).toNat)]?).bind fun p8 =>
           L237_1 k n spans stackLen t16 t17 (IntKind.i64.wrap (t18 + 1)) n1 n11 n12 n13 (xs.set (0 + ((IntKind.i64.wrap ((stackLen : Int) - 1)).toNat)) (PV.agg [.int .u64 (IntKind.u64.wrap (1 - n8)), .int .u64 (IntKind.u64.wrap (1 - n9))]))
          else none
         else none
        else none
       else
        bif decide ((0 : Int) ≤ IntKind.i64.wrap ((IntKind.i64.wrap ((stackLen : Int) - 1)) - 1)) && decide (IntKind.i64.wrap ((IntKind.i64.wrap ((stackLen : Int) - 1)) - 1) ≤ (stackLen : Int)) then
         bif decide ((0 : Int) ≤ IntKind.i64.wrap ((IntKind.i64.wrap ((stackLen : Int) - 1)) - 1)) && decide (IntKind.i64.wrap ((IntKind.i64.wrap ((stackLen : Int) - 1)) - 1) < (stackLen : Int)) then
          (xs[0 + ((IntKind.i64.wrap ((IntKind.i64.wrap ((stackLen : Int) - 1)) - 1)).toNat)]?).bind fun p9 =>
          bif p9.shp 2 then
           (p9.atInt .u64 0).bind fun n10 =>
           (p9.atInt .u64 1).bind fun n14 =>
           bif decide ((0 : Int) ≤ IntKind.i64.wrap ((stackLen : Int) - 1)) && decide (IntKind.i64.wrap ((stackLen : Int) - 1) < (stackLen : Int)) then
            (xs[0 + ((IntKind.i64.wrap ((stackLen : Int) - 1)).toNat)]?).bind fun p10 =>
            bif p10.shp 2 then
            (p10.atInt .u64 0).bind fun n15 =>
            (p10.atInt .u64 1).bind fun n16 =>
            R307 (c307 k n2 n12 n13 n10 n14 n15 n16) fun v1 v2 =>
            bif decide ((((IntKind.i64.wrap ((IntKind.i64.wrap ((stackLen : Int) - 1)) - 1)).toNat) + 1) * 16 ≤ LIM) && decide (((IntKind.i64.wrap ((IntKind.i64.wrap ((stackLen : Int) - 1)) - 1)).toNat) + 1 ≤ LIM) then
            L237_1 k n spans (((IntKind.i64.wrap ((IntKind.i64.wrap ((stackLen : Int) - 1)) - 1)).toNat) + 1) t16 t17 (IntKind.i64.wrap (t18 + 1)) n1 n11 n12 n13 ((xs.take ((IntKind.i64.wrap ((IntKind.i64.wrap ((stackLen : Int) - 1)) - 1)).toNat)) ++ [PV.agg [.int .u64 v1, .int .u64 v2]])
            else none
            else none
           else none
          else none
         else none
        else none
  else none
 else
  bif decide ((0 : Int) < (stackLen : Int)) then
   (xs[0]?).bind fun p11 =>
   bif p11.shp 2 then
    (p11.atInt .u64 0).bind fun n17 =>
    (p11.atInt .u64 1).bind fun n18 =>
    r237 n17 n18
   else none
  else none := by kernel_rfl
/-! 238 : impl.join -/
theorem n238 (k : Nat) (a a1 b b1 : Int) : c238 (k + 1) a a1 b b1 =
 r238 (minI a b) (maxI a1 b1) := by kernel_rfl
/-! 239 : spec.l18Of -/
theorem n239 (k : Nat) (wide : Int) (t : List PV) (k1 : Int) (spans : List PV) : c239 (k + 1) wide t k1 spans =
 (lookP t k1).bind fun p1 =>
 bif p1.shp 2 then
  (p1.atInt .i64 0).bind fun n1 =>
  (p1.atInt .u64 1).bind fun n2 =>
  R281 (c281 k n1) fun v1 v2 v3 =>
  bif (n1 == 2) then
   (lookP spans n2).bind fun p2 =>
   bif p2.shp 2 then
    (p2.atInt .u64 0).bind fun n3 =>
    (p2.atInt .u64 1).bind fun n4 =>
    r239 n3 n4
   else none
  else
   bif (v1 == 0) then
    r239 n2 n2
   else
    R239 (c239 k wide t (IntKind.i64.wrap (k1 - 1)) spans) fun v4 v5 =>
    bif (n1 == 13) then
     R297 (c297 k wide (bitsOp .xor .u64 18446744073709551615 v5)) fun v6 =>
     R297 (c297 k wide (bitsOp .xor .u64 18446744073709551615 v4)) fun v7 =>
     r239 v6 v7
    else
     bif (n1 == 19) then
      r239 (IntKind.u64.wrap (1 - v5)) (IntKind.u64.wrap (1 - v4))
     else
      R308 (c308 k t (IntKind.i64.wrap (k1 - 1))) fun v8 =>
      R239 (c239 k wide t (IntKind.i64.wrap (v8 - 1)) spans) fun v9 v10 =>
      bif (v3 == 1) then
       R309 (c309 k wide n1 v9 v10 v4 v5) fun v11 v12 =>
       r239 v11 v12
      else
       R310 (c310 k n1 v9 v10 v4 v5) fun v13 v14 =>
       r239 v13 v14
 else none := by kernel_rfl
/-! 240 : spec.l18Join -/
theorem n240 (k : Nat) (a a1 b b1 : Int) : c240 (k + 1) a a1 b b1 =
 R311 (c311 k a b) fun v1 =>
 R312 (c312 k a1 b1) fun v2 =>
 r240 v1 v2 := by kernel_rfl
/-! 241 : slices.Clone[[]uint64,uint64] -/
theorem n241 (k : Nat) (qs : List PV) (h1 : qs.length * 8 ≤ LIM) (h2 : qs.length ≤ LIM) : c241 (k + 1) qs = r241 qs := evF_T (by simp [T, cloneT, clones, lk, h1, h2] <;> rfl)
/-! 242 : impl.isVars -/
theorem n242 (k : Nat) (n1 : Int) : c242 (k + 1) n1 =
 bif decide (n1 ≥ 1) then
  r242 (decide (n1 ≤ 4))
 else r242 false := by kernel_rfl
/-! 243 : impl.Span] -/
theorem n243f244 (k : Nat) (qs : List PV) (n1 : Int) : c243f244 (k + 1) qs n1 =
 R313f244p (c313f244 k qs n1) fun v1 =>
 r243f244 (decide (v1 ≥ 0)) := by kernel_rfl
/-! 244 : impl.areSpans$1 -/
theorem n244 (k : Nat) (qs qs1 n1 : Int) : c244 (k + 1) qs qs1 n1 =
 R245 (c245 k n1 qs qs1) fun b1 =>
 r244 (!b1) := by kernel_rfl
/-! 245 : impl.GoodSpan -/
theorem n245 (k : Nat) (wide qs qs1 : Int) : c245 (k + 1) wide qs qs1 =
 R249 (c249 k wide qs1) fun b1 =>
 bif b1 then
  r245 (decide (qs ≤ qs1))
 else r245 false := by kernel_rfl
/-! 246 : impl.isWide -/
theorem n246 (k : Nat) (n1 : Int) : c246 (k + 1) n1 =
 bif decide (n1 ≥ 1) then
  r246 (decide (n1 ≤ 64))
 else r246 false := by kernel_rfl
/-! 247 : slices.ContainsFunc[[]uint64,uint64] -/
theorem n247f248 (k : Nat) (qs : List PV) (n1 : Int) : c247f248 (k + 1) qs n1 =
 R314f248 (c314f248 k qs n1) fun v1 v2 =>
 r247f248 v1 (decide (v2 ≥ 0)) := by kernel_rfl
/-! 248 : impl.isState$1 -/
theorem n248 (k : Nat) (a n1 : Int) : c248 (k + 1) a n1 =
 R249 (c249 k n1 a) fun b1 =>
 r248 n1 (!b1) := by kernel_rfl
/-! 249 : impl.GoodWord -/
theorem n249 (k : Nat) (wide a : Int) : c249 (k + 1) wide a =
 R246 (c246 k wide) fun b1 =>
 bif b1 then
  R234 (c234 k wide) fun v1 =>
  r249 (decide (a ≤ v1))
 else r249 false := by kernel_rfl
/-! 250 : spec.l1Cur).next -/
theorem n250 (k : Nat) (l : List PV) (n1 n11 : Int) : c250 (k + 1) l n1 n11 =
 bif decide (n1 < (l.length : Int)) then
  (lookP l n1).bind fun p1 =>
  (p1.atInt .u8 0).bind fun n2 =>
  bif decide (IntKind.i64.wrap (n1 + 1) ≤ (l.length : Int)) then
   r250 l (IntKind.i64.wrap (n1 + 1)) (IntKind.u64.wrap ((IntKind.u64.wrap ((IntKind.u64.wrap (n11 * 6364136223846793005)) + (IntKind.u64.wrap (IntKind.i64.wrap n2)))) + 1442695040888963407)) (IntKind.i64.wrap n2)
  else r250 l (IntKind.i64.wrap (n1 + 1)) (IntKind.u64.wrap ((IntKind.u64.wrap ((IntKind.u64.wrap (n11 * 6364136223846793005)) + (IntKind.u64.wrap (IntKind.i64.wrap n2)))) + 1442695040888963407)) (IntKind.i64.wrap (bitsOp .and .u64 (shrI .u64 (IntKind.u64.wrap ((IntKind.u64.wrap ((IntKind.u64.wrap (n11 * 6364136223846793005)) + (IntKind.u64.wrap (IntKind.i64.wrap n2)))) + 1442695040888963407)) 40) 255))
 else
  bif decide (IntKind.i64.wrap (n1 + 1) ≤ (l.length : Int)) then
   r250 l (IntKind.i64.wrap (n1 + 1)) (IntKind.u64.wrap ((IntKind.u64.wrap ((IntKind.u64.wrap (n11 * 6364136223846793005)) + 0)) + 1442695040888963407)) 0
  else r250 l (IntKind.i64.wrap (n1 + 1)) (IntKind.u64.wrap ((IntKind.u64.wrap ((IntKind.u64.wrap (n11 * 6364136223846793005)) + 0)) + 1442695040888963407)) (IntKind.i64.wrap (bitsOp .and .u64 (shrI .u64 (IntKind.u64.wrap ((IntKind.u64.wrap ((IntKind.u64.wrap (n11 * 6364136223846793005)) + 0)) + 1442695040888963407)) 40) 255)) := by kernel_rfl
/-! 251 : spec.l1Cur).word -/
theorem n251 (k : Nat) (wide : Int) (l : List PV) (n1 n11 : Int) : c251 (k + 1) wide l n1 n11 =
 R143 (c143 k 5 l n1 n11) fun l1 v1 v2 v3 =>
 R143 (c143 k 5 l1 v1 v2) fun l2 v4 v5 v6 =>
 bif (v6 == 0) then
  R315 (c315 k l2 v4 v5) fun l3 v7 v8 v9 =>
  R145 (c145 k 30 l3 v7 v8) fun l4 v10 v11 b1 =>
  bif b1 then
   r251 l4 v10 v11 v9
  else
   R297 (c297 k wide v9) fun v12 =>
   r251 l4 v10 v11 v12
 else
  bif (v6 == 1) then
   R143 (c143 k 3 l2 v4 v5) fun l5 v13 v14 v15 =>
   R145 (c145 k 30 l5 v13 v14) fun l6 v16 v17 b2 =>
   bif b2 then
    r251 l6 v16 v17 (IntKind.u64.wrap (18446744073709551615 - (IntKind.u64.wrap v15)))
   else
    R297 (c297 k wide (IntKind.u64.wrap (18446744073709551615 - (IntKind.u64.wrap v15)))) fun v18 =>
    r251 l6 v16 v17 v18
  else
   bif (v6 == 2) then
    R143 (c143 k 64 l2 v4 v5) fun l7 v19 v20 v21 =>
    bif !decide (IntKind.u64.wrap v21 < 0) then
     R145 (c145 k 30 l7 v19 v20) fun l8 v22 v23 b3 =>
     bif b3 then
      r251 l8 v22 v23 (shlI .u64 1 (IntKind.u64.wrap v21))
     else
      R297 (c297 k wide (shlI .u64 1 (IntKind.u64.wrap v21))) fun v24 =>
      r251 l8 v22 v23 v24
    else none
   else
    R145 (c145 k 30 l2 v4 v5) fun l9 v25 v26 b4 =>
    bif b4 then
     r251 l9 v25 v26 (IntKind.u64.wrap v3)
    else
     R297 (c297 k wide (IntKind.u64.wrap v3)) fun v27 =>
     r251 l9 v25 v26 v27 := by kernel_rfl
/-! 252 : spec.GoodSpan -/
theorem n252 (k : Nat) (wide qs qs1 : Int) : c252 (k + 1) wide qs qs1 =
 R316 (c316 k wide qs qs1) fun b1 =>
 bif b1 then
  r252 (decide (qs ≤ qs1))
 else r252 false := by kernel_rfl
/-! 253 : spec.GoodWord -/
theorem n253 (k : Nat) (wide a : Int) : c253 (k + 1) wide a =
 R298 (c298 k wide) fun b1 =>
 bif b1 then
  R297 (c297 k wide a) fun v1 =>
  r253 (v1 == a)
 else r253 false := by kernel_rfl
/-! 255 : impl.isTermOf -/
theorem n255 (k : Nat) (wide vars : Int) (t : List PV) (kind : Int) : c255 (k + 1) wide vars t kind =
 R161 (c161 k wide vars t) fun b1 =>
 bif b1 then
  R162 (c162 k t) fun v1 =>
  r255 (v1 == kind)
 else r255 false := by kernel_rfl
/-! 263 : impl.operandsOf -/
theorem n263 (k : Nat) (op : Int) : c263 (k + 1) op =
 bif (op == 1) then
  r263 0 0 1
 else
  bif (op == 2) then
   r263 0 0 1
  else
   bif (op == 20) then
    r263 0 0 2
   else
    bif (op == 13) then
     r263 1 1 1
    else
     bif (op == 19) then
      r263 1 2 2
     else
      bif decide (op ≥ 3) then
       bif decide (op ≤ 12) then
        r263 2 1 1
       else
        bif decide (op ≥ 14) then
         bif decide (op ≤ 16) then
          r263 2 1 2
         else
          bif (op == 17) then
           r263 2 2 2
          else
           bif (op == 18) then
            r263 2 2 2
           else r263 0 0 0
        else
         bif (op == 17) then
          r263 2 2 2
         else
          bif (op == 18) then
           r263 2 2 2
          else r263 0 0 0
      else
       bif decide (op ≥ 14) then
        bif decide (op ≤ 16) then
         r263 2 1 2
        else
         bif (op == 17) then
          r263 2 2 2
         else
          bif (op == 18) then
           r263 2 2 2
          else r263 0 0 0
       else
        bif (op == 17) then
         r263 2 2 2
        else
         bif (op == 18) then
          r263 2 2 2
         else r263 0 0 0 := by kernel_rfl
/-! 264 : impl.isLeafRight -/
theorem n264 (k : Nat) (wide vars x x1 : Int) : c264 (k + 1) wide vars x x1 =
 bif (x == 1) then
  R249 (c249 k wide x1) fun b1 =>
  r264 b1
 else
  bif (x == 2) then
   r264 (decide (x1 < IntKind.u64.wrap vars))
  else
   bif (x == 20) then
    r264 (decide (x1 ≤ 1))
   else r264 (x1 == 0) := by kernel_rfl
/-! 265 : impl.GoodTerm$1 -/
theorem n265 (k : Nat) (own n1 : Int) : c265 (k + 1) own n1 =
 r265 n1 (own != n1) := by kernel_rfl
/-! 273 : slices.IndexFunc[[]int,int] -/
theorem n273f265 (k : Nat) (qs : List PV) (n1 : Int) : c273f265 (k + 1) qs n1 =
 L273f265_1 k k qs (qs.length : Int) 0 n1 := by kernel_rfl
theorem sL273f265_1 (k n : Nat) (qs : List PV) (t7 t8 n1 : Int) : L273f265_1 k (n + 1) qs t7 t8 n1 =
 bif decide (t8 < t7) then
  (lookP qs t8).bind fun p1 =>
  (p1.atInt .i64 0).bind fun n2 =>
  R265 (c265 k n2 n1) fun v1 b1 =>
  bif b1 then
   r273f265 v1 t8
  else L273f265_1 k n qs t7 (IntKind.i64.wrap (t8 + 1)) v1
 else r273f265 n1 (-1) := by kernel_rfl
/-! 281 : spec.l2Need -/
theorem n281 (k : Nat) (op : Int) : c281 (k + 1) op =
 bif (op == 1) then
  r281 0 1 1
 else
  bif (op == 2) then
   r281 0 1 1
  else
   bif (op == 20) then
    r281 0 2 2
   else
    bif (op == 13) then
     r281 1 1 1
    else
     bif (op == 19) then
      r281 1 2 2
     else
      R117 (c117 k op 3 12) fun b1 =>
      bif b1 then
       r281 2 1 1
      else
       R117 (c117 k op 14 16) fun b2 =>
       bif b2 then
        r281 2 1 2
       else
        bif (op == 17) then
         r281 2 2 2
        else
         bif (op == 18) then
          r281 2 2 2
         else r281 0 0 0 := by kernel_rfl
/-! 283 : impl.Command] -/
theorem n283f300 (k : Nat) (qs : List PV) (n1 n11 : Int) (l l1 : List PV) : c283f300 (k + 1) qs n1 n11 l l1 =
 L283f300_1 k k qs (qs.length : Int) 0 n1 n11 l l1 := by kernel_rfl
theorem sL283f300_1 (k n : Nat) (qs : List PV) (t7 t8 n1 n11 : Int) (l l1 : List PV) : L283f300_1 k (n + 1) qs t7 t8 n1 n11 l l1 =
 bif decide (t8 < t7) then
  (lookP qs t8).bind fun p1 =>
  bif p1.shp 2 then
   (p1.atRow 2 0).bind fun l2 =>
   (p1.atRow 2 1).bind fun l3 =>
   R300 (c300 k l2 l3 n1 n11 l l1) fun v1 v2 l4 l5 b1 =>
   bif b1 then
    r283f300 v1 v2 l4 l5 t8
   else L283f300_1 k n qs t7 (IntKind.i64.wrap (t8 + 1)) v1 v2 l4 l5
  else none
 else r283f300 n1 n11 l l1 (-1) := by kernel_rfl
/-! 296 : spec.l1Cur).command -/
theorem n296 (k : Nat) (wide vars : Int) (l : List PV) (n1 n11 : Int) : c296 (k + 1) wide vars l n1 n11 =
 R143 (c143 k 2 l n1 n11) fun l1 v1 v2 v3 =>
 R107 (c107 k wide vars v3 l1 v1 v2) fun l2 v4 v5 l3 =>
 L296_1 k k wide vars 0 l2 v4 v5 [] [] l3.length 0 l3 [] := by kernel_rfl
theorem sL296_1 (k n : Nat) (wide vars v : Int) (l : List PV) (n1 n11 : Int) (l1 l2 : List PV) (Len Len1 : Nat) (xs xs1 : List PV) : L296_1 k (n + 1) wide vars v l n1 n11 l1 l2 Len Len1 xs xs1 =
 bif decide (v < vars) then
  R145 (c145 k 2 l n1 n11) fun l3 v1 v2 b1 =>
  bif b1 then
   R228 (c228 k wide vars 1 l3 v1 v2) fun l4 v3 v4 l5 =>
   bif decide ((Len1 + 1) * 32 ≤ LIM) && decide (Len1 + 1 ≤ LIM) then
    L296_1 k n wide vars (IntKind.i64.wrap (v + 1)) l4 v3 v4 l1 l2 Len (Len1 + 1) xs ((xs1.take Len1) ++ [PV.agg [.int .i64 v, .row 2 0 (l5.take l5.length)]])
   else none
  else L296_1 k n wide vars (IntKind.i64.wrap (v + 1)) l3 v1 v2 l1 l2 Len Len1 xs xs1
 else r296 l n1 n11 (xs.take Len) (xs1.take Len1) := by kernel_rfl
/-! 297 : spec.l1Cut -/
theorem n297 (k : Nat) (wide a : Int) : c297 (k + 1) wide a =
 L297_1 k k wide a 0 0 := by kernel_rfl
theorem sL297_1 (k n : Nat) (wide a out k1 : Int) : L297_1 k (n + 1) wide a out k1 =
 bif decide (k1 < wide) then
  bif !decide (IntKind.u64.wrap k1 < 0) then
   L297_1 k n wide a (bitsOp .or .u64 out (bitsOp .and .u64 a (shlI .u64 1 (IntKind.u64.wrap k1)))) (IntKind.i64.wrap (k1 + 1))
  else none
 else r297 out := by kernel_rfl
/-! 298 : spec.l1Wide -/
theorem n298 (k : Nat) (wide : Int) : c298 (k + 1) wide =
 R117 (c117 k wide 1 64) fun b1 =>
 r298 b1 := by kernel_rfl
end Go.Proofs.YtclkgblckicabaaGreat
/- Normal forms: printed by nf.py. -/
set_option linter.unusedVariables false
set_option maxRecDepth 100000
namespace Go.Proofs.YtclkgblckicabaaGreat
open Go.Dp
/-! 299 : spec.l2N -/
theorem n299 (k : Nat) (wide vars n1 n11 : Int) : c299 (k + 1) wide vars n1 n11 =
 bif (n1 == 1) then
  R253 (c253 k wide n11) fun b1 =>
  r299 b1
 else
  bif (n1 == 2) then
   r299 (decide (n11 < IntKind.u64.wrap vars))
  else
   bif (n1 == 20) then
    r299 (decide (n11 < 2))
   else r299 (n11 == 0) := by kernel_rfl
/-! 300 : impl.GoodProgram$1 -/
theorem n300 (k : Nat) (qc qc1 : List PV) (n1 n11 : Int) (l l1 : List PV) : c300 (k + 1) qc qc1 n1 n11 l l1 =
 R301 (c301 k n1 n11 l l1 qc qc1) fun b1 =>
 r300 n1 n11 l l1 (!b1) := by kernel_rfl
/-! 301 : impl.Program).isCommand -/
theorem n301 (k : Nat) (p p1 : Int) (p2 p3 qc qc1 : List PV) : c301 (k + 1) p p1 p2 p3 qc qc1 =
 R153 (c153 k p p1 p2 p3 qc) fun b1 =>
 bif !b1 then
  r301 false
 else L301_1 k k qc1 (qc1.length : Int) 0 p p1 p2 p3 qc qc1 := by kernel_rfl
theorem sL301_1 (k n : Nat) (t13 : List PV) (t14 t15 n1 n11 : Int) (l l1 l2 l3 : List PV) : L301_1 k (n + 1) t13 t14 t15 n1 n11 l l1 l2 l3 =
 bif decide (t15 < t14) then
  (lookP t13 t15).bind fun p1 =>
  bif p1.shp 2 then
   (p1.atInt .i64 0).bind fun n2 =>
   (p1.atRow 2 1).bind fun l4 =>
   bif decide (n2 < 0) then
    r301 false
   else
    bif decide (n2 ≥ n11) then
     r301 false
    else
     bif decide (t15 > 0) then
      (lookP l3 (IntKind.i64.wrap (t15 - 1))).bind fun p2 =>
      (p2.atInt .i64 0).bind fun n3 =>
      bif decide (n3 ≥ n2) then
       r301 false
      else
       R255 (c255 k n1 n11 l4 1) fun b1 =>
       bif !b1 then
        r301 false
       else L301_1 k n t13 t14 (IntKind.i64.wrap (t15 + 1)) n1 n11 l l1 l2 l3
     else
      R255 (c255 k n1 n11 l4 1) fun b2 =>
      bif !b2 then
       r301 false
      else L301_1 k n t13 t14 (IntKind.i64.wrap (t15 + 1)) n1 n11 l l1 l2 l3
  else none
 else r301 true := by kernel_rfl
/-! 302 : spec.l7Command -/
theorem n302 (k : Nat) (p p1 : Int) (p2 p3 qc qc1 : List PV) : c302 (k + 1) p p1 p2 p3 qc qc1 =
 R110 (c110 k p p1 p2 p3 qc) fun b1 =>
 bif !b1 then
  r302 false
 else
  bif decide ((qc1.length : Int) > p1) then
   r302 false
  else L302_1 k k qc1 (qc1.length : Int) 0 p p1 p2 p3 qc qc1 := by kernel_rfl
theorem sL302_1 (k n : Nat) (t21 : List PV) (t22 t23 n1 n11 : Int) (l l1 l2 l3 : List PV) : L302_1 k (n + 1) t21 t22 t23 n1 n11 l l1 l2 l3 =
 bif decide (t23 < t22) then
  (lookP t21 t23).bind fun p1 =>
  bif p1.shp 2 then
   (p1.atInt .i64 0).bind fun n2 =>
   (p1.atRow 2 1).bind fun l4 =>
   R117 (c117 k n2 0 (IntKind.i64.wrap (n11 - 1))) fun b1 =>
   bif !b1 then
    r302 false
   else
    bif decide (t23 > 0) then
     (lookP l3 (IntKind.i64.wrap (t23 - 1))).bind fun p2 =>
     (p2.atInt .i64 0).bind fun n3 =>
     bif decide (n3 ≥ n2) then
      r302 false
     else
      R229 (c229 k n1 n11 l4) fun v1 =>
      bif (v1 != 1) then
       r302 false
      else L302_1 k n t21 t22 (IntKind.i64.wrap (t23 + 1)) n1 n11 l l1 l2 l3
    else
     R229 (c229 k n1 n11 l4) fun v2 =>
     bif (v2 != 1) then
      r302 false
     else L302_1 k n t21 t22 (IntKind.i64.wrap (t23 + 1)) n1 n11 l l1 l2 l3
  else none
 else r302 true := by kernel_rfl
/-! 303 : impl.DivWord -/
theorem n303 (k : Nat) (wide a b : Int) : c303 (k + 1) wide a b =
 R326 (c326 k wide a b) fun b1 =>
 bif !b1 then
  r303 0 0 false
 else
  bif (b == 0) then
   R234 (c234 k wide) fun v1 =>
   r303 v1 a true
  else
   R327 (c327 k 0 a b) fun v2 v3 =>
   r303 v2 v3 true := by kernel_rfl
/-! 304 : impl.shift -/
theorem n304 (k : Nat) (wide a by1 : Int) (left : Bool) : c304 (k + 1) wide a by1 left =
 bif decide (by1 ≥ IntKind.u64.wrap wide) then
  r304 0
 else
  bif left then
   bif !decide (by1 < 0) then
    R234 (c234 k wide) fun v1 =>
    r304 (bitsOp .and .u64 (shlI .u64 a by1) v1)
   else none
  else
   bif !decide (by1 < 0) then
    r304 (shrI .u64 a by1)
   else none := by kernel_rfl
/-! 305 : impl.truth -/
theorem n305 (k : Nat) (holds : Bool) : c305 (k + 1) holds =
 bif holds then
  r305 1
 else r305 0 := by kernel_rfl
/-! 306 : impl.signed -/
theorem n306 (k : Nat) (wide a : Int) : c306 (k + 1) wide a =
 bif !decide (IntKind.i64.wrap (64 - wide) < 0) then
  bif !decide (IntKind.i64.wrap (64 - wide) < 0) then
   r306 (shrI .i64 (IntKind.i64.wrap (shlI .u64 a (IntKind.i64.wrap (64 - wide)))) (IntKind.i64.wrap (64 - wide)))
  else none
 else none := by kernel_rfl
/-! 307 : impl.spanOfTwo -/
theorem n307 (k : Nat) (op all all1 a a1 b b1 : Int) : c307 (k + 1) op all all1 a a1 b b1 =
 bif (op == 3) then
  R328 (c328 k all all1 a a1 b b1) fun v1 v2 =>
  r307 v1 v2
 else
  bif (op == 5) then
   R329 (c329 k all all1 a a1 b b1) fun v3 v4 =>
   r307 v3 v4
  else
   bif (op == 4) then
    bif decide (a ≥ b1) then
     r307 (IntKind.u64.wrap (a - b1)) (IntKind.u64.wrap (a1 - b))
    else r307 all all1
   else
    bif (op == 6) then
     bif decide (b > 0) then
      bif !(b1 == 0) then
       bif !(b == 0) then
        r307 (IntKind.u64.wrap (a.tdiv b1)) (IntKind.u64.wrap (a1.tdiv b))
       else none
      else none
     else r307 all all1
    else
     bif (op == 7) then
      bif decide (b > 0) then
       bif decide (IntKind.u64.wrap (b1 - 1) < a1) then
        r307 0 (IntKind.u64.wrap (b1 - 1))
       else r307 0 a1
      else r307 0 a1
     else
      bif (op == 12) then
       r307 0 a1
      else
       bif (op == 8) then
        r307 0 (minI a1 b1)
       else
        bif (op == 9) then
         r307 (maxI a b) all1
        else
         bif (op == 14) then
          R330 (c330 k a a1 b b1) fun v5 v6 b2 =>
          bif ((a == b) && ((a1 == b1) && true)) then
           R331 (c331 k (a == a1) (!b2)) fun v7 v8 =>
           r307 v7 v8
          else
           R331 (c331 k false (!b2)) fun v9 v10 =>
           r307 v9 v10
         else
          bif (op == 15) then
           R331 (c331 k (decide (a1 < b)) (decide (a ≥ b1))) fun v11 v12 =>
           r307 v11 v12
          else
           bif (op == 16) then
            r307 0 1
           else
            bif (op == 17) then
            r307 (minI a b) (minI a1 b1)
            else
            bif (op == 18) then
            r307 (maxI a b) (maxI a1 b1)
            else r307 all all1 := by kernel_rfl
/-! 308 : spec.l2From -/
theorem n308 (k : Nat) (t : List PV) (k1 : Int) : c308 (k + 1) t k1 =
 (lookP t k1).bind fun p1 =>
 (p1.atInt .i64 0).bind fun n1 =>
 R281 (c281 k n1) fun v1 v2 v3 =>
 L308_1 k k t v1 k1 := by kernel_rfl
theorem sL308_1 (k n : Nat) (t : List PV) (many from1 : Int) : L308_1 k (n + 1) t many from1 =
 bif decide (many > 0) then
  R308 (c308 k t (IntKind.i64.wrap (from1 - 1))) fun v1 =>
  L308_1 k n t (IntKind.i64.wrap (many - 1)) v1
 else r308 from1 := by kernel_rfl
/-! 309 : spec.l18Num -/
theorem n309 (k : Nat) (wide op a a1 b b1 : Int) : c309 (k + 1) wide op a a1 b b1 =
 R297 (c297 k wide 18446744073709551615) fun v1 =>
 bif (op == 3) then
  bif decide (a1 ≤ IntKind.u64.wrap (v1 - b1)) then
   r309 (IntKind.u64.wrap (a + b)) (IntKind.u64.wrap (a1 + b1))
  else
   bif (op == 5) then
    R332 (c332 k wide a1 b1) fun b2 =>
    bif b2 then
     r309 (IntKind.u64.wrap (a * b)) (IntKind.u64.wrap (a1 * b1))
    else
     bif (op == 4) then
      bif decide (a ≥ b1) then
       r309 (IntKind.u64.wrap (a - b1)) (IntKind.u64.wrap (a1 - b))
      else
       bif (op == 6) then
        bif decide (b > 0) then
         bif !(b1 == 0) then
          bif !(b == 0) then
           r309 (IntKind.u64.wrap (a.tdiv b1)) (IntKind.u64.wrap (a1.tdiv b))
          else none
         else none
        else
         bif (op == 7) then
          bif decide (b > 0) then
           R311 (c311 k a1 (IntKind.u64.wrap (b1 - 1))) fun v2 =>
           r309 0 v2
          else
           bif (op == 7) then
            r309 0 a1
           else
            bif (op == 12) then
            r309 0 a1
            else
            bif (op == 8) then
            R311 (c311 k a1 b1) fun v3 =>
            r309 0 v3
            else
            bif (op == 9) then
            R312 (c312 k a b) fun v4 =>
            r309 v4 v1
            else r309 0 v1
         else
          bif (op == 7) then
           r309 0 a1
          else
           bif (op == 12) then
            r309 0 a1
           else
            bif (op == 8) then
            R311 (c311 k a1 b1) fun v5 =>
            r309 0 v5
            else
            bif (op == 9) then
            R312 (c312 k a b) fun v6 =>
            r309 v6 v1
            else r309 0 v1
       else
        bif (op == 7) then
         bif decide (b > 0) then
          R311 (c311 k a1 (IntKind.u64.wrap (b1 - 1))) fun v7 =>
          r309 0 v7
         else
          bif (op == 7) then
           r309 0 a1
          else
           bif (op == 12) then
            r309 0 a1
           else
            bif (op == 8) then
            R311 (c311 k a1 b1) fun v8 =>
            r309 0 v8
            else
            bif (op == 9) then
            R312 (c312 k a b) fun v9 =>
            r309 v9 v1
            else r309 0 v1
        else
         bif (op == 7) then
          r309 0 a1
         else
          bif (op == 12) then
           r309 0 a1
          else
           bif (op == 8) then
            R311 (c311 k a1 b1) fun v10 =>
            r309 0 v10
           else
            bif (op == 9) then
            R312 (c312 k a b) fun v11 =>
            r309 v11 v1
            else r309 0 v1
     else
      bif (op == 6) then
       bif decide (b > 0) then
        bif !(b1 == 0) then
         bif !(b == 0) then
          r309 (IntKind.u64.wrap (a.tdiv b1)) (IntKind.u64.wrap (a1.tdiv b))
         else none
        else none
       else
        bif (op == 7) then
         bif decide (b > 0) then
          R311 (c311 k a1 (IntKind.u64.wrap (b1 - 1))) fun v12 =>
          r309 0 v12
         else
          bif (op == 7) then
           r309 0 a1
          else
           bif (op == 12) then
            r309 0 a1
           else
            bif (op == 8) then
            R311 (c311 k a1 b1) fun v13 =>
            r309 0 v13
            else
            bif (op == 9) then
            R312 (c312 k a b) fun v14 =>
            r309 v14 v1
            else r309 0 v1
        else
         bif (op == 7) then
          r309 0 a1
         else
          bif (op == 12) then
           r309 0 a1
          else
           bif (op == 8) then
            R311 (c311 k a1 b1) fun v15 =>
            r309 0 v15
           else
            bif (op == 9) then
            R312 (c312 k a b) fun v16 =>
            r309 v16 v1
            else r309 0 v1
      else
       bif (op == 7) then
        bif decide (b > 0) then
         R311 (c311 k a1 (IntKind.u64.wrap (b1 - 1))) fun v17 =>
         r309 0 v17
        else
         bif (op == 7) then
          r309 0 a1
         else
          bif (op == 12) then
           r309 0 a1
          else
           bif (op == 8) then
            R311 (c311 k a1 b1) fun v18 =>
            r309 0 v18
           else
            bif (op == 9) then
            R312 (c312 k a b) fun v19 =>
            r309 v19 v1
            else r309 0 v1
       else
        bif (op == 7) then
         r309 0 a1
        else
         bif (op == 12) then
          r309 0 a1
         else
          bif (op == 8) then
           R311 (c311 k a1 b1) fun v20 =>
           r309 0 v20
          else
           bif (op == 9) then
            R312 (c312 k a b) fun v21 =>
            r309 v21 v1
           else r309 0 v1
   else
    bif (op == 4) then
     bif decide (a ≥ b1) then
      r309 (IntKind.u64.wrap (a - b1)) (IntKind.u64.wrap (a1 - b))
     else
      bif (op == 6) then
       bif decide (b > 0) then
        bif !(b1 == 0) then
         bif !(b == 0) then
          r309 (IntKind.u64.wrap (a.tdiv b1)) (IntKind.u64.wrap (a1.tdiv b))
         else none
        else none
       else
        bif (op == 7) then
         bif decide (b > 0) then
          R311 (c311 k a1 (IntKind.u64.wrap (b1 - 1))) fun v22 =>
          r309 0 v22
         else
          bif (op == 7) then
           r309 0 a1
          else
           bif (op == 12) then
            r309 0 a1
           else
            bif (op == 8) then
            R311 (c311 k a1 b1) fun v23 =>
            r309 0 v23
            else
            bif (op == 9) then
            R312 (c312 k a b) fun v24 =>
            r309 v24 v1
            else r309 0 v1
        else
         bif (op == 7) then
          r309 0 a1
         else
          bif (op == 12) then
           r309 0 a1
          else
           bif (op == 8) then
            R311 (c311 k a1 b1) fun v25 =>
            r309 0 v25
           else
            bif (op == 9) then
            R312 (c312 k a b) fun v26 =>
            r309 v26 v1
            else r309 0 v1
      else
       bif (op == 7) then
        bif decide (b > 0) then
         R311 (c311 k a1 (IntKind.u64.wrap (b1 - 1))) fun v27 =>
         r309 0 v27
        else
         bif (op == 7) then
          r309 0 a1
         else
          bif (op == 12) then
           r309 0 a1
          else
           bif (op == 8) then
            R311 (c311 k a1 b1) fun v28 =>
            r309 0 v28
           else
            bif (op == 9) then
            R312 (c312 k a b) fun v29 =>
            r309 v29 v1
            else r309 0 v1
       else
        bif (op == 7) then
         r309 0 a1
        else
         bif (op == 12) then
          r309 0 a1
         else
          bif (op == 8) then
           R311 (c311 k a1 b1) fun v30 =>
           r309 0 v30
          else
           bif (op == 9) then
            R312 (c312 k a b) fun v31 =>
            r309 v31 v1
           else r309 0 v1
    else
     bif (op == 6) then
      bif decide (b > 0) then
       bif !(b1 == 0) then
        bif !(b == 0) then
         r309 (IntKind.u64.wrap (a.tdiv b1)) (IntKind.u64.wrap (a1.tdiv b))
        else none
       else none
      else
       bif (op == 7) then
        bif decide (b > 0) then
         R311 (c311 k a1 (IntKind.u64.wrap (b1 - 1))) fun v32 =>
         r309 0 v32
        else
         bif (op == 7) then
          r309 0 a1
         else
          bif (op == 12) then
           r309 0 a1
          else
           bif (op == 8) then
            R311 (c311 k a1 b1) fun v33 =>
            r309 0 v33
           else
            bif (op == 9) then
            R312 (c312 k a b) fun v34 =>
            r309 v34 v1
            else r309 0 v1
       else
        bif (op == 7) then
         r309 0 a1
        else
         bif (op == 12) then
          r309 0 a1
         else
          bif (op == 8) then
           R311 (c311 k a1 b1) fun v35 =>
           r309 0 v35
          else
           bif (op == 9) then
            R312 (c312 k a b) fun v36 =>
            r309 v36 v1
           else r309 0 v1
     else
      bif (op == 7) then
       bif decide (b > 0) then
        R311 (c311 k a1 (IntKind.u64.wrap (b1 - 1))) fun v37 =>
        r309 0 v37
       else
        bif (op == 7) then
         r309 0 a1
        else
         bif (op == 12) then
          r309 0 a1
         else
          bif (op == 8) then
           R311 (c311 k a1 b1) fun v38 =>
           r309 0 v38
          else
           bif (op == 9) then
            R312 (c312 k a b) fun v39 =>
            r309 v39 v1
           else r309 0 v1
      else
       bif (op == 7) then
        r309 0 a1
       else
        bif (op == 12) then
         r309 0 a1
        else
         bif (op == 8) then
          R311 (c311 k a1 b1) fun v40 =>
          r309 0 v40
         else
          bif (op == 9) then
           R312 (c312 k a b) fun v41 =>
           r309 v41 v1
          else r309 0 v1
 else
  bif (op == 5) then
   R332 (c332 k wide a1 b1) fun b3 =>
   bif b3 then
    r309 (IntKind.u64.wrap (a * b)) (IntKind.u64.wrap (a1 * b1))
   else
    bif (op == 4) then
     bif decide (a ≥ b1) then
      r309 (IntKind.u64.wrap (a - b1)) (IntKind.u64.wrap (a1 - b))
     else
      bif (op == 6) then
       bif decide (b > 0) then
        bif !(b1 == 0) then
         bif !(b == 0) then
          r309 (IntKind.u64.wrap (a.tdiv b1)) (IntKind.u64.wrap (a1.tdiv b))
         else none
        else none
       else
        bif (op == 7) then
         bif decide (b > 0) then
          R311 (c311 k a1 (IntKind.u64.wrap (b1 - 1))) fun v42 =>
          r309 0 v42
         else
          bif (op == 7) then
           r309 0 a1
          else
           bif (op == 12) then
            r309 0 a1
           else
            bif (op == 8) then
            R311 (c311 k a1 b1) fun v43 =>
            r309 0 v43
            else
            bif (op == 9) then
            R312 (c312 k a b) fun v44 =>
            r309 v44 v1
            else r309 0 v1
        else
         bif (op == 7) then
          r309 0 a1
         else
          bif (op == 12) then
           r309 0 a1
          else
           bif (op == 8) then
            R311 (c311 k a1 b1) fun v45 =>
            r309 0 v45
           else
            bif (op == 9) then
            R312 (c312 k a b) fun v46 =>
            r309 v46 v1
            else r309 0 v1
      else
       bif (op == 7) then
        bif decide (b > 0) then
         R311 (c311 k a1 (IntKind.u64.wrap (b1 - 1))) fun v47 =>
         r309 0 v47
        else
         bif (op == 7) then
          r309 0 a1
         else
          bif (op == 12) then
           r309 0 a1
          else
           bif (op == 8) then
            R311 (c311 k a1 b1) fun v48 =>
            r309 0 v48
           else
            bif (op == 9) then
            R312 (c312 k a b) fun v49 =>
            r309 v49 v1
            else r309 0 v1
       else
        bif (op == 7) then
         r309 0 a1
        else
         bif (op == 12) then
          r309 0 a1
         else
          bif (op == 8) then
           R311 (c311 k a1 b1) fun v50 =>
           r309 0 v50
          else
           bif (op == 9) then
            R312 (c312 k a b) fun v51 =>
            r309 v51 v1
           else r309 0 v1
    else
     bif (op == 6) then
      bif decide (b > 0) then
       bif !(b1 == 0) then
        bif !(b == 0) then
         r309 (IntKind.u64.wrap (a.tdiv b1)) (IntKind.u64.wrap (a1.tdiv b))
        else none
       else none
      else
       bif (op == 7) then
        bif decide (b > 0) then
         R311 (c311 k a1 (IntKind.u64.wrap (b1 - 1))) fun v52 =>
         r309 0 v52
        else
         bif (op == 7) then
          r309 0 a1
         else
          bif (op == 12) then
           r309 0 a1
          else
           bif (op == 8) then
            R311 (c311 k a1 b1) fun v53 =>
            r309 0 v53
           else
            bif (op == 9) then
            R312 (c312 k a b) fun v54 =>
            r309 v54 v1
            else r309 0 v1
       else
        bif (op == 7) then
         r309 0 a1
        else
         bif (op == 12) then
          r309 0 a1
         else
          bif (op == 8) then
           R311 (c311 k a1 b1) fun v55 =>
           r309 0 v55
          else
           bif (op == 9) then
            R312 (c312 k a b) fun v56 =>
            r309 v56 v1
           else r309 0 v1
     else
      bif (op == 7) then
       bif decide (b > 0) then
        R311 (c311 k a1 (IntKind.u64.wrap (b1 - 1))) fun v57 =>
        r309 0 v57
       else
        bif (op == 7) then
         r309 0 a1
        else
         bif (op == 12) then
          r309 0 a1
         else
          bif (op == 8) then
           R311 (c311 k a1 b1) fun v58 =>
           r309 0 v58
          else
           bif (op == 9) then
            R312 (c312 k a b) fun v59 =>
            r309 v59 v1
           else r309 0 v1
      else
       bif (op == 7) then
        r309 0 a1
       else
        bif (op == 12) then
         r309 0 a1
        else
         bif (op == 8) then
          R311 (c311 k a1 b1) fun v60 =>
          r309 0 v60
         else
          bif (op == 9) then
           R312 (c312 k a b) fun v61 =>
           r309 v61 v1
          else r309 0 v1
  else
   bif (op == 4) then
    bif decide (a ≥ b1) then
     r309 (IntKind.u64.wrap (a - b1)) (IntKind.u64.wrap (a1 - b))
    else
     bif (op == 6) then
      bif decide (b > 0) then
       bif !(b1 == 0) then
        bif !(b == 0) then
         r309 (IntKind.u64.wrap (a.tdiv b1)) (IntKind.u64.wrap (a1.tdiv b))
        else none
       else none
      else
       bif (op == 7) then
        bif decide (b > 0) then
         R311 (c311 k a1 (IntKind.u64.wrap (b1 - 1))) fun v62 =>
         r309 0 v62
        else
         bif (op == 7) then
          r309 0 a1
         else
          bif (op == 12) then
           r309 0 a1
          else
           bif (op == 8) then
            R311 (c311 k a1 b1) fun v63 =>
            r309 0 v63
           else
            bif (op == 9) then
            R312 (c312 k a b) fun v64 =>
            r309 v64 v1
            else r309 0 v1
       else
        bif (op == 7) then
         r309 0 a1
        else
         bif (op == 12) then
          r309 0 a1
         else
          bif (op == 8) then
           R311 (c311 k a1 b1) fun v65 =>
           r309 0 v65
          else
           bif (op == 9) then
            R312 (c312 k a b) fun v66 =>
            r309 v66 v1
           else r309 0 v1
     else
      bif (op == 7) then
       bif decide (b > 0) then
        R311 (c311 k a1 (IntKind.u64.wrap (b1 - 1))) fun v67 =>
        r309 0 v67
       else
        bif (op == 7) then
         r309 0 a1
        else
         bif (op == 12) then
          r309 0 a1
         else
          bif (op == 8) then
           R311 (c311 k a1 b1) fun v68 =>
           r309 0 v68
          else
           bif (op == 9) then
            R312 (c312 k a b) fun v69 =>
            r309 v69 v1
           else r309 0 v1
      else
       bif (op == 7) then
        r309 0 a1
       else
        bif (op == 12) then
         r309 0 a1
        else
         bif (op == 8) then
          R311 (c311 k a1 b1) fun v70 =>
          r309 0 v70
         else
          bif (op == 9) then
           R312 (c312 k a b) fun v71 =>
           r309 v71 v1
          else r309 0 v1
   else
    bif (op == 6) then
     bif decide (b > 0) then
      bif !(b1 == 0) then
       bif !(b == 0) then
        r309 (IntKind.u64.wrap (a.tdiv b1)) (IntKind.u64.wrap (a1.tdiv b))
       else none
      else none
     else
      bif (op == 7) then
       bif decide (b > 0) then
        R311 (c311 k a1 (IntKind.u64.wrap (b1 - 1))) fun v72 =>
        r309 0 v72
       else
        bif (op == 7) then
         r309 0 a1
        else
         bif (op == 12) then
          r309 0 a1
         else
          bif (op == 8) then
           R311 (c311 k a1 b1) fun v73 =>
           r309 0 v73
          else
           bif (op == 9) then
            R312 (c312 k a b) fun v74 =>
            r309 v74 v1
           else r309 0 v1
      else
       bif (op == 7) then
        r309 0 a1
       else
        bif (op == 12) then
         r309 0 a1
        else
         bif (op == 8) then
          R311 (c311 k a1 b1) fun v75 =>
          r309 0 v75
         else
          bif (op == 9) then
           R312 (c312 k a b) fun v76 =>
           r309 v76 v1
          else r309 0 v1
    else
     bif (op == 7) then
      bif decide (b > 0) then
       R311 (c311 k a1 (IntKind.u64.wrap (b1 - 1))) fun v77 =>
       r309 0 v77
      else
       bif (op == 7) then
        r309 0 a1
       else
        bif (op == 12) then
         r309 0 a1
        else
         bif (op == 8) then
          R311 (c311 k a1 b1) fun v78 =>
          r309 0 v78
         else
          bif (op == 9) then
           R312 (c312 k a b) fun v79 =>
           r309 v79 v1
          else r309 0 v1
     else
      bif (op == 7) then
       r309 0 a1
      else
       bif (op == 12) then
        r309 0 a1
       else
        bif (op == 8) then
         R311 (c311 k a1 b1) fun v80 =>
         r309 0 v80
        else
         bif (op == 9) then
          R312 (c312 k a b) fun v81 =>
          r309 v81 v1
         else r309 0 v1 := by kernel_rfl
end Go.Proofs.YtclkgblckicabaaGreat
/- Normal forms: printed by nf.py. -/
set_option linter.unusedVariables false
set_option maxRecDepth 100000
namespace Go.Proofs.YtclkgblckicabaaGreat
open Go.Dp
/-! 310 : spec.l18Ask -/
theorem n310 (k : Nat) (op a a1 b b1 : Int) : c310 (k + 1) op a a1 b b1 =
 bif (op == 14) then
  bif decide (a1 < b) then
   r310 0 0
  else
   bif decide (b1 < a) then
    r310 0 0
   else
    bif (op == 14) then
     bif (a == a1) then
      bif ((a == b) && ((a1 == b1) && true)) then
       r310 1 1
      else
       bif (op == 15) then
        bif decide (a1 < b) then
         r310 1 1
        else
         bif (op == 15) then
          bif decide (a ≥ b1) then
           r310 0 0
          else
           bif (op == 17) then
            R311 (c311 k a b) fun v1 =>
            R311 (c311 k a1 b1) fun v2 =>
            r310 v1 v2
           else
            bif (op == 18) then
            R312 (c312 k a b) fun v3 =>
            R312 (c312 k a1 b1) fun v4 =>
            r310 v3 v4
            else r310 0 1
         else
          bif (op == 17) then
           R311 (c311 k a b) fun v5 =>
           R311 (c311 k a1 b1) fun v6 =>
           r310 v5 v6
          else
           bif (op == 18) then
            R312 (c312 k a b) fun v7 =>
            R312 (c312 k a1 b1) fun v8 =>
            r310 v7 v8
           else r310 0 1
       else
        bif (op == 15) then
         bif decide (a ≥ b1) then
          r310 0 0
         else
          bif (op == 17) then
           R311 (c311 k a b) fun v9 =>
           R311 (c311 k a1 b1) fun v10 =>
           r310 v9 v10
          else
           bif (op == 18) then
            R312 (c312 k a b) fun v11 =>
            R312 (c312 k a1 b1) fun v12 =>
            r310 v11 v12
           else r310 0 1
        else
         bif (op == 17) then
          R311 (c311 k a b) fun v13 =>
          R311 (c311 k a1 b1) fun v14 =>
          r310 v13 v14
         else
          bif (op == 18) then
           R312 (c312 k a b) fun v15 =>
           R312 (c312 k a1 b1) fun v16 =>
           r310 v15 v16
          else r310 0 1
     else
      bif (op == 15) then
       bif decide (a1 < b) then
        r310 1 1
       else
        bif (op == 15) then
         bif decide (a ≥ b1) then
          r310 0 0
         else
          bif (op == 17) then
           R311 (c311 k a b) fun v17 =>
           R311 (c311 k a1 b1) fun v18 =>
           r310 v17 v18
          else
           bif (op == 18) then
            R312 (c312 k a b) fun v19 =>
            R312 (c312 k a1 b1) fun v20 =>
            r310 v19 v20
           else r310 0 1
        else
         bif (op == 17) then
          R311 (c311 k a b) fun v21 =>
          R311 (c311 k a1 b1) fun v22 =>
          r310 v21 v22
         else
          bif (op == 18) then
           R312 (c312 k a b) fun v23 =>
           R312 (c312 k a1 b1) fun v24 =>
           r310 v23 v24
          else r310 0 1
      else
       bif (op == 15) then
        bif decide (a ≥ b1) then
         r310 0 0
        else
         bif (op == 17) then
          R311 (c311 k a b) fun v25 =>
          R311 (c311 k a1 b1) fun v26 =>
          r310 v25 v26
         else
          bif (op == 18) then
           R312 (c312 k a b) fun v27 =>
           R312 (c312 k a1 b1) fun v28 =>
           r310 v27 v28
          else r310 0 1
       else
        bif (op == 17) then
         R311 (c311 k a b) fun v29 =>
         R311 (c311 k a1 b1) fun v30 =>
         r310 v29 v30
        else
         bif (op == 18) then
          R312 (c312 k a b) fun v31 =>
          R312 (c312 k a1 b1) fun v32 =>
          r310 v31 v32
         else r310 0 1
    else
     bif (op == 15) then
      bif decide (a1 < b) then
       r310 1 1
      else
       bif (op == 15) then
        bif decide (a ≥ b1) then
         r310 0 0
        else
         bif (op == 17) then
          R311 (c311 k a b) fun v33 =>
          R311 (c311 k a1 b1) fun v34 =>
          r310 v33 v34
         else
          bif (op == 18) then
           R312 (c312 k a b) fun v35 =>
           R312 (c312 k a1 b1) fun v36 =>
           r310 v35 v36
          else r310 0 1
       else
        bif (op == 17) then
         R311 (c311 k a b) fun v37 =>
         R311 (c311 k a1 b1) fun v38 =>
         r310 v37 v38
        else
         bif (op == 18) then
          R312 (c312 k a b) fun v39 =>
          R312 (c312 k a1 b1) fun v40 =>
          r310 v39 v40
         else r310 0 1
     else
      bif (op == 15) then
       bif decide (a ≥ b1) then
        r310 0 0
       else
        bif (op == 17) then
         R311 (c311 k a b) fun v41 =>
         R311 (c311 k a1 b1) fun v42 =>
         r310 v41 v42
        else
         bif (op == 18) then
          R312 (c312 k a b) fun v43 =>
          R312 (c312 k a1 b1) fun v44 =>
          r310 v43 v44
         else r310 0 1
      else
       bif (op == 17) then
        R311 (c311 k a b) fun v45 =>
        R311 (c311 k a1 b1) fun v46 =>
        r310 v45 v46
       else
        bif (op == 18) then
         R312 (c312 k a b) fun v47 =>
         R312 (c312 k a1 b1) fun v48 =>
         r310 v47 v48
        else r310 0 1
 else
  bif (op == 14) then
   bif (a == a1) then
    bif ((a == b) && ((a1 == b1) && true)) then
     r310 1 1
    else
     bif (op == 15) then
      bif decide (a1 < b) then
       r310 1 1
      else
       bif (op == 15) then
        bif decide (a ≥ b1) then
         r310 0 0
        else
         bif (op == 17) then
          R311 (c311 k a b) fun v49 =>
          R311 (c311 k a1 b1) fun v50 =>
          r310 v49 v50
         else
          bif (op == 18) then
           R312 (c312 k a b) fun v51 =>
           R312 (c312 k a1 b1) fun v52 =>
           r310 v51 v52
          else r310 0 1
       else
        bif (op == 17) then
         R311 (c311 k a b) fun v53 =>
         R311 (c311 k a1 b1) fun v54 =>
         r310 v53 v54
        else
         bif (op == 18) then
          R312 (c312 k a b) fun v55 =>
          R312 (c312 k a1 b1) fun v56 =>
          r310 v55 v56
         else r310 0 1
     else
      bif (op == 15) then
       bif decide (a ≥ b1) then
        r310 0 0
       else
        bif (op == 17) then
         R311 (c311 k a b) fun v57 =>
         R311 (c311 k a1 b1) fun v58 =>
         r310 v57 v58
        else
         bif (op == 18) then
          R312 (c312 k a b) fun v59 =>
          R312 (c312 k a1 b1) fun v60 =>
          r310 v59 v60
         else r310 0 1
      else
       bif (op == 17) then
        R311 (c311 k a b) fun v61 =>
        R311 (c311 k a1 b1) fun v62 =>
        r310 v61 v62
       else
        bif (op == 18) then
         R312 (c312 k a b) fun v63 =>
         R312 (c312 k a1 b1) fun v64 =>
         r310 v63 v64
        else r310 0 1
   else
    bif (op == 15) then
     bif decide (a1 < b) then
      r310 1 1
     else
      bif (op == 15) then
       bif decide (a ≥ b1) then
        r310 0 0
       else
        bif (op == 17) then
         R311 (c311 k a b) fun v65 =>
         R311 (c311 k a1 b1) fun v66 =>
         r310 v65 v66
        else
         bif (op == 18) then
          R312 (c312 k a b) fun v67 =>
          R312 (c312 k a1 b1) fun v68 =>
          r310 v67 v68
         else r310 0 1
      else
       bif (op == 17) then
        R311 (c311 k a b) fun v69 =>
        R311 (c311 k a1 b1) fun v70 =>
        r310 v69 v70
       else
        bif (op == 18) then
         R312 (c312 k a b) fun v71 =>
         R312 (c312 k a1 b1) fun v72 =>
         r310 v71 v72
        else r310 0 1
    else
     bif (op == 15) then
      bif decide (a ≥ b1) then
       r310 0 0
      else
       bif (op == 17) then
        R311 (c311 k a b) fun v73 =>
        R311 (c311 k a1 b1) fun v74 =>
        r310 v73 v74
       else
        bif (op == 18) then
         R312 (c312 k a b) fun v75 =>
         R312 (c312 k a1 b1) fun v76 =>
         r310 v75 v76
        else r310 0 1
     else
      bif (op == 17) then
       R311 (c311 k a b) fun v77 =>
       R311 (c311 k a1 b1) fun v78 =>
       r310 v77 v78
      else
       bif (op == 18) then
        R312 (c312 k a b) fun v79 =>
        R312 (c312 k a1 b1) fun v80 =>
        r310 v79 v80
       else r310 0 1
  else
   bif (op == 15) then
    bif decide (a1 < b) then
     r310 1 1
    else
     bif (op == 15) then
      bif decide (a ≥ b1) then
       r310 0 0
      else
       bif (op == 17) then
        R311 (c311 k a b) fun v81 =>
        R311 (c311 k a1 b1) fun v82 =>
        r310 v81 v82
       else
        bif (op == 18) then
         R312 (c312 k a b) fun v83 =>
         R312 (c312 k a1 b1) fun v84 =>
         r310 v83 v84
        else r310 0 1
     else
      bif (op == 17) then
       R311 (c311 k a b) fun v85 =>
       R311 (c311 k a1 b1) fun v86 =>
       r310 v85 v86
      else
       bif (op == 18) then
        R312 (c312 k a b) fun v87 =>
        R312 (c312 k a1 b1) fun v88 =>
        r310 v87 v88
       else r310 0 1
   else
    bif (op == 15) then
     bif decide (a ≥ b1) then
      r310 0 0
     else
      bif (op == 17) then
       R311 (c311 k a b) fun v89 =>
       R311 (c311 k a1 b1) fun v90 =>
       r310 v89 v90
      else
       bif (op == 18) then
        R312 (c312 k a b) fun v91 =>
        R312 (c312 k a1 b1) fun v92 =>
        r310 v91 v92
       else r310 0 1
    else
     bif (op == 17) then
      R311 (c311 k a b) fun v93 =>
      R311 (c311 k a1 b1) fun v94 =>
      r310 v93 v94
     else
      bif (op == 18) then
       R312 (c312 k a b) fun v95 =>
       R312 (c312 k a1 b1) fun v96 =>
       r310 v95 v96
      else r310 0 1 := by kernel_rfl
/-! 311 : spec.l18Least -/
theorem n311 (k : Nat) (a b : Int) : c311 (k + 1) a b =
 bif decide (a < b) then
  r311 a
 else r311 b := by kernel_rfl
/-! 312 : spec.l18Most -/
theorem n312 (k : Nat) (a b : Int) : c312 (k + 1) a b =
 bif decide (a > b) then
  r312 a
 else r312 b := by kernel_rfl
/-! 313 : impl.Span] -/
theorem n313f244 (k : Nat) (qs : List PV) (n1 : Int) : c313f244 (k + 1) qs n1 =
 L313f244_1 k k qs n1 (qs.length : Int) 0 := by kernel_rfl
theorem sL313f244_1 (k n : Nat) (qs : List PV) (n1 t7 t8 : Int) : L313f244_1 k (n + 1) qs n1 t7 t8 =
 bif decide (t8 < t7) then
  (lookP qs t8).bind fun p1 =>
  bif p1.shp 2 then
   (p1.atInt .u64 0).bind fun n2 =>
   (p1.atInt .u64 1).bind fun n3 =>
   R244 (c244 k n2 n3 n1) fun b1 =>
   bif b1 then
    r313f244 t8
   else L313f244_1 k n qs n1 t7 (IntKind.i64.wrap (t8 + 1))
  else none
 else r313f244 (-1) := by kernel_rfl
/-! 314 : slices.IndexFunc[[]uint64,uint64] -/
theorem n314f248 (k : Nat) (qs : List PV) (n1 : Int) : c314f248 (k + 1) qs n1 =
 L314f248_1 k k qs (qs.length : Int) 0 n1 := by kernel_rfl
theorem sL314f248_1 (k n : Nat) (qs : List PV) (t7 t8 n1 : Int) : L314f248_1 k (n + 1) qs t7 t8 n1 =
 bif decide (t8 < t7) then
  (lookP qs t8).bind fun p1 =>
  (p1.atInt .u64 0).bind fun n2 =>
  R248 (c248 k n2 n1) fun v1 b1 =>
  bif b1 then
   r314f248 v1 t8
  else L314f248_1 k n qs t7 (IntKind.i64.wrap (t8 + 1)) v1
 else r314f248 n1 (-1) := by kernel_rfl
/-! 315 : spec.l1Cur).long -/
theorem n315 (k : Nat) (l : List PV) (n1 n11 : Int) : c315 (k + 1) l n1 n11 =
 L315_1 k k 0 0 l n1 n11 := by kernel_rfl
theorem sL315_1 (k n : Nat) (n1 i : Int) (l : List PV) (n11 n12 : Int) : L315_1 k (n + 1) n1 i l n11 n12 =
 bif decide (i < 8) then
  R250 (c250 k l n11 n12) fun l1 v1 v2 v3 =>
  L315_1 k n (bitsOp .or .u64 (shlI .u64 n1 8) (IntKind.u64.wrap v3)) (IntKind.i64.wrap (i + 1)) l1 v1 v2
 else r315 l n11 n12 n1 := by kernel_rfl
/-! 316 : spec.l1Both -/
theorem n316 (k : Nat) (wide a b : Int) : c316 (k + 1) wide a b =
 R253 (c253 k wide a) fun b1 =>
 bif b1 then
  R253 (c253 k wide b) fun b2 =>
  r316 b2
 else r316 false := by kernel_rfl
/-! 326 : impl.areWords -/
theorem n326 (k : Nat) (wide a b : Int) : c326 (k + 1) wide a b =
 R249 (c249 k wide a) fun b1 =>
 bif b1 then
  R249 (c249 k wide b) fun b2 =>
  r326 b2
 else r326 false := by kernel_rfl
/-! 327 : bits.Div64 -/
theorem n327 (k : Nat) (hi lo y : Int) : c327 (k + 1) hi lo y =
 bif (y == 0) then
  none
 else
  bif decide (y ≤ hi) then
   none
  else
   bif (hi == 0) then
    bif !(y == 0) then
     bif !(y == 0) then
      r327 (IntKind.u64.wrap (lo.tdiv y)) (lo.tmod y)
     else none
    else none
   else
    R351 (c351 k y) fun v1 =>
    bif !decide (IntKind.u64.wrap v1 < 0) then
     bif !decide (IntKind.u64.wrap v1 < 0) then
      bif !decide (IntKind.u64.wrap (64 - (IntKind.u64.wrap v1)) < 0) then
       bif !decide (IntKind.u64.wrap v1 < 0) then
        bif !(shrI .u64 (shlI .u64 y (IntKind.u64.wrap v1)) 32 == 0) then
         L327_1 k k (shlI .u64 y (IntKind.u64.wrap v1)) (IntKind.u64.wrap v1) (shrI .u64 (shlI .u64 y (IntKind.u64.wrap v1)) 32) (bitsOp .and .u64 (shlI .u64 y (IntKind.u64.wrap v1)) 4294967295) (bitsOp .or .u64 (shlI .u64 hi (IntKind.u64.wrap v1)) (shrI .u64 lo (IntKind.u64.wrap (64 - (IntKind.u64.wrap v1))))) (shrI .u64 (shlI .u64 lo (IntKind.u64.wrap v1)) 32) (bitsOp .and .u64 (shlI .u64 lo (IntKind.u64.wrap v1)) 4294967295) (IntKind.u64.wrap ((bitsOp .or .u64 (shlI .u64 hi (IntKind.u64.wrap v1)) (shrI .u64 lo (IntKind.u64.wrap (64 - (IntKind.u64.wrap v1))))).tdiv (shrI .u64 (shlI .u64 y (IntKind.u64.wrap v1)) 32))) (IntKind.u64.wrap ((bitsOp .or .u64 (shlI .u64 hi (IntKind.u64.wrap v1)) (shrI .u64 lo (IntKind.u64.wrap (64 - (IntKind.u64.wrap v1))))) - (IntKind.u64.wrap ((IntKind.u64.wrap ((bitsOp .or .u64 (shlI .u64 hi (IntKind.u64.wrap v1)) (shrI .u64 lo (IntKind.u64.wrap (64 - (IntKind.u64.wrap v1))))).tdiv (shrI .u64 (shlI .u64 y (IntKind.u64.wrap v1)) 32))) * (shrI .u64 (shlI .u64 y (IntKind.u64.wrap v1)) 32)))))
        else none
       else none
      else none
     else none
    else none := by kernel_rfl
theorem sL327_1 (k n : Nat) (y qs yn1 yn0 un32 un1 un0 q1 rhat : Int) : L327_1 k (n + 1) y qs yn1 yn0 un32 un1 un0 q1 rhat =
 bif decide (q1 ≥ 4294967296) then
  bif decide (IntKind.u64.wrap (rhat + yn1) ≥ 4294967296) then
   bif !(yn1 == 0) then
    L327_2 k k y qs yn1 yn0 un0 (IntKind.u64.wrap (q1 - 1)) (IntKind.u64.wrap ((IntKind.u64.wrap ((IntKind.u64.wrap ((IntKind.u64.wrap (un32 * 4294967296)) + un1)) - (IntKind.u64.wrap ((IntKind.u64.wrap (q1 - 1)) * y)))) - (IntKind.u64.wrap ((IntKind.u64.wrap ((IntKind.u64.wrap ((IntKind.u64.wrap ((IntKind.u64.wrap (un32 * 4294967296)) + un1)) - (IntKind.u64.wrap ((IntKind.u64.wrap (q1 - 1)) * y)))).tdiv yn1)) * yn1)))) (IntKind.u64.wrap ((IntKind.u64.wrap ((IntKind.u64.wrap (un32 * 4294967296)) + un1)) - (IntKind.u64.wrap ((IntKind.u64.wrap (q1 - 1)) * y)))) (IntKind.u64.wrap ((IntKind.u64.wrap ((IntKind.u64.wrap ((IntKind.u64.wrap (un32 * 4294967296)) + un1)) - (IntKind.u64.wrap ((IntKind.u64.wrap (q1 - 1)) * y)))).tdiv yn1))
   else none
  else L327_1 k n y qs yn1 yn0 un32 un1 un0 (IntKind.u64.wrap (q1 - 1)) (IntKind.u64.wrap (rhat + yn1))
 else
  bif decide (IntKind.u64.wrap (q1 * yn0) > IntKind.u64.wrap ((IntKind.u64.wrap (4294967296 * rhat)) + un1)) then
   bif decide (IntKind.u64.wrap (rhat + yn1) ≥ 4294967296) then
    bif !(yn1 == 0) then
     L327_2 k k y qs yn1 yn0 un0 (IntKind.u64.wrap (q1 - 1)) (IntKind.u64.wrap ((IntKind.u64.wrap ((IntKind.u64.wrap ((IntKind.u64.wrap (un32 * 4294967296)) + un1)) - (IntKind.u64.wrap ((IntKind.u64.wrap (q1 - 1)) * y)))) - (IntKind.u64.wrap ((IntKind.u64.wrap ((IntKind.u64.wrap ((IntKind.u64.wrap ((IntKind.u64.wrap (un32 * 4294967296)) + un1)) - (IntKind.u64.wrap ((IntKind.u64.wrap (q1 - 1)) * y)))).tdiv yn1)) * yn1)))) (IntKind.u64.wrap ((IntKind.u64.wrap ((IntKind.u64.wrap (un32 * 4294967296)) + un1)) - (IntKind.u64.wrap ((IntKind.u64.wrap (q1 - 1)) * y)))) (IntKind.u64.wrap ((IntKind.u64.wrap ((IntKind.u64.wrap ((IntKind.u64.wrap (un32 * 4294967296)) + un1)) - (IntKind.u64.wrap ((IntKind.u64.wrap (q1 - 1)) * y)))).tdiv yn1))
    else none
   else L327_1 k n y qs yn1 yn0 un32 un1 un0 (IntKind.u64.wrap (q1 - 1)) (IntKind.u64.wrap (rhat + yn1))
  else
   bif !(yn1 == 0) then
    L327_2 k k y qs yn1 yn0 un0 q1 (IntKind.u64.wrap ((IntKind.u64.wrap ((IntKind.u64.wrap ((IntKind.u64.wrap (un32 * 4294967296)) + un1)) - (IntKind.u64.wrap (q1 * y)))) - (IntKind.u64.wrap ((IntKind.u64.wrap ((IntKind.u64.wrap ((IntKind.u64.wrap ((IntKind.u64.wrap (un32 * 4294967296)) + un1)) - (IntKind.u64.wrap (q1 * y)))).tdiv yn1)) * yn1)))) (IntKind.u64.wrap ((IntKind.u64.wrap ((IntKind.u64.wrap (un32 * 4294967296)) + un1)) - (IntKind.u64.wrap (q1 * y)))) (IntKind.u64.wrap ((IntKind.u64.wrap ((IntKind.u64.wrap ((IntKind.u64.wrap (un32 * 4294967296)) + un1)) - (IntKind.u64.wrap (q1 * y)))).tdiv yn1))
   else none := by kernel_rfl
theorem sL327_2 (k n : Nat) (y qs yn1 yn0 un0 q1 rhat un21 q0 : Int) : L327_2 k (n + 1) y qs yn1 yn0 un0 q1 rhat un21 q0 =
 bif decide (q0 ≥ 4294967296) then
  bif decide (IntKind.u64.wrap (rhat + yn1) ≥ 4294967296) then
   bif !decide (qs < 0) then
    r327 (IntKind.u64.wrap ((IntKind.u64.wrap (q1 * 4294967296)) + (IntKind.u64.wrap (q0 - 1)))) (shrI .u64 (IntKind.u64.wrap ((IntKind.u64.wrap ((IntKind.u64.wrap (un21 * 4294967296)) + un0)) - (IntKind.u64.wrap ((IntKind.u64.wrap (q0 - 1)) * y)))) qs)
   else none
  else L327_2 k n y qs yn1 yn0 un0 q1 (IntKind.u64.wrap (rhat + yn1)) un21 (IntKind.u64.wrap (q0 - 1))
 else
  bif decide (IntKind.u64.wrap (q0 * yn0) > IntKind.u64.wrap ((IntKind.u64.wrap (4294967296 * rhat)) + un0)) then
   bif decide (IntKind.u64.wrap (rhat + yn1) ≥ 4294967296) then
    bif !decide (qs < 0) then
     r327 (IntKind.u64.wrap ((IntKind.u64.wrap (q1 * 4294967296)) + (IntKind.u64.wrap (q0 - 1)))) (shrI .u64 (IntKind.u64.wrap ((IntKind.u64.wrap ((IntKind.u64.wrap (un21 * 4294967296)) + un0)) - (IntKind.u64.wrap ((IntKind.u64.wrap (q0 - 1)) * y)))) qs)
    else none
   else L327_2 k n y qs yn1 yn0 un0 q1 (IntKind.u64.wrap (rhat + yn1)) un21 (IntKind.u64.wrap (q0 - 1))
  else
   bif !decide (qs < 0) then
    r327 (IntKind.u64.wrap ((IntKind.u64.wrap (q1 * 4294967296)) + q0)) (shrI .u64 (IntKind.u64.wrap ((IntKind.u64.wrap ((IntKind.u64.wrap (un21 * 4294967296)) + un0)) - (IntKind.u64.wrap (q0 * y)))) qs)
   else none := by kernel_rfl
/-! 328 : impl.sumSpan -/
theorem n328 (k : Nat) (all all1 a a1 b b1 : Int) : c328 (k + 1) all all1 a a1 b b1 =
 bif decide ((0 : Int) ≤ a1) && decide ((0 : Int) ≤ b1) && true && true then
  bif ((a1 + b1 + 0) / 18446744073709551616 == 0) then
   bif decide ((a1 + b1 + 0) % 18446744073709551616 ≤ all1) then
    r328 (IntKind.u64.wrap (a + b)) ((a1 + b1 + 0) % 18446744073709551616)
   else r328 all all1
  else r328 all all1
 else none := by kernel_rfl
/-! 329 : impl.productSpan -/
theorem n329 (k : Nat) (all all1 a a1 b b1 : Int) : c329 (k + 1) all all1 a a1 b b1 =
 R350 (c350 k a1 b1) fun v1 v2 =>
 bif (v1 == 0) then
  bif decide (v2 ≤ all1) then
   r329 (IntKind.u64.wrap (a * b)) v2
  else r329 all all1
 else r329 all all1 := by kernel_rfl
/-! 330 : impl.meetSpans -/
theorem n330 (k : Nat) (a a1 b b1 : Int) : c330 (k + 1) a a1 b b1 =
 bif decide (maxI a b > minI a1 b1) then
  r330 0 0 false
 else r330 (maxI a b) (minI a1 b1) true := by kernel_rfl
/-! 331 : impl.comparison -/
theorem n331 (k : Nat) (yes no : Bool) : c331 (k + 1) yes no =
 bif yes then
  r331 1 1
 else
  bif no then
   r331 0 0
  else r331 0 1 := by kernel_rfl
/-! 332 : spec.l18Fits -/
theorem n332 (k : Nat) (wide a b : Int) : c332 (k + 1) wide a b =
 bif (b == 0) then
  r332 true
 else
  R297 (c297 k wide 18446744073709551615) fun v1 =>
  bif !(b == 0) then
   r332 (decide (a ≤ IntKind.u64.wrap (v1.tdiv b)))
  else none := by kernel_rfl
end Go.Proofs.YtclkgblckicabaaGreat
/- Normal forms: printed by nf.py. -/
set_option linter.unusedVariables false
set_option maxRecDepth 100000
namespace Go.Proofs.YtclkgblckicabaaGreat
open Go.Dp
/-! 348 : bits.Len64 -/
theorem n348 (k : Nat) (x : Int) : c348 (k + 1) x =
 bif decide (x ≥ 4294967296) then
  bif decide (shrI .u64 x 32 ≥ 65536) then
   bif decide (shrI .u64 (shrI .u64 x 32) 16 ≥ 256) then
    (byteAt ⟨#[0, 1, 2, 2, 3, 3, 3, 3, 4, 4, 4, 4, 4, 4, 4, 4, 5, 5, 5, 5, 5, 5, 5, 5, 5, 5, 5, 5, 5, 5, 5, 5, 6, 6, 6, 6, 6, 6, 6, 6, 6, 6, 6, 6, 6, 6, 6, 6, 6, 6, 6, 6, 6, 6, 6, 6, 6, 6, 6, 6, 6, 6, 6, 6, 7, 7, 7, 7, 7, 7, 7, 7, 7, 7, 7, 7, 7, 7, 7, 7, 7, 7, 7, 7, 7, 7, 7, 7, 7, 7, 7, 7, 7, 7, 7, 7, 7, 7, 7, 7, 7, 7, 7, 7, 7, 7, 7, 7, 7, 7, 7, 7, 7, 7, 7, 7, 7, 7, 7, 7, 7, 7, 7, 7, 7, 7, 7, 7, 8, 8, 8, 8, 8, 8, 8, 8, 8, 8, 8, 8, 8, 8, 8, 8, 8, 8, 8, 8, 8, 8, 8, 8, 8, 8, 8, 8, 8, 8, 8, 8, 8, 8, 8, 8, 8, 8, 8, 8, 8, 8, 8, 8, 8, 8, 8, 8, 8, 8, 8, 8, 8, 8, 8, 8, 8, 8, 8, 8, 8, 8, 8, 8, 8, 8, 8, 8, 8, 8, 8, 8, 8, 8, 8, 8, 8, 8, 8, 8, 8, 8, 8, 8, 8, 8, 8, 8, 8, 8, 8, 8, 8, 8, 8, 8, 8, 8, 8, 8, 8, 8, 8, 8, 8, 8, 8, 8, 8, 8, 8, 8, 8, 8, 8, 8, 8, 8, 8, 8, 8, 8, 8, 8, 8, 8, 8, 8]⟩ (IntKind.u8.wrap (shrI .u64 (shrI .u64 (shrI .u64 x 32) 16) 8))).bind fun b1 =>
    r348 (IntKind.i64.wrap (56 + (IntKind.i64.wrap b1)))
   else
    (byteAt ⟨#[0, 1, 2, 2, 3, 3, 3, 3, 4, 4, 4, 4, 4, 4, 4, 4, 5, 5, 5, 5, 5, 5, 5, 5, 5, 5, 5, 5, 5, 5, 5, 5, 6, 6, 6, 6, 6, 6, 6, 6, 6, 6, 6, 6, 6, 6, 6, 6, 6, 6, 6, 6, 6, 6, 6, 6, 6, 6, 6, 6, 6, 6, 6, 6, 7, 7, 7, 7, 7, 7, 7, 7, 7, 7, 7, 7, 7, 7, 7, 7, 7, 7, 7, 7, 7, 7, 7, 7, 7, 7, 7, 7, 7, 7, 7, 7, 7, 7, 7, 7, 7, 7, 7, 7, 7, 7, 7, 7, 7, 7, 7, 7, 7, 7, 7, 7, 7, 7, 7, 7, 7, 7, 7, 7, 7, 7, 7, 7, 8, 8, 8, 8, 8, 8, 8, 8, 8, 8, 8, 8, 8, 8, 8, 8, 8, 8, 8, 8, 8, 8, 8, 8, 8, 8, 8, 8, 8, 8, 8, 8, 8, 8, 8, 8, 8, 8, 8, 8, 8, 8, 8, 8, 8, 8, 8, 8, 8, 8, 8, 8, 8, 8, 8, 8, 8, 8, 8, 8, 8, 8, 8, 8, 8, 8, 8, 8, 8, 8, 8, 8, 8, 8, 8, 8, 8, 8, 8, 8, 8, 8, 8, 8, 8, 8, 8, 8, 8, 8, 8, 8, 8, 8, 8, 8, 8, 8, 8, 8, 8, 8, 8, 8, 8, 8, 8, 8, 8, 8, 8, 8, 8, 8, 8, 8, 8, 8, 8, 8, 8, 8, 8, 8, 8, 8, 8, 8]⟩ (IntKind.u8.wrap (shrI .u64 (shrI .u64 x 32) 16))).bind fun b2 =>
    r348 (IntKind.i64.wrap (48 + (IntKind.i64.wrap b2)))
  else
   bif decide (shrI .u64 x 32 ≥ 256) then
    (byteAt ⟨#[0, 1, 2, 2, 3, 3, 3, 3, 4, 4, 4, 4, 4, 4, 4, 4, 5, 5, 5, 5, 5, 5, 5, 5, 5, 5, 5, 5, 5, 5, 5, 5, 6, 6, 6, 6, 6, 6, 6, 6, 6, 6, 6, 6, 6, 6, 6, 6, 6, 6, 6, 6, 6, 6, 6, 6, 6, 6, 6, 6, 6, 6, 6, 6, 7, 7, 7, 7, 7, 7, 7, 7, 7, 7, 7, 7, 7, 7, 7, 7, 7, 7, 7, 7, 7, 7, 7, 7, 7, 7, 7, 7, 7, 7, 7, 7, 7, 7, 7, 7, 7, 7, 7, 7, 7, 7, 7, 7, 7, 7, 7, 7, 7, 7, 7, 7, 7, 7, 7, 7, 7, 7, 7, 7, 7, 7, 7, 7, 8, 8, 8, 8, 8, 8, 8, 8, 8, 8, 8, 8, 8, 8, 8, 8, 8, 8, 8, 8, 8, 8, 8, 8, 8, 8, 8, 8, 8, 8, 8, 8, 8, 8, 8, 8, 8, 8, 8, 8, 8, 8, 8, 8, 8, 8, 8, 8, 8, 8, 8, 8, 8, 8, 8, 8, 8, 8, 8, 8, 8, 8, 8, 8, 8, 8, 8, 8, 8, 8, 8, 8, 8, 8, 8, 8, 8, 8, 8, 8, 8, 8, 8, 8, 8, 8, 8, 8, 8, 8, 8, 8, 8, 8, 8, 8, 8, 8, 8, 8, 8, 8, 8, 8, 8, 8, 8, 8, 8, 8, 8, 8, 8, 8, 8, 8, 8, 8, 8, 8, 8, 8, 8, 8, 8, 8, 8, 8]⟩ (IntKind.u8.wrap (shrI .u64 (shrI .u64 x 32) 8))).bind fun b3 =>
    r348 (IntKind.i64.wrap (40 + (IntKind.i64.wrap b3)))
   else
    (byteAt ⟨#[0, 1, 2, 2, 3, 3, 3, 3, 4, 4, 4, 4, 4, 4, 4, 4, 5, 5, 5, 5, 5, 5, 5, 5, 5, 5, 5, 5, 5, 5, 5, 5, 6, 6, 6, 6, 6, 6, 6, 6, 6, 6, 6, 6, 6, 6, 6, 6, 6, 6, 6, 6, 6, 6, 6, 6, 6, 6, 6, 6, 6, 6, 6, 6, 7, 7, 7, 7, 7, 7, 7, 7, 7, 7, 7, 7, 7, 7, 7, 7, 7, 7, 7, 7, 7, 7, 7, 7, 7, 7, 7, 7, 7, 7, 7, 7, 7, 7, 7, 7, 7, 7, 7, 7, 7, 7, 7, 7, 7, 7, 7, 7, 7, 7, 7, 7, 7, 7, 7, 7, 7, 7, 7, 7, 7, 7, 7, 7, 8, 8, 8, 8, 8, 8, 8, 8, 8, 8, 8, 8, 8, 8, 8, 8, 8, 8, 8, 8, 8, 8, 8, 8, 8, 8, 8, 8, 8, 8, 8, 8, 8, 8, 8, 8, 8, 8, 8, 8, 8, 8, 8, 8, 8, 8, 8, 8, 8, 8, 8, 8, 8, 8, 8, 8, 8, 8, 8, 8, 8, 8, 8, 8, 8, 8, 8, 8, 8, 8, 8, 8, 8, 8, 8, 8, 8, 8, 8, 8, 8, 8, 8, 8, 8, 8, 8, 8, 8, 8, 8, 8, 8, 8, 8, 8, 8, 8, 8, 8, 8, 8, 8, 8, 8, 8, 8, 8, 8, 8, 8, 8, 8, 8, 8, 8, 8, 8, 8, 8, 8, 8, 8, 8, 8, 8, 8, 8]⟩ (IntKind.u8.wrap (shrI .u64 x 32))).bind fun b4 =>
    r348 (IntKind.i64.wrap (32 + (IntKind.i64.wrap b4)))
 else
  bif decide (x ≥ 65536) then
   bif decide (shrI .u64 x 16 ≥ 256) then
    (byteAt ⟨#[0, 1, 2, 2, 3, 3, 3, 3, 4, 4, 4, 4, 4, 4, 4, 4, 5, 5, 5, 5, 5, 5, 5, 5, 5, 5, 5, 5, 5, 5, 5, 5, 6, 6, 6, 6, 6, 6, 6, 6, 6, 6, 6, 6, 6, 6, 6, 6, 6, 6, 6, 6, 6, 6, 6, 6, 6, 6, 6, 6, 6, 6, 6, 6, 7, 7, 7, 7, 7, 7, 7, 7, 7, 7, 7, 7, 7, 7, 7, 7, 7, 7, 7, 7, 7, 7, 7, 7, 7, 7, 7, 7, 7, 7, 7, 7, 7, 7, 7, 7, 7, 7, 7, 7, 7, 7, 7, 7, 7, 7, 7, 7, 7, 7, 7, 7, 7, 7, 7, 7, 7, 7, 7, 7, 7, 7, 7, 7, 8, 8, 8, 8, 8, 8, 8, 8, 8, 8, 8, 8, 8, 8, 8, 8, 8, 8, 8, 8, 8, 8, 8, 8, 8, 8, 8, 8, 8, 8, 8, 8, 8, 8, 8, 8, 8, 8, 8, 8, 8, 8, 8, 8, 8, 8, 8, 8, 8, 8, 8, 8, 8, 8, 8, 8, 8, 8, 8, 8, 8, 8, 8, 8, 8, 8, 8, 8, 8, 8, 8, 8, 8, 8, 8, 8, 8, 8, 8, 8, 8, 8, 8, 8, 8, 8, 8, 8, 8, 8, 8, 8, 8, 8, 8, 8, 8, 8, 8, 8, 8, 8, 8, 8, 8, 8, 8, 8, 8, 8, 8, 8, 8, 8, 8, 8, 8, 8, 8, 8, 8, 8, 8, 8, 8, 8, 8, 8]⟩ (IntKind.u8.wrap (shrI .u64 (shrI .u64 x 16) 8))).bind fun b5 =>
    r348 (IntKind.i64.wrap (24 + (IntKind.i64.wrap b5)))
   else
    (byteAt ⟨#[0, 1, 2, 2, 3, 3, 3, 3, 4, 4, 4, 4, 4, 4, 4, 4, 5, 5, 5, 5, 5, 5, 5, 5, 5, 5, 5, 5, 5, 5, 5, 5, 6, 6, 6, 6, 6, 6, 6, 6, 6, 6, 6, 6, 6, 6, 6, 6, 6, 6, 6, 6, 6, 6, 6, 6, 6, 6, 6, 6, 6, 6, 6, 6, 7, 7, 7, 7, 7, 7, 7, 7, 7, 7, 7, 7, 7, 7, 7, 7, 7, 7, 7, 7, 7, 7, 7, 7, 7, 7, 7, 7, 7, 7, 7, 7, 7, 7, 7, 7, 7, 7, 7, 7, 7, 7, 7, 7, 7, 7, 7, 7, 7, 7, 7, 7, 7, 7, 7, 7, 7, 7, 7, 7, 7, 7, 7, 7, 8, 8, 8, 8, 8, 8, 8, 8, 8, 8, 8, 8, 8, 8, 8, 8, 8, 8, 8, 8, 8, 8, 8, 8, 8, 8, 8, 8, 8, 8, 8, 8, 8, 8, 8, 8, 8, 8, 8, 8, 8, 8, 8, 8, 8, 8, 8, 8, 8, 8, 8, 8, 8, 8, 8, 8, 8, 8, 8, 8, 8, 8, 8, 8, 8, 8, 8, 8, 8, 8, 8, 8, 8, 8, 8, 8, 8, 8, 8, 8, 8, 8, 8, 8, 8, 8, 8, 8, 8, 8, 8, 8, 8, 8, 8, 8, 8, 8, 8, 8, 8, 8, 8, 8, 8, 8, 8, 8, 8, 8, 8, 8, 8, 8, 8, 8, 8, 8, 8, 8, 8, 8, 8, 8, 8, 8, 8, 8]⟩ (IntKind.u8.wrap (shrI .u64 x 16))).bind fun b6 =>
    r348 (IntKind.i64.wrap (16 + (IntKind.i64.wrap b6)))
  else
   bif decide (x ≥ 256) then
    (byteAt ⟨#[0, 1, 2, 2, 3, 3, 3, 3, 4, 4, 4, 4, 4, 4, 4, 4, 5, 5, 5, 5, 5, 5, 5, 5, 5, 5, 5, 5, 5, 5, 5, 5, 6, 6, 6, 6, 6, 6, 6, 6, 6, 6, 6, 6, 6, 6, 6, 6, 6, 6, 6, 6, 6, 6, 6, 6, 6, 6, 6, 6, 6, 6, 6, 6, 7, 7, 7, 7, 7, 7, 7, 7, 7, 7, 7, 7, 7, 7, 7, 7, 7, 7, 7, 7, 7, 7, 7, 7, 7, 7, 7, 7, 7, 7, 7, 7, 7, 7, 7, 7, 7, 7, 7, 7, 7, 7, 7, 7, 7, 7, 7, 7, 7, 7, 7, 7, 7, 7, 7, 7, 7, 7, 7, 7, 7, 7, 7, 7, 8, 8, 8, 8, 8, 8, 8, 8, 8, 8, 8, 8, 8, 8, 8, 8, 8, 8, 8, 8, 8, 8, 8, 8, 8, 8, 8, 8, 8, 8, 8, 8, 8, 8, 8, 8, 8, 8, 8, 8, 8, 8, 8, 8, 8, 8, 8, 8, 8, 8, 8, 8, 8, 8, 8, 8, 8, 8, 8, 8, 8, 8, 8, 8, 8, 8, 8, 8, 8, 8, 8, 8, 8, 8, 8, 8, 8, 8, 8, 8, 8, 8, 8, 8, 8, 8, 8, 8, 8, 8, 8, 8, 8, 8, 8, 8, 8, 8, 8, 8, 8, 8, 8, 8, 8, 8, 8, 8, 8, 8, 8, 8, 8, 8, 8, 8, 8, 8, 8, 8, 8, 8, 8, 8, 8, 8, 8, 8]⟩ (IntKind.u8.wrap (shrI .u64 x 8))).bind fun b7 =>
    r348 (IntKind.i64.wrap (8 + (IntKind.i64.wrap b7)))
   else
    (byteAt ⟨#[0, 1, 2, 2, 3, 3, 3, 3, 4, 4, 4, 4, 4, 4, 4, 4, 5, 5, 5, 5, 5, 5, 5, 5, 5, 5, 5, 5, 5, 5, 5, 5, 6, 6, 6, 6, 6, 6, 6, 6, 6, 6, 6, 6, 6, 6, 6, 6, 6, 6, 6, 6, 6, 6, 6, 6, 6, 6, 6, 6, 6, 6, 6, 6, 7, 7, 7, 7, 7, 7, 7, 7, 7, 7, 7, 7, 7, 7, 7, 7, 7, 7, 7, 7, 7, 7, 7, 7, 7, 7, 7, 7, 7, 7, 7, 7, 7, 7, 7, 7, 7, 7, 7, 7, 7, 7, 7, 7, 7, 7, 7, 7, 7, 7, 7, 7, 7, 7, 7, 7, 7, 7, 7, 7, 7, 7, 7, 7, 8, 8, 8, 8, 8, 8, 8, 8, 8, 8, 8, 8, 8, 8, 8, 8, 8, 8, 8, 8, 8, 8, 8, 8, 8, 8, 8, 8, 8, 8, 8, 8, 8, 8, 8, 8, 8, 8, 8, 8, 8, 8, 8, 8, 8, 8, 8, 8, 8, 8, 8, 8, 8, 8, 8, 8, 8, 8, 8, 8, 8, 8, 8, 8, 8, 8, 8, 8, 8, 8, 8, 8, 8, 8, 8, 8, 8, 8, 8, 8, 8, 8, 8, 8, 8, 8, 8, 8, 8, 8, 8, 8, 8, 8, 8, 8, 8, 8, 8, 8, 8, 8, 8, 8, 8, 8, 8, 8, 8, 8, 8, 8, 8, 8, 8, 8, 8, 8, 8, 8, 8, 8, 8, 8, 8, 8, 8, 8]⟩ (IntKind.u8.wrap x)).bind fun b8 =>
    r348 (IntKind.i64.wrap (0 + (IntKind.i64.wrap b8))) := by kernel_rfl
/-! 350 : bits.Mul64 -/
theorem n350 (k : Nat) (x y : Int) : c350 (k + 1) x y =
 r350 (IntKind.u64.wrap ((IntKind.u64.wrap ((IntKind.u64.wrap ((shrI .u64 x 32) * (shrI .u64 y 32))) + (shrI .u64 (IntKind.u64.wrap ((IntKind.u64.wrap ((shrI .u64 x 32) * (bitsOp .and .u64 y 4294967295))) + (shrI .u64 (IntKind.u64.wrap ((bitsOp .and .u64 x 4294967295) * (bitsOp .and .u64 y 4294967295))) 32))) 32))) + (shrI .u64 (IntKind.u64.wrap ((bitsOp .and .u64 (IntKind.u64.wrap ((IntKind.u64.wrap ((shrI .u64 x 32) * (bitsOp .and .u64 y 4294967295))) + (shrI .u64 (IntKind.u64.wrap ((bitsOp .and .u64 x 4294967295) * (bitsOp .and .u64 y 4294967295))) 32))) 4294967295) + (IntKind.u64.wrap ((bitsOp .and .u64 x 4294967295) * (shrI .u64 y 32))))) 32))) (IntKind.u64.wrap (x * y)) := by kernel_rfl
/-! 351 : bits.LeadingZeros64 -/
theorem n351 (k : Nat) (x : Int) : c351 (k + 1) x =
 R348 (c348 k x) fun v1 =>
 r351 (IntKind.i64.wrap (64 - v1)) := by kernel_rfl
end Go.Proofs.YtclkgblckicabaaGreat
/- The draws: next, pick, one, among; cutting a word. -/
set_option linter.unusedVariables false
set_option linter.unusedSimpArgs false
set_option maxRecDepth 4000
namespace Go.Proofs.YtclkgblckicabaaGreat
open Go.Dp

structure CodeOK (bs : List Nat) : Prop where
  len : bs.length ≤ 1048576
  lt : ∀ b ∈ bs, b < 256
theorem and255 (x : Int) : 0 ≤ bitsOp .and .u64 x 255 ∧ bitsOp .and .u64 x 255 ≤ 255 := by
  have e : bitsOp .and .u64 x 255 = wi (BitVec.ofInt 64 x &&& 255#64) := by
    show IntKind.u64.wrap (((BitVec.ofInt 64 x) &&& (BitVec.ofInt 64 255)).toNat : Int) = _
    exact wrap_wi _
  rw [e]
  refine ⟨wi_nonneg _, ?_⟩
  unfold wi
  rw [BitVec.toNat_and]
  have := Nat.and_le_right (n := (BitVec.ofInt 64 x).toNat) (m := (255#64).toNat)
  have h2 : (255#64).toNat = 255 := rfl
  omega
theorem next_ok {bs : List Nat} (hc : CodeOK bs) {k : Nat} (hk : 1 ≤ k) {at' : Int} (h0 : 0 ≤ at') (h1 : at' ≤ 1000000000) (s : W) :
    ∃ s2 v, c250 k (encB bs) at' (wi s) = r250 (encB bs) (at' + 1) (wi s2) v ∧ 0 ≤ v ∧ v ≤ 255 := by
  obtain ⟨k, rfl⟩ : ∃ j, k = j + 1 := ⟨k - 1, by omega⟩
  rw [n250, i64_id (n := at' + 1) (by omega) (by omega)]
  simp only [wrapU]
  have hl := hc.len
  cases hd : decide (at' < ((encB bs).length : Int))
  · simp only [cond_false]
    cases hd2 : decide (at' + 1 ≤ ((encB bs).length : Int))
    · simp only [cond_false]
      have h3 := and255 (shrI .u64 (wi (BitVec.ofInt 64 (wi (BitVec.ofInt 64 (wi (BitVec.ofInt 64 (wi s * 6364136223846793005)) + 0)) + 1442695040888963407))) 40)
      exact ⟨_, _, rfl, by rw [i64_id (by omega) (by omega)]; exact h3⟩
    · simp only [cond_true]
      exact ⟨_, _, rfl, by omega, by omega⟩
  · simp only [cond_true]
    simp only [encB_length, decide_eq_true_eq] at hd
    have hlt : at'.toNat < bs.length := by omega
    have hlk : lookP (encB bs) at' = some (.int .u8 (bs[at'.toNat] : Int)) := by
      rw [lookP_int h0, encB_get]
      simp [hlt]
    have hb := hc.lt bs[at'.toNat] (List.getElem_mem hlt)
    rw [hlk]
    simp only [Option.bind_some, int_atInt]
    rw [i64_id (n := (bs[at'.toNat] : Int)) (by omega) (by omega)]
    cases hd2 : decide (at' + 1 ≤ ((encB bs).length : Int))
    · simp only [cond_false]
      have h3 := and255 (shrI .u64 (wi (BitVec.ofInt 64 (wi (BitVec.ofInt 64 (wi (BitVec.ofInt 64 (wi s * 6364136223846793005)) + wi (BitVec.ofInt 64 (bs[at'.toNat] : Int)))) + 1442695040888963407))) 40)
      exact ⟨_, _, rfl, by rw [i64_id (by omega) (by omega)]; exact h3⟩
    · simp only [cond_true]
      exact ⟨_, _, rfl, by omega, by omega⟩
theorem pick_ok {bs : List Nat} (hc : CodeOK bs) {k : Nat} (hk : 2 ≤ k) {at' : Int} (h0 : 0 ≤ at') (h1 : at' ≤ 999999000) (s : W) (n : Int) :
    ∃ a2 s2 v, c143 k n (encB bs) at' (wi s) = r143 (encB bs) a2 (wi s2) v ∧ at' ≤ a2 ∧ a2 ≤ at' + 2 ∧ 0 ≤ v ∧ (1 ≤ n → v < n) ∧ (n ≤ 1 → v = 0) ∧ v ≤ 65535 := by
  obtain ⟨k, rfl⟩ : ∃ j, k = j + 1 := ⟨k - 1, by omega⟩
  rw [n143]
  cases hd : decide (n ≤ 1)
  · simp only [cond_false]
    simp at hd
    obtain ⟨s2, v, h, hv0, hv1⟩ := next_ok hc (k := k) (by omega) h0 (by omega) s
    rw [h]
    simp only [R250_r]
    have hn0 : (n == 0) = false := by simp; omega
    cases hd2 : decide (n > 200)
    · simp only [cond_false, hn0, Bool.not_false, cond_true]
      have h5 := Int.tmod_lt_of_pos v (b := n) (by omega)
      have h6 := Int.tmod_nonneg n hv0
      have h7 : v.tmod n ≤ v := by rw [Int.tmod_eq_emod_of_nonneg hv0]; exact emod_le_self hv0 (by omega)
      exact ⟨_, _, _, rfl, by omega, by omega, h6, fun _ => h5, by omega, by omega⟩
    · simp only [cond_true, hn0, Bool.not_false]
      obtain ⟨s3, v3, h3, hv2, hv3⟩ := next_ok hc (k := k) (by omega) (at' := at' + 1) (by omega) (by omega) s2
      rw [h3]
      simp only [R250_r, cond_true]
      rw [i64_id (n := v * 256) (by omega) (by omega), i64_id (n := v * 256 + v3) (by omega) (by omega)]
      have h5 := Int.tmod_lt_of_pos (v * 256 + v3) (b := n) (by omega)
      have h6 := Int.tmod_nonneg n (a := v * 256 + v3) (by omega)
      have h7 : (v * 256 + v3).tmod n ≤ v * 256 + v3 := by rw [Int.tmod_eq_emod_of_nonneg (by omega)]; exact emod_le_self (by omega) (by omega)
      exact ⟨_, _, _, rfl, by omega, by omega, h6, fun _ => h5, by omega, by omega⟩
  · simp only [cond_true]
    simp at hd
    exact ⟨_, _, _, rfl, by omega, by omega, by omega, by omega, fun _ => rfl, by omega⟩
theorem one_ok {bs : List Nat} (hc : CodeOK bs) {k : Nat} (hk : 3 ≤ k) {at' : Int} (h0 : 0 ≤ at') (h1 : at' ≤ 999999000) (s : W) (n : Int) :
    ∃ a2 s2 b, c145 k n (encB bs) at' (wi s) = r145 (encB bs) a2 (wi s2) b ∧ at' ≤ a2 ∧ a2 ≤ at' + 2 := by
  obtain ⟨k, rfl⟩ : ∃ j, k = j + 1 := ⟨k - 1, by omega⟩
  obtain ⟨a2, s2, v, h, h2, h3, _⟩ := pick_ok hc (k := k) (by omega) h0 h1 s n
  rw [n145, h]
  simp only [R143_r]
  exact ⟨_, _, _, rfl, h2, h3⟩
theorem among_ok {bs : List Nat} (hc : CodeOK bs) {k : Nat} (hk : 3 ≤ k) {at' : Int} (h0 : 0 ≤ at') (h1 : at' ≤ 999999000) (s : W) (L : List Int) (hL : 1 ≤ L.length) :
    ∃ a2 s2 v, c128 k (encZ L) (encB bs) at' (wi s) = r128 (encB bs) a2 (wi s2) v ∧ at' ≤ a2 ∧ a2 ≤ at' + 2 ∧ v ∈ L := by
  obtain ⟨k, rfl⟩ : ∃ j, k = j + 1 := ⟨k - 1, by omega⟩
  obtain ⟨a2, s2, v, h, h2, h3, h4, h5, _⟩ := pick_ok hc (k := k) (by omega) h0 h1 s (L.length : Int)
  rw [n128, encZ_length, h]
  simp only [R143_r]
  have hv := h5 (by omega)
  have hlt : v.toNat < L.length := by omega
  have e : v = (v.toNat : Int) := by omega
  have hlk : lookP (encZ L) v = some (.int .i64 L[v.toNat]) := by
    rw [lookP_int h4, encZ_get]
    simp [hlt]
  rw [hlk]
  simp only [Option.bind_some, int_atInt]
  exact ⟨_, _, _, rfl, h2, h3, List.getElem_mem hlt⟩

/-! ### Cutting a word -/
def maskB (n : Nat) : W := BitVec.allOnes 64 >>> (64 - n)
theorem maskB_lsb {n : Nat} (hn : n ≤ 64) (i : Nat) : (maskB n).getLsbD i = decide (i < n) := by
  unfold maskB
  rw [BitVec.getLsbD_ushiftRight, BitVec.getLsbD_allOnes]
  by_cases h : i < n <;> simp <;> omega
theorem mask_ok {k : Nat} (hk : 1 ≤ k) {wide : Int} (h1 : 0 ≤ wide) (h2 : wide ≤ 64) : c234 k wide = r234 (wi (maskB wide.toNat)) := by
  obtain ⟨k, rfl⟩ : ∃ j, k = j + 1 := ⟨k - 1, by omega⟩
  rw [n234, i64_id (by omega) (by omega)]
  have hd : decide (64 - wide < 0) = false := by simp; omega
  simp only [hd, Bool.not_false, cond_true]
  have e : (18446744073709551615 : Int) = wi (BitVec.allOnes 64) := rfl
  rw [e, shr_wi _ (by omega)]
  have : (64 - wide).toNat = 64 - wide.toNat := by omega
  rw [this]
  rfl
theorem cut_step (a : W) (j : Nat) (hj : j < 64) : (a &&& maskB j) ||| (a &&& (1#64 <<< j)) = a &&& maskB (j + 1) := by
  apply BitVec.eq_of_getLsbD_eq
  intro i hi
  rw [BitVec.getLsbD_or, BitVec.getLsbD_and, BitVec.getLsbD_and, BitVec.getLsbD_and, maskB_lsb (by omega), maskB_lsb (by omega)]
  rw [BitVec.getLsbD_shiftLeft, BitVec.getLsbD_one]
  by_cases h1 : i < j
  · have : i < j + 1 := by omega
    simp [h1, this]
  · by_cases h2 : i = j
    · subst h2; simp; omega
    · have h3 : ¬ i < j + 1 := by omega
      have h4 : ¬ (i - j = 0) := by omega
      simp [h1, h3, h4]
theorem cutloop {wide : Int} (h2 : wide ≤ 64) (a : W) (k : Nat) : ∀ (m n : Nat) (j : Nat), (wide - j).toNat ≤ m → m < n → (j : Int) ≤ wide → L297_1 k n wide (wi a) (wi (a &&& maskB j)) (j : Int) = r297 (wi (a &&& maskB wide.toNat))
  | m, 0, j, hm, hn, hj => by omega
  | m, n + 1, j, hm, hn, hj => by
    rw [sL297_1]
    by_cases h : (j : Int) < wide
    · have hd : decide ((j : Int) < wide) = true := by simpa using h
      rw [u64_id (n := (j : Int)) (by omega) (by omega)]
      have hd2 : decide ((j : Int) < 0) = false := by simp
      have e1 : (1 : Int) = wi (1#64) := rfl
      simp only [hd, hd2, cond_true, Bool.not_false]
      rw [e1, shl_wi _ (by omega), and_wi, or_wi, ← e1, Int.toNat_natCast, cut_step a j (by omega), i64_id (by omega) (by omega)]
      have e2 : (j : Int) + 1 = ((j + 1 : Nat) : Int) := by omega
      rw [e2]
      cases m with
      | zero => omega
      | succ m => exact cutloop h2 a k m n (j + 1) (by omega) (by omega) (by omega)
    · have hd : decide ((j : Int) < wide) = false := by simpa using h
      simp only [hd, cond_false]
      have : wide.toNat = j := by omega
      rw [this]
theorem cut_ok {k : Nat} (hk : 70 ≤ k) {wide : Int} (h1 : 0 ≤ wide) (h2 : wide ≤ 64) (a : W) : c297 k wide (wi a) = r297 (wi (a &&& maskB wide.toNat)) := by
  obtain ⟨k, rfl⟩ : ∃ j, k = j + 1 := ⟨k - 1, by omega⟩
  rw [n297]
  have e0 : (0 : Int) = wi (a &&& maskB 0) := by
    have : maskB 0 = 0#64 := by rfl
    rw [this]; simp [wi]
  have := cutloop h2 a k wide.toNat k 0 (by omega) (by omega) (by omega)
  rw [← e0] at this
  exact this
end Go.Proofs.YtclkgblckicabaaGreat
/- The draws of terms. -/
set_option linter.unusedVariables false
set_option linter.unusedSimpArgs false
set_option maxRecDepth 4000
namespace Go.Proofs.YtclkgblckicabaaGreat
open Go.Dp

theorem number_ok {bs : List Nat} (hc : CodeOK bs) {wide vars : Int} (hw0 : 0 ≤ wide) (hw : wide ≤ 64) (hv : 1 ≤ vars) (hv2 : vars ≤ 100) : ∀ (d : Nat) {k : Nat} (hk : 80 + d ≤ k) (hd : d ≤ 16) {at' : Int} (h0 : 0 ≤ at') (h1 : at' + (20 * 2 ^ d : Nat) ≤ 900000000) (s : W),
    ∃ a2 s2 t, c228 k wide vars (d : Int) (encB bs) at' (wi s) = r228 (encB bs) a2 (wi s2) (encT t) ∧ at' ≤ a2 ∧ a2 ≤ at' + (20 * (2 ^ d : Nat) - 10 : Nat) ∧ 1 ≤ t.length ∧ t.length + 1 ≤ 2 ^ (d + 1)
  | 0, k, hk, hd, at', h0, h1, s => by
    obtain ⟨k, rfl⟩ : ∃ j, k = j + 1 := ⟨k - 1, by omega⟩
    rw [n228]
    have e : (((0 : Nat) : Int) == 0) = true := rfl
    simp only [e, cond_true]
    obtain ⟨a2, s2, b, h, h2, h3⟩ := one_ok hc (k := k) (by omega) h0 (by omega) s 2
    rw [h]
    simp only [R145_r]
    cases b
    · simp only [cond_false]
      obtain ⟨a3, s3, v, h, h4, h5, _⟩ := pick_ok hc (k := k) (by omega) (at' := a2) (by omega) (by omega) s2 vars
      rw [h]
      simp only [R143_r]
      rw [wrapU]
      exact ⟨a3, s3, [(2, BitVec.ofInt 64 v)], rfl, by omega, by (simp; try omega), by simp, by simp⟩
    · simp only [cond_true]
      obtain ⟨a3, s3, v, h, h4, h5, _⟩ := pick_ok hc (k := k) (by omega) (at' := a2) (by omega) (by omega) s2 9
      rw [h]
      simp only [R143_r]
      rw [wrapU, cut_ok (by omega) hw0 hw]
      simp only [R297_r]
      exact ⟨a3, s3, [(1, _)], rfl, by omega, by (simp; try omega), by simp, by simp⟩
  | d + 1, k, hk, hd, at', h0, h1, s => by
    obtain ⟨k, rfl⟩ : ∃ j, k = j + 1 := ⟨k - 1, by omega⟩
    have ih := fun (a : Int) (h0 : 0 ≤ a) (h1 : a + (20 * 2 ^ d : Nat) ≤ 900000000) (s : W) => number_ok hc hw0 hw hv hv2 d (k := k) (by omega) (by omega) h0 h1 s
    have hp : (2 : Nat) ^ d ≤ 65536 := Nat.pow_le_pow_right (n := 2) (by omega) (show d ≤ 16 by omega)
    have hp1 : 1 ≤ (2 : Nat) ^ d := Nat.one_le_two_pow
    have e2 : (2 : Nat) ^ (d + 1) = 2 * 2 ^ d := by rw [Nat.pow_succ]; omega
    have e3 : (2 : Nat) ^ (d + 1 + 1) = 4 * 2 ^ d := by rw [Nat.pow_succ, e2]; omega
    rw [e3]
    rw [e2] at h1 ⊢
    rw [n228]
    have e : (((d + 1 : Nat) : Int) == 0) = false := by (simp; try omega)
    have e1 : IntKind.i64.wrap (((d + 1 : Nat) : Int) - 1) = (d : Int) := by rw [i64_id (by omega) (by omega)]; omega
    simp only [e, cond_false, e1]
    obtain ⟨a2, s2, b, h, h2, h3⟩ := one_ok hc (k := k) (by omega) h0 (by omega) s 4
    rw [h]
    simp only [R145_r]
    cases b
    · simp only [cond_false]
      obtain ⟨a3, s3, b, h, h4, h5⟩ := one_ok hc (k := k) (by omega) (at' := a2) (by omega) (by omega) s2 7
      rw [h]
      simp only [R145_r]
      cases b
      · simp only [cond_false]
        obtain ⟨a4, s4, t, h, h6, h7, h8, h9⟩ := ih a3 (by omega) (by omega) s3
        rw [h]
        simp only [R228_r]
        obtain ⟨a5, s5, u, h, h10, h11, h12, h13⟩ := ih a4 (by omega) (by omega) s4
        rw [h]
        simp only [R228_r]
        rw [lim_ok (by (simp; try omega)) (by omega)]
        simp only [cond_true]
        obtain ⟨a6, s6, v, h, h14, h15, _⟩ := among_ok hc (k := k) (by omega) (at' := a5) (by omega) (by omega) s5 [3, 3, 3, 4, 4, 5, 8, 9, 10] (by simp)
        rw [show ([PV.int .i64 3, PV.int .i64 3, PV.int .i64 3, PV.int .i64 4, PV.int .i64 4, PV.int .i64 5, PV.int .i64 8, PV.int .i64 9, PV.int .i64 10] : List PV) = encZ [3, 3, 3, 4, 4, 5, 8, 9, 10] from rfl, h]
        simp only [R128_r]
        obtain ⟨a7, s7, b, h, h16, h17⟩ := one_ok hc (k := k) (by omega) (at' := a6) (by omega) (by omega) s6 6
        rw [h]
        simp only [R145_r]
        cases b
        · simp only [cond_false]
          rw [lim_ok (by (simp; try omega)) (by omega), take2]
          exact ⟨a7, s7, t ++ u ++ [(v, 0#64)], by simp [encT, encN, wi], by omega, by omega, by (simp; try omega), by (simp; try omega)⟩
        · simp only [cond_true]
          obtain ⟨a8, s8, v2, h, h18, h19, _⟩ := among_ok hc (k := k) (by omega) (at' := a7) (by omega) (by omega) s7 [6, 7, 11, 12] (by simp)
          rw [show ([PV.int .i64 6, PV.int .i64 7, PV.int .i64 11, PV.int .i64 12] : List PV) = encZ [6, 7, 11, 12] from rfl, h]
          simp only [R128_r]
          rw [lim_ok (by (simp; try omega)) (by omega), take2]
          exact ⟨a8, s8, t ++ u ++ [(v2, 0#64)], by simp [encT, encN, wi], by omega, by omega, by (simp; try omega), by (simp; try omega)⟩
      · simp only [cond_true]
        obtain ⟨a4, s4, t, h, h6, h7, h8, h9⟩ := ih a3 (by omega) (by omega) s3
        rw [h]
        simp only [R228_r]
        rw [lim_ok (by (simp; try omega)) (by omega), take1]
        exact ⟨a4, s4, t ++ [(13, 0#64)], by simp [encT, encN, wi], by omega, by omega, by simp, by (simp; try omega)⟩
    · simp only [cond_true]
      obtain ⟨a3, s3, b, h, h4, h5⟩ := one_ok hc (k := k) (by omega) (at' := a2) (by omega) (by omega) s2 2
      rw [h]
      simp only [R145_r]
      cases b
      · simp only [cond_false]
        obtain ⟨a4, s4, v, h, h6, h7, _⟩ := pick_ok hc (k := k) (by omega) (at' := a3) (by omega) (by omega) s3 vars
        rw [h]
        simp only [R143_r]
        rw [wrapU]
        exact ⟨a4, s4, [(2, BitVec.ofInt 64 v)], rfl, by omega, by omega, by simp, by (simp; try omega)⟩
      · simp only [cond_true]
        obtain ⟨a4, s4, v, h, h6, h7, _⟩ := pick_ok hc (k := k) (by omega) (at' := a3) (by omega) (by omega) s3 9
        rw [h]
        simp only [R143_r]
        rw [wrapU, cut_ok (by omega) hw0 hw]
        simp only [R297_r]
        exact ⟨a4, s4, [(1, _)], rfl, by omega, by omega, by simp, by (simp; try omega)⟩
theorem number_int {bs : List Nat} (hc : CodeOK bs) {wide vars : Int} (hw0 : 0 ≤ wide) (hw : wide ≤ 64) (hv : 1 ≤ vars) (hv2 : vars ≤ 100) {d : Int} (hd0 : 0 ≤ d) (hd : d ≤ 3) {k : Nat} (hk : 90 ≤ k) {at' : Int} (h0 : 0 ≤ at') (h1 : at' ≤ 800000000) (s : W) :
    ∃ a2 s2 t, c228 k wide vars d (encB bs) at' (wi s) = r228 (encB bs) a2 (wi s2) (encT t) ∧ at' ≤ a2 ∧ a2 ≤ at' + 150 ∧ 1 ≤ t.length ∧ t.length ≤ 15 ∧ (d ≤ 1 → t.length ≤ 3 ∧ a2 ≤ at' + 30) := by
  have hd2 : d.toNat ≤ 3 := by omega
  have e1 : 1 ≤ (2 : Nat) ^ d.toNat := Nat.one_le_two_pow
  have e2 : (2 : Nat) ^ d.toNat ≤ 2 ^ 3 := Nat.pow_le_pow_right (by omega) hd2
  have e3 : (2 : Nat) ^ (d.toNat + 1) = 2 * 2 ^ d.toNat := by rw [Nat.pow_succ]; omega
  obtain ⟨a2, s2, t, h, h2, h3, h4, h5⟩ := number_ok hc hw0 hw hv hv2 d.toNat (k := k) (by omega) (by omega) (at' := at') h0 (by omega) s
  rw [Int.toNat_of_nonneg hd0] at h
  refine ⟨a2, s2, t, h, h2, by omega, h4, by omega, fun hd3 => ?_⟩
  have e4 : (2 : Nat) ^ d.toNat ≤ 2 ^ 1 := Nat.pow_le_pow_right (by omega) (by omega)
  omega
theorem asked_base {bs : List Nat} (hc : CodeOK bs) {wide vars : Int} (hw0 : 0 ≤ wide) (hw : wide ≤ 64) (hv : 1 ≤ vars) (hv2 : vars ≤ 100) {k : Nat} (hk : 100 ≤ k) {at' : Int} (h0 : 0 ≤ at') (h1 : at' ≤ 700000000) (s : W) :
    ∃ a2 s2 t, (R228 (c228 k wide vars 1 (encB bs) at' (wi s)) fun l12 q19 q20 l13 =>
      R143 (c143 k 2 l12 q19 q20) fun l14 q21 q22 q23 =>
      R228 (c228 k wide vars q23 l14 q21 q22) fun l15 q24 q25 l16 =>
      bif decide ((l13.length + ((l16.take l16.length).length)) * 16 ≤ LIM) && decide (l13.length + ((l16.take l16.length).length) ≤ LIM) then
       R128 (c128 k [PV.int .i64 14, PV.int .i64 15, PV.int .i64 15, PV.int .i64 16] l15 q24 q25) fun l17 q26 q27 q28 =>
       bif decide (((l13.length + ((l16.take l16.length).length)) + 1) * 16 ≤ LIM) && decide ((l13.length + ((l16.take l16.length).length)) + 1 ≤ LIM) then
        r107 l17 q26 q27 (((((l13.take l13.length) ++ (l16.take l16.length)).take (l13.length + ((l16.take l16.length).length))) ++ [PV.agg [.int .i64 q28, .int .u64 0]]).take ((l13.length + ((l16.take l16.length).length)) + 1))
       else none
      else none) = r107 (encB bs) a2 (wi s2) (encT t) ∧ at' ≤ a2 ∧ a2 ≤ at' + 70 ∧ 1 ≤ t.length ∧ t.length ≤ 7 := by
  obtain ⟨a4, s4, t, h, h6, h7, h8, h9, h10⟩ := number_int hc hw0 hw hv hv2 (d := 1) (by omega) (by omega) (k := k) (by omega) h0 (by omega) s
  have h10 := h10 (by omega)
  rw [h]
  simp only [R228_r]
  obtain ⟨a5, s5, v, h, h11, h12, h13, h14, _⟩ := pick_ok hc (k := k) (by omega) (at' := a4) (by omega) (by omega) s4 2
  rw [h]
  simp only [R143_r]
  obtain ⟨a6, s6, u, h, h15, h16, h17, h18, h19⟩ := number_int hc hw0 hw hv hv2 (d := v) (by omega) (by omega) (k := k) (by omega) (at' := a5) (by omega) (by omega) s5
  have h19 := h19 (by omega)
  rw [h]
  simp only [R228_r]
  rw [lim_ok (by (simp; try omega)) (by omega)]
  simp only [cond_true]
  obtain ⟨a7, s7, w, h, h20, h21, _⟩ := among_ok hc (k := k) (by omega) (at' := a6) (by omega) (by omega) s6 [14, 15, 15, 16] (by simp)
  rw [show ([PV.int .i64 14, PV.int .i64 15, PV.int .i64 15, PV.int .i64 16] : List PV) = encZ [14, 15, 15, 16] from rfl, h]
  simp only [R128_r]
  rw [lim_ok (by (simp; try omega)) (by omega), take2]
  exact ⟨a7, s7, t ++ u ++ [(w, 0#64)], by simp [encT, encN, wi], by omega, by omega, by (simp; try omega), by (simp; try omega)⟩
theorem asked_ok {bs : List Nat} (hc : CodeOK bs) {wide vars : Int} (hw0 : 0 ≤ wide) (hw : wide ≤ 64) (hv : 1 ≤ vars) (hv2 : vars ≤ 100) : ∀ (d : Nat) {k : Nat} (hk : 110 + d ≤ k) (hd : d ≤ 16) {at' : Int} (h0 : 0 ≤ at') (h1 : at' + (100 * 2 ^ d : Nat) ≤ 700000000) (s : W),
    ∃ a2 s2 t, c107 k wide vars (d : Int) (encB bs) at' (wi s) = r107 (encB bs) a2 (wi s2) (encT t) ∧ at' ≤ a2 ∧ a2 ≤ at' + (100 * (2 ^ d : Nat) - 20 : Nat) ∧ 1 ≤ t.length ∧ t.length + 1 ≤ 8 * 2 ^ d
  | d, k, hk, hd, at', h0, h1, s => by
    obtain ⟨k, rfl⟩ : ∃ j, k = j + 1 := ⟨k - 1, by omega⟩
    have hp : (2 : Nat) ^ d ≤ 65536 := Nat.pow_le_pow_right (n := 2) (by omega) (show d ≤ 16 by omega)
    have hp1 : 1 ≤ (2 : Nat) ^ d := Nat.one_le_two_pow
    rw [n107]
    obtain ⟨a2, s2, b, h, h2, h3⟩ := one_ok hc (k := k) (by omega) h0 (by omega) s 20
    rw [h]
    simp only [R145_r]
    cases b
    · simp only [cond_false]
      cases d with
      | zero =>
        have e : decide (((0 : Nat) : Int) > 0) = false := rfl
        simp only [e, cond_false]
        obtain ⟨a3, s3, t, h, h4, h5, h6, h7⟩ := asked_base hc hw0 hw hv hv2 (k := k) (by omega) (at' := a2) (by omega) (by omega) s2
        rw [h]
        exact ⟨a3, s3, t, rfl, by omega, by omega, h6, by omega⟩
      | succ d =>
        have e : decide (((d + 1 : Nat) : Int) > 0) = true := by (simp; try omega)
        have e1 : IntKind.i64.wrap (((d + 1 : Nat) : Int) - 1) = (d : Int) := by rw [i64_id (by omega) (by omega)]; omega
        have e2 : (2 : Nat) ^ (d + 1) = 2 * 2 ^ d := by rw [Nat.pow_succ]; omega
        rw [e2] at h1 hp hp1 ⊢
        have ih := fun (a : Int) (h0 : 0 ≤ a) (h1 : a + (100 * 2 ^ d : Nat) ≤ 700000000) (s : W) => asked_ok hc hw0 hw hv hv2 d (k := k) (by omega) (by omega) h0 h1 s
        simp only [e, cond_true, e1]
        obtain ⟨a3, s3, b, h, h4, h5⟩ := one_ok hc (k := k) (by omega) (at' := a2) (by omega) (by omega) s2 4
        rw [h]
        simp only [R145_r]
        cases b
        · simp only [cond_false]
          obtain ⟨a4, s4, b, h, h6, h7⟩ := one_ok hc (k := k) (by omega) (at' := a3) (by omega) (by omega) s3 2
          rw [h]
          simp only [R145_r]
          cases b
          · simp only [cond_false]
            obtain ⟨a5, s5, t, h, h8, h9, h10, h11⟩ := asked_base hc hw0 hw hv hv2 (k := k) (by omega) (at' := a4) (by omega) (by omega) s4
            rw [h]
            exact ⟨a5, s5, t, rfl, by omega, by omega, h10, by omega⟩
          · simp only [cond_true]
            obtain ⟨a5, s5, t, h, h8, h9, h10, h11⟩ := ih a4 (by omega) (by omega) s4
            rw [h]
            simp only [R107_r]
            obtain ⟨a6, s6, u, h, h12, h13, h14, h15⟩ := ih a5 (by omega) (by omega) s5
            rw [h]
            simp only [R107_r]
            rw [lim_ok (by (simp; try omega)) (by omega)]
            simp only [cond_true]
            obtain ⟨a7, s7, w, h, h20, h21, _⟩ := among_ok hc (k := k) (by omega) (at' := a6) (by omega) (by omega) s6 [17, 18] (by simp)
            rw [show ([PV.int .i64 17, PV.int .i64 18] : List PV) = encZ [17, 18] from rfl, h]
            simp only [R128_r]
            rw [lim_ok (by (simp; try omega)) (by omega), take2]
            exact ⟨a7, s7, t ++ u ++ [(w, 0#64)], by simp [encT, encN, wi], by omega, by omega, by (simp; try omega), by (simp; try omega)⟩
        · simp only [cond_true]
          obtain ⟨a5, s5, t, h, h8, h9, h10, h11⟩ := ih a3 (by omega) (by omega) s3
          rw [h]
          simp only [R107_r]
          rw [lim_ok (by (simp; try omega)) (by omega), take1]
          exact ⟨a5, s5, t ++ [(19, 0#64)], by simp [encT, encN, wi], by omega, by omega, by simp, by (simp; try omega)⟩
    · simp only [cond_true]
      obtain ⟨a3, s3, v, h, h4, h5, _⟩ := pick_ok hc (k := k) (by omega) (at' := a2) (by omega) (by omega) s2 2
      rw [h]
      simp only [R143_r]
      rw [wrapU]
      exact ⟨a3, s3, [(20, BitVec.ofInt 64 v)], rfl, by omega, by omega, by simp, by (simp; try omega)⟩
end Go.Proofs.YtclkgblckicabaaGreat
/- The draws of terms with their width and variables, and of what is put for these. -/
set_option linter.unusedVariables false
set_option linter.unusedSimpArgs false
set_option maxRecDepth 4000
namespace Go.Proofs.YtclkgblckicabaaGreat
open Go.Dp

theorem set_encT (t : List Nd) (i : Nat) (x : Nd) : (encT t).set i (encN x) = encT (t.set i x) := by simp [encT, List.map_set]
theorem put_n (x : Nd) (a : W) : putPart (encN x) 2 1 (PV.int .u64 (wi a)) 0 = some (encN (x.1, a)) := rfl
theorem put_op (x : Nd) (n : Int) : putPart (encN x) 2 0 (PV.int .i64 n) 0 = some (encN (n, x.2)) := rfl
end Go.Proofs.YtclkgblckicabaaGreat
