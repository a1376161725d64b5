/- Env; Cs; Nf0; Nf1; Nf2; Nf3; Nf4; Kb; Kc: texts put together. -/
import Derived.Test.YtclkgblckicabaaGreatProg
import Derived.Test.YtclkgblckicabaaGreatM2
/- What the evaluator is told of the program's types, loops and functions: printed by nf.py. -/
namespace Go.Proofs.YtclkgblckicabaaGreat
open Go.Dp
def tabs : Tabs where
  sl := [(22, (5, 0, 1)), (24, (176, 2, 16)), (25, (155, 2, 48)), (28, (3, 0, 8)), (42, (24, 0, 24)), (54, (55, 0, 8)),
  (153, (221, 2, 32))]
  sh := [(2, 0), (3, 0), (4, 0), (5, 0), (9, 0), (22, 0), (24, 0), (25, 0), (27, 4), (28, 0), (42, 0), (54, 0), (55, 0), (93, 0), (122, 0), (124, 3), (151, 0), (153, 0), (155, 2), (166, 0),
  (176, 2), (213, 0), (221, 2)]
  fl := [(27, [some (0, 0), some (1, 0), some (2, 0), some (3, 0)]), (124, [some (0, 0), some (1, 0), some (2, 0)]), (155, [some (0, 0), some (1, 0)]), (176, [some (0, 0), some (1, 0)]), (221, [some (0, 0), some (1, 0)])]
  ik := [(2, .i64), (3, .i64), (5, .u8), (55, .u64), (93, .u64)]
  zr := [(2, [.int .i64 0]), (3, [.int .i64 0]), (4, [.bool false]), (5, [.int .u8 0]), (9, [.str ⟨#[]⟩]), (22, [.row 0 2 []]),
  (24, [.row 0 2 []]), (25, [.row 0 2 []]), (27, [.int .i64 0, .int .i64 0, .row 0 2 [], .row 0 2 []]), (28, [.row 0 2 []]), (42, [.row 0 2 []]), (54, [.row 0 2 []]),
  (55, [.int .u64 0]), (93, [.int .u64 0]), (124, [.row 0 2 [], .int .i64 0, .int .u64 0]), (153, [.row 0 2 []]), (155, [.row 0 2 [], .row 0 2 []]), (176, [.int .i64 0, .int .u64 0]),
  (221, [.int .i64 0, .row 0 2 []])]
  eqs := [(176, [0, 0])]
  bl := [(4, ())]
  st := [(9, ())]
  flat := [(2, ()), (3, ()), (4, ()), (5, ()), (9, ()), (55, ()), (93, ()), (176, ())]
def tLive : List (Nat × List (Nat × List Nat)) := [(5, [(0, [1, 5, 6, 7, 8, 9, 10, 13]), (2, [1, 16, 20, 125, 126, 127])]), (40, [(0, [1, 2, 3, 4, 33, 34, 35])]), (46, [(0, [0, 1, 12, 13])]),
  (47, [(0, [2, 7, 8, 9, 10, 11])]), (105, [(0, [0, 2, 3, 4])]), (121, [(0, [1, 2, 5, 9, 10])]),
  (122, [(0, [0, 2, 7, 12, 13, 14])]), (148, [(0, [0, 4, 7, 8])]), (149, [(0, [0, 1, 7, 8])]),
  (156, [(0, [2, 3, 4, 11, 12, 13])]), (158, [(0, [1, 2, 5, 6, 17, 18, 19]), (2, [2, 5, 6, 28, 29, 30]), (4, [2, 5, 6, 10, 28, 29, 30, 36, 37])]), (159, [(0, [2, 10, 11, 12])]),
  (160, [(0, [1, 2, 5, 14, 15, 16]), (2, [2, 5, 25, 26, 27]), (4, [2, 5, 9, 25, 26, 27, 33, 34])]), (161, [(0, [0, 1, 7, 33, 34, 35])]), (164, [(0, [1, 2, 5, 6])]),
  (165, [(0, [1, 7, 8, 9])]), (172, [(0, [1, 2, 5, 6])]), (177, [(0, [0, 1, 7, 8, 9])]),
  (179, [(0, [0, 1, 2, 9, 10, 11])]), (183, [(0, [0, 3, 9, 10, 11]), (2, [6, 25, 26, 27])]), (200, [(0, [0, 1, 5])]),
  (206, [(0, [1, 7, 8, 9])]), (227, [(0, [0, 1, 2, 6, 7, 8])]), (229, [(0, [0, 1, 7, 27, 28, 29]), (2, [0, 1, 7, 10, 11, 12, 27, 28, 29])]),
  (231, [(0, [1, 18, 19, 20])]), (254, [(0, [0, 1, 7, 8])]), (259, [(0, [0, 1, 12, 13])]),
  (260, [(0, [1, 2, 3, 8, 14, 15]), (2, [2, 3, 8, 31, 32, 33])]), (261, [(0, [0, 1, 7, 8, 9])]), (262, [(0, [1, 2, 3, 8, 9]), (2, [2, 3, 8, 30, 31, 32])]),
  (266, [(0, [1, 7, 8, 9])]), (273, [(0, [0, 1, 7, 8])]), (283, [(0, [0, 1, 7, 8])]),
  (296, [(0, [0, 1, 2, 6, 7, 8])]), (297, [(0, [0, 1, 5, 6])]), (301, [(0, [2, 3, 13, 14, 15])]),
  (302, [(0, [2, 3, 21, 22, 23])]), (308, [(0, [0, 5, 8])]), (317, [(0, [3, 4, 5, 10, 30, 31, 32])]),
  (318, [(0, [0, 1, 12, 13])]), (319, [(0, [0, 1, 2, 3, 26, 27, 28]), (2, [0, 1, 3, 12, 38, 39, 40])]), (327, [(0, [2, 8, 9, 10, 11, 13, 14, 15, 16]), (2, [2, 8, 9, 10, 14, 15, 16, 17, 18])]),
  (335, [(0, [0, 1, 2, 3])])]
def tRk : List (Nat × List RK) := [(5, [.c (.p (.bool))]), (12, [.c (.p (.bool))]), (38, [.agg [.p (.int .i64), .p (.int .i64), .p (.row 2), .p (.row 2)], .c (.p (.row 0)), .c (.p (.row 0)), .c (.p (.row 0))]), (39, [.c (.p (.int .i64)), .c (.p (.bool))]), (40, [.c (.p (.int .i64)), .c (.p (.bool))]), (41, [.c (.p (.bool)), .c (.p (.bool))]),
  (42, [.agg [.p (.int .i64), .p (.int .i64), .p (.row 2), .p (.row 2)], .c (.p (.row 0))]), (43, [.c (.p (.row 0)), .c (.p (.bool))]), (44, [.c (.p (.row 0)), .c (.p (.bool))]), (45, [.c (.p (.int .i64)), .c (.p (.bool))]), (46, [.c (.p (.bool))]), (47, [.agg [.p (.int .i64), .p (.int .i64), .p (.row 2), .p (.row 2)], .c (.p (.row 2)), .c (.p (.row 0)), .c (.p (.row 0))]),
  (48, [.c (.p (.bool)), .c (.p (.bool))]), (105, [.agg [.p (.int .i64), .p (.int .i64), .p (.row 2), .p (.row 2)]]), (107, [.c (.own 176 2)]), (108, [.c (.p (.int .i64))]), (110, [.c (.p (.bool))]), (112, [.c (.p (.bool))]),
  (114, [.c (.p (.int .i64))]), (115, [.c (.p (.bool))]), (116, [.c (.p (.int .i64))]), (117, [.c (.p (.bool))]), (120, [.c (.p (.bool))]), (121, [.c (.p (.row 0))]),
  (122, [.c (.p (.int .u64))]), (128, [.c (.p (.int .i64))]), (137, [.c (.p (.bool))]), (143, [.c (.p (.int .i64))]), (145, [.c (.p (.bool))]), (148, [.c (.p (.row 0))]),
  (149, [.c (.p (.row 0))]), (150, [.c (.p (.bool))]), (151, [.c (.p (.bool))]), (152, [.c (.p (.bool))]), (153, [.c (.p (.bool))]), (154, [.c (.p (.int .i64))]),
  (155, [.c (.p (.bool))]), (156, [.c (.p (.int .i64))]), (157, [.c (.p (.bool))]), (158, [.c (.p (.row 0))]), (159, [.c (.p (.bool))]), (160, [.c (.p (.row 0))]),
  (161, [.c (.p (.bool))]), (162, [.c (.p (.int .i64))]), (163, [.c (.p (.row 2))]), (164, [.c (.p (.row 0))]), (165, [.c (.p (.bool))]), (166, [.c (.p (.bool))]),
  (169, [.c (.p (.row 2)), .c (.p (.bool))]), (171, [.c (.p (.bool))]), (172, [.c (.p (.row 0))]), (173, [.c (.p (.row 2)), .c (.p (.bool))]), (177, [.c (.p (.bool))]), (179, [.c (.p (.bool))]),
  (183, [.c (.own 176 2)]), (187, [.c (.p (.bool))]), (189, [.c (.own 176 2)]), (200, [.c (.own 3 0)]), (204, [.c (.p (.bool))]), (206, [.c (.p (.bool))]),
  (212, [.c (.p (.bool))]), (227, [.agg [.p (.int .i64), .p (.int .i64), .p (.row 2), .own ⟨155, some ⟨1, 221, 2, 0, none⟩⟩ 2]]), (228, [.c (.own 176 2)]), (229, [.c (.p (.int .i64))]), (230, [.c (.p (.bool))]), (231, [.c (.p (.bool))]),
  (233, [.c (.p (.bool))]), (234, [.c (.p (.int .u64))]), (235, [.c (.p (.int .u64))]), (242, [.c (.p (.bool))]), (246, [.c (.p (.bool))]), (249, [.c (.p (.bool))]),
  (250, [.c (.p (.int .i64))]), (253, [.c (.p (.bool))]), (254, [.c (.p (.int .i64))]), (255, [.c (.p (.bool))]), (256, [.c (.p (.bool))]), (258, [.c (.p (.bool))]),
  (259, [.c (.p (.bool))]), (260, [.c (.p (.row 2)), .c (.p (.bool))]), (261, [.c (.own 24 0)]), (262, [.c (.p (.row 2)), .c (.p (.bool))]), (263, [.c (.p (.int .i64)), .c (.p (.int .i64)), .c (.p (.int .i64))]), (264, [.c (.p (.bool))]),
  (265, [.c (.p (.bool))]), (266, [.c (.p (.bool))]), (267, [.c (.p (.int .u64))]), (268, [.c (.p (.bool))]), (269, [.c (.own 176 2)]), (273, [.c (.p (.int .i64))]),
  (280, [.c (.p (.bool))]), (281, [.c (.p (.int .i64)), .c (.p (.int .i64)), .c (.p (.int .i64))]), (283, [.c (.p (.int .i64))]), (296, [.agg [.p (.row 2), .own 221 2]]), (297, [.c (.p (.int .u64))]), (298, [.c (.p (.bool))]),
  (299, [.c (.p (.bool))]), (300, [.c (.p (.bool))]), (301, [.c (.p (.bool))]), (302, [.c (.p (.bool))]), (303, [.c (.p (.int .u64)), .c (.p (.int .u64)), .c (.p (.bool))]), (304, [.c (.p (.int .u64))]),
  (305, [.c (.p (.int .u64))]), (306, [.c (.p (.int .i64))]), (308, [.c (.p (.int .i64))]), (316, [.c (.p (.bool))]), (317, [.c (.p (.row 2)), .c (.p (.bool))]), (318, [.c (.p (.bool))]),
  (319, [.c (.p (.row 2)), .c (.p (.bool))]), (320, [.c (.p (.int .u64))]), (326, [.c (.p (.bool))]), (327, [.c (.p (.int .u64)), .c (.p (.int .u64))]), (333, [.c (.p (.bool))]), (334, [.c (.p (.int .u64)), .c (.p (.int .u64)), .c (.p (.bool))]),
  (335, [.c (.p (.int .u64))]), (336, [.c (.p (.int .u64))]), (337, [.c (.p (.int .i64))]), (348, [.c (.p (.int .i64))]), (351, [.c (.p (.int .i64))])]
def tBk : List (Nat × List (List Kind)) := [(105, [[.p (.row 0), .p (.int .i64), .p (.int .u64)]]), (107, [[.p (.row 0), .p (.int .i64), .p (.int .u64)]]), (128, [[.p (.row 0), .p (.int .i64), .p (.int .u64)]]), (143, [[.p (.row 0), .p (.int .i64), .p (.int .u64)]]), (145, [[.p (.row 0), .p (.int .i64), .p (.int .u64)]]), (148, [[.p (.row 0), .p (.int .i64), .p (.int .u64)]]),
  (149, [[.p (.row 0), .p (.int .i64), .p (.int .u64)]]), (163, [[.p (.row 0), .p (.int .i64), .p (.int .u64)]]), (227, [[.p (.row 0), .p (.int .i64), .p (.int .u64)]]), (228, [[.p (.row 0), .p (.int .i64), .p (.int .u64)]]), (250, [[.p (.row 0), .p (.int .i64), .p (.int .u64)]]), (257, [[.own 24 0]]),
  (265, [[.p (.int .i64)]]), (296, [[.p (.row 0), .p (.int .i64), .p (.int .u64)]]), (300, [[.p (.int .i64), .p (.int .i64), .p (.row 2), .p (.row 2)]]), (333, [[.p (.int .i64)], [.p (.int .i64)]]), (266187, [[.p (.int .i64)]]), (266273, [[.p (.int .i64)]]),
  (301212, [[.p (.int .i64), .p (.int .i64), .p (.row 2), .p (.row 2)]]), (301283, [[.p (.int .i64), .p (.int .i64), .p (.row 2), .p (.row 2)]]), (334151, [[.p (.int .i64)], [.p (.int .i64)]]), (334254, [[.p (.int .i64)], [.p (.int .i64)]])]
def tPlain : List (Nat × Unit) := [(5, ()), (12, ()), (39, ()), (40, ()), (41, ()), (45, ()), (46, ()), (48, ()), (108, ()), (110, ()), (112, ()), (114, ()),
  (115, ()), (116, ()), (117, ()), (120, ()), (122, ()), (137, ()), (150, ()), (152, ()), (153, ()), (154, ()), (155, ()), (156, ()),
  (157, ()), (159, ()), (161, ()), (162, ()), (165, ()), (166, ()), (171, ()), (177, ()), (179, ()), (183, ()), (189, ()), (200, ()),
  (204, ()), (206, ()), (229, ()), (230, ()), (231, ()), (233, ()), (234, ()), (235, ()), (242, ()), (246, ()), (249, ()), (253, ()),
  (255, ()), (256, ()), (258, ()), (259, ()), (263, ()), (264, ()), (265, ()), (266, ()), (267, ()), (268, ()), (269, ()), (280, ()),
  (281, ()), (297, ()), (298, ()), (299, ()), (301, ()), (302, ()), (303, ()), (304, ()), (305, ()), (306, ()), (308, ()), (316, ()),
  (318, ()), (320, ()), (326, ()), (327, ()), (333, ()), (334, ()), (335, ()), (336, ()), (337, ()), (348, ()), (351, ()), (266187, ()),
  (266273, ()), (281187, ()), (334151, ()), (334254, ())]
def tCt : List (Nat × CT) := [(2, .one (.int .i64)), (3, .one (.int .i64)), (4, .one (.bool)), (5, .one (.int .u8)), (9, .one (.str)), (22, .one (.row 0)),
  (24, .one (.row 2)), (25, .one (.row 2)), (27, .agg [.int .i64, .int .i64, .row 2, .row 2]), (28, .one (.row 0)), (42, .one (.row 0)), (54, .one (.row 0)),
  (55, .one (.int .u64)), (93, .one (.int .u64)), (124, .agg [.row 0, .int .i64, .int .u64]), (153, .one (.row 2)), (155, .agg [.row 2, .row 2]), (176, .agg [.int .i64, .int .u64]),
  (221, .agg [.int .i64, .row 2])]
def tAk : List (Nat × List CT) := [(5, [.one (.row 0), .one (.row 0)]), (12, [.one (.row 0), .one (.row 0)]), (38, [.one (.row 0)]), (39, [.agg [.int .i64, .int .i64, .row 2, .row 2], .one (.row 0), .one (.row 0), .one (.row 0)]), (40, [.agg [.int .i64, .int .i64, .row 2, .row 2], .one (.row 0), .one (.row 0), .one (.row 0)]), (41, [.agg [.int .i64, .int .i64, .row 2, .row 2], .one (.row 2), .one (.row 0), .one (.row 0)]),
  (42, [.one (.row 0)]), (43, [.agg [.int .i64, .int .i64, .row 2, .row 2], .one (.row 0)]), (44, [.agg [.int .i64, .int .i64, .row 2, .row 2], .one (.row 0)]), (45, [.one (.int .i64), .one (.int .i64), .one (.row 2)]), (46, [.one (.row 2), .one (.row 2)]), (47, [.one (.row 0)]),
  (48, [.agg [.int .i64, .int .i64, .row 2, .row 2], .one (.row 2), .one (.row 0), .one (.row 0)]), (105, [.one (.any)]), (107, [.one (.any), .one (.int .i64), .one (.int .i64), .one (.int .i64)]), (108, [.one (.int .i64)]), (110, [.agg [.int .i64, .int .i64, .row 2, .row 2], .one (.row 2)]), (112, [.agg [.int .i64, .int .i64, .row 2, .row 2]]),
  (114, [.agg [.int .i64, .int .i64, .row 2, .row 2]]), (115, [.agg [.int .i64, .int .i64, .row 2, .row 2]]), (116, [.agg [.int .i64, .int .i64, .row 2, .row 2]]), (117, [.one (.int .i64), .one (.int .i64), .one (.int .i64)]), (120, [.agg [.int .i64, .int .i64, .row 2, .row 2], .one (.row 0), .one (.int .i64)]), (121, [.agg [.int .i64, .int .i64, .row 2, .row 2], .one (.int .i64)]),
  (122, [.one (.int .i64), .one (.row 2), .one (.row 0)]), (128, [.one (.any), .one (.row 0)]), (137, [.agg [.int .i64, .int .i64, .row 2, .row 2], .one (.row 2), .one (.row 0)]), (143, [.one (.any), .one (.int .i64)]), (145, [.one (.any), .one (.int .i64)]), (148, [.one (.any), .agg [.int .i64, .int .i64, .row 2, .row 2], .one (.int .i64)]),
  (149, [.one (.any), .one (.int .i64), .one (.int .i64)]), (150, [.agg [.int .i64, .int .i64, .row 2, .row 2], .one (.row 0), .one (.row 0)]), (151, [.one (.row 0), .one (.any)]), (152, [.one (.row 2)]), (153, [.agg [.int .i64, .int .i64, .row 2, .row 2], .one (.row 2)]), (154, [.agg [.int .i64, .int .i64, .row 2, .row 2], .one (.row 0), .one (.row 0), .one (.row 0)]),
  (155, [.agg [.int .i64, .int .i64, .row 2, .row 2], .one (.row 0)]), (156, [.agg [.int .i64, .int .i64, .row 2, .row 2], .one (.row 0), .one (.row 0), .one (.row 0)]), (157, [.agg [.int .i64, .int .i64, .row 2, .row 2], .one (.row 2), .one (.row 0), .one (.row 0)]), (158, [.agg [.int .i64, .int .i64, .row 2, .row 2], .one (.row 0)]), (159, [.agg [.int .i64, .int .i64, .row 2, .row 2], .one (.row 0)]), (160, [.agg [.int .i64, .int .i64, .row 2, .row 2], .one (.row 0)]),
  (161, [.one (.int .i64), .one (.int .i64), .one (.row 2)]), (162, [.one (.row 2)]), (163, [.one (.any), .agg [.int .i64, .int .i64, .row 2, .row 2], .one (.int .i64)]), (164, [.agg [.int .i64, .int .i64, .row 2, .row 2], .one (.row 2)]), (165, [.one (.row 0), .one (.int .i64)]), (166, [.agg [.int .i64, .int .i64, .row 2, .row 2], .one (.row 2), .one (.row 0), .one (.row 0)]),
  (169, [.one (.int .i64), .one (.int .i64), .one (.row 2)]), (171, [.agg [.int .i64, .int .i64, .row 2, .row 2], .one (.row 2), .one (.row 0)]), (172, [.agg [.int .i64, .int .i64, .row 2, .row 2], .one (.int .i64)]), (173, [.one (.int .i64), .one (.int .i64), .one (.row 2)]), (177, [.one (.row 0), .one (.int .i64)]), (179, [.one (.row 0), .one (.int .i64), .one (.int .i64)]),
  (183, [.one (.row 0)]), (187, [.one (.row 0), .one (.any)]), (189, [.one (.row 2)]), (200, [.one (.row 0), .one (.int .i64)]), (204, [.agg [.int .i64, .int .i64, .row 2, .row 2], .one (.row 2), .one (.row 0)]), (206, [.one (.row 0), .one (.row 0)]),
  (212, [.one (.row 2), .one (.any)]), (227, [.one (.any), .one (.int .i64), .one (.int .i64)]), (228, [.one (.any), .one (.int .i64), .one (.int .i64), .one (.int .i64)]), (229, [.one (.int .i64), .one (.int .i64), .one (.row 2)]), (230, [.agg [.int .i64, .int .i64, .row 2, .row 2]]), (231, [.agg [.int .i64, .int .i64, .row 2, .row 2]]),
  (233, [.one (.row 2)]), (234, [.one (.int .i64)]), (235, [.one (.int .i64), .one (.int .i64), .one (.int .u64), .one (.int .u64)]), (242, [.one (.int .i64)]), (246, [.one (.int .i64)]), (249, [.one (.int .i64), .one (.int .u64)]),
  (250, [.one (.any)]), (253, [.one (.int .i64), .one (.int .u64)]), (254, [.one (.row 0), .one (.any)]), (255, [.one (.int .i64), .one (.int .i64), .one (.row 2), .one (.int .i64)]), (256, [.one (.row 2)]), (257, [.one (.row 2)]),
  (258, [.one (.row 2)]), (259, [.one (.row 2), .one (.row 2)]), (260, [.agg [.int .i64, .int .i64, .row 2, .row 2], .one (.int .i64), .one (.row 2)]), (261, [.one (.row 0), .one (.row 2)]), (262, [.agg [.int .i64, .int .i64, .row 2, .row 2], .one (.int .i64), .one (.row 2)]), (263, [.one (.int .i64)]),
  (264, [.one (.int .i64), .one (.int .i64), .agg [.int .i64, .int .u64]]), (265, [.one (.int .i64)]), (266, [.one (.row 0), .one (.row 0)]), (267, [.one (.int .i64), .one (.row 2), .one (.int .i64), .one (.row 0)]), (268, [.one (.int .i64), .one (.int .i64), .one (.row 2)]), (269, [.one (.any), .one (.int .i64)]),
  (273, [.one (.row 0), .one (.any)]), (280, [.one (.int .i64)]), (281, [.one (.int .i64)]), (283, [.one (.row 2), .one (.any)]), (296, [.one (.any), .one (.int .i64), .one (.int .i64)]), (297, [.one (.int .i64), .one (.int .u64)]),
  (298, [.one (.int .i64)]), (299, [.one (.int .i64), .one (.int .i64), .agg [.int .i64, .int .u64]]), (300, [.agg [.row 2, .row 2]]), (301, [.agg [.int .i64, .int .i64, .row 2, .row 2], .agg [.row 2, .row 2]]), (302, [.agg [.int .i64, .int .i64, .row 2, .row 2], .agg [.row 2, .row 2]]), (303, [.one (.int .i64), .one (.int .u64), .one (.int .u64)]),
  (304, [.one (.int .i64), .one (.int .u64), .one (.int .u64), .one (.bool)]), (305, [.one (.bool)]), (306, [.one (.int .i64), .one (.int .u64)]), (308, [.one (.row 2), .one (.int .i64)]), (316, [.one (.int .i64), .one (.int .u64), .one (.int .u64)]), (317, [.one (.int .i64), .one (.int .i64), .one (.row 2), .one (.row 0)]),
  (318, [.one (.row 2), .one (.row 2)]), (319, [.one (.int .i64), .one (.int .i64), .one (.row 2), .one (.row 0)]), (320, [.one (.int .i64), .one (.int .i64), .one (.int .u64), .one (.int .u64)]), (326, [.one (.int .i64), .one (.int .u64), .one (.int .u64)]), (327, [.one (.int .u64), .one (.int .u64), .one (.int .u64)]), (333, [.one (.row 2)]),
  (334, [.one (.int .i64), .one (.int .u64), .one (.int .u64)]), (335, [.one (.int .i64), .one (.int .u64), .one (.int .u64), .one (.bool)]), (336, [.one (.bool)]), (337, [.one (.int .i64), .one (.int .u64)]), (348, [.one (.int .u64)]), (351, [.one (.int .u64)])]
def tOwn : List (Nat × List (Nat × List (Option Nat × Nat × Et × Nat))) := [(47, [(0, [(none, 10, 3, 0), (some 0, 2, 0, 2), (some 0, 3, 0, 2)])]), (105, [(0, [(some 1, 2, 0, 2), (some 1, 3, 0, 2)])]), (148, [(0, [(none, 7, 24, 0)])]),
  (149, [(0, [(none, 7, 3, 0)])]), (160, [(0, [(none, 5, 24, 0)])]), (164, [(0, [(none, 5, 3, 0)])]),
  (172, [(0, [(none, 5, 55, 0)])]), (227, [(0, [(some 1, 2, 0, 2), (some 1, 3, 0, 2), (some 2, 3, ⟨155, some ⟨1, 221, 2, 0, none⟩⟩, 2)])]), (229, [(0, [(none, 7, 3, 0)])]),
  (262, [(0, [(none, 8, 24, 0)])]), (296, [(0, [(some 1, 0, 0, 2), (some 1, 1, 0, 2), (some 2, 1, 221, 2)])]), (319, [(2, [(none, 12, 176, 2)])])]
def tCut : List (Nat × List (Nat × List Nat)) := []
def tNest : List (Nat × Kd) := [(25, ⟨1, 221, 2, 0, none⟩)]
def tSorts : List (Nat × Nat) := []
theorem sortsOK : ∀ g n, (g, n) ∈ tSorts → SortOK Tryz.prog n g := by
  intro g n h
  simp [tSorts] at h
def tAo : List (Nat × List (Option (Et × Nat))) := [(200, [some (3, 0), none]), (261, [some (24, 0), none])]
def tRo : List (Nat × Unit) := [(153151, ()), (153254, ()), (234151, ()), (234254, ()), (257254, ()), (259151, ()), (259254, ()), (281187, ()), (281273, ())]
def tExt : List (Nat × Nat) := []
theorem extOK : ∀ g n, (g, n) ∈ tExt → ExtOK Tryz.prog n g := by
  intro g n h
  simp [tExt] at h
noncomputable def E : Env := tabs.env tLive tRk tBk tPlain tCt tAk tOwn tCut tNest tSorts tAo tExt tRo
theorem envOK : EnvOK Tryz.prog E := Tabs.sound (by kernel_rfl) sortsOK extOK
noncomputable def pTab : List (Nat × Func) := [(5, Tryz.f5), (12, Tryz.f12), (38, Tryz.f38), (39, Tryz.f39), (40, Tryz.f40), (41, Tryz.f41), (42, Tryz.f42), (43, Tryz.f43), (44, Tryz.f44), (45, Tryz.f45), (46, Tryz.f46), (47, Tryz.f47),
  (48, Tryz.f48), (105, Tryz.f105), (107, Tryz.f107), (108, Tryz.f108), (110, Tryz.f110), (112, Tryz.f112), (114, Tryz.f114), (115, Tryz.f115), (116, Tryz.f116), (117, Tryz.f117), (120, Tryz.f120), (121, Tryz.f121),
  (122, Tryz.f122), (128, Tryz.f128), (137, Tryz.f137), (143, Tryz.f143), (145, Tryz.f145), (148, Tryz.f148), (149, Tryz.f149), (150, Tryz.f150), (151, Tryz.f151), (152, Tryz.f152), (153, Tryz.f153), (154, Tryz.f154),
  (155, Tryz.f155), (156, Tryz.f156), (157, Tryz.f157), (158, Tryz.f158), (159, Tryz.f159), (160, Tryz.f160), (161, Tryz.f161), (162, Tryz.f162), (163, Tryz.f163), (164, Tryz.f164), (165, Tryz.f165), (166, Tryz.f166),
  (169, Tryz.f169), (171, Tryz.f171), (172, Tryz.f172), (173, Tryz.f173), (177, Tryz.f177), (179, Tryz.f179), (183, Tryz.f183), (187, Tryz.f187), (189, Tryz.f189), (200, Tryz.f200), (204, Tryz.f204), (206, Tryz.f206),
  (212, Tryz.f212), (227, Tryz.f227), (228, Tryz.f228), (229, Tryz.f229), (230, Tryz.f230), (231, Tryz.f231), (233, Tryz.f233), (234, Tryz.f234), (235, Tryz.f235), (242, Tryz.f242), (246, Tryz.f246), (249, Tryz.f249),
  (250, Tryz.f250), (253, Tryz.f253), (254, Tryz.f254), (255, Tryz.f255), (256, Tryz.f256), (257, Tryz.f257), (258, Tryz.f258), (259, Tryz.f259), (260, Tryz.f260), (261, Tryz.f261), (262, Tryz.f262), (263, Tryz.f263),
  (264, Tryz.f264), (265, Tryz.f265), (266, Tryz.f266), (267, Tryz.f267), (268, Tryz.f268), (269, Tryz.f269), (273, Tryz.f273), (280, Tryz.f280), (281, Tryz.f281), (283, Tryz.f283), (296, Tryz.f296), (297, Tryz.f297),
  (298, Tryz.f298), (299, Tryz.f299), (300, Tryz.f300), (301, Tryz.f301), (302, Tryz.f302), (303, Tryz.f303), (304, Tryz.f304), (305, Tryz.f305), (306, Tryz.f306), (308, Tryz.f308), (316, Tryz.f316), (317, Tryz.f317),
  (318, Tryz.f318), (319, Tryz.f319), (320, Tryz.f320), (326, Tryz.f326), (327, Tryz.f327), (333, Tryz.f333), (334, Tryz.f334), (335, Tryz.f335), (336, Tryz.f336), (337, Tryz.f337), (348, Tryz.f348), (351, Tryz.f351)]
noncomputable def P : FuncId → Option Func := lk pTab
theorem pOK : PfOK Tryz.prog P := pfOK_of (tab := pTab)
  (pfOK_cons Tryz.func5 (pfOK_cons Tryz.func12 (pfOK_cons Tryz.func38 (pfOK_cons Tryz.func39 (pfOK_cons Tryz.func40 (pfOK_cons Tryz.func41 (pfOK_cons Tryz.func42 (pfOK_cons Tryz.func43 
  (pfOK_cons Tryz.func44 (pfOK_cons Tryz.func45 (pfOK_cons Tryz.func46 (pfOK_cons Tryz.func47 (pfOK_cons Tryz.func48 (pfOK_cons Tryz.func105 (pfOK_cons Tryz.func107 (pfOK_cons Tryz.func108 
  (pfOK_cons Tryz.func110 (pfOK_cons Tryz.func112 (pfOK_cons Tryz.func114 (pfOK_cons Tryz.func115 (pfOK_cons Tryz.func116 (pfOK_cons Tryz.func117 (pfOK_cons Tryz.func120 (pfOK_cons Tryz.func121 
  (pfOK_cons Tryz.func122 (pfOK_cons Tryz.func128 (pfOK_cons Tryz.func137 (pfOK_cons Tryz.func143 (pfOK_cons Tryz.func145 (pfOK_cons Tryz.func148 (pfOK_cons Tryz.func149 (pfOK_cons Tryz.func150 
  (pfOK_cons Tryz.func151 (pfOK_cons Tryz.func152 (pfOK_cons Tryz.func153 (pfOK_cons Tryz.func154 (pfOK_cons Tryz.func155 (pfOK_cons Tryz.func156 (pfOK_cons Tryz.func157 (pfOK_cons Tryz.func158 
  (pfOK_cons Tryz.func159 (pfOK_cons Tryz.func160 (pfOK_cons Tryz.func161 (pfOK_cons Tryz.func162 (pfOK_cons Tryz.func163 (pfOK_cons Tryz.func164 (pfOK_cons Tryz.func165 (pfOK_cons Tryz.func166 
  (pfOK_cons Tryz.func169 (pfOK_cons Tryz.func171 (pfOK_cons Tryz.func172 (pfOK_cons Tryz.func173 (pfOK_cons Tryz.func177 (pfOK_cons Tryz.func179 (pfOK_cons Tryz.func183 (pfOK_cons Tryz.func187 
  (pfOK_cons Tryz.func189 (pfOK_cons Tryz.func200 (pfOK_cons Tryz.func204 (pfOK_cons Tryz.func206 (pfOK_cons Tryz.func212 (pfOK_cons Tryz.func227 (pfOK_cons Tryz.func228 (pfOK_cons Tryz.func229 
  (pfOK_cons Tryz.func230 (pfOK_cons Tryz.func231 (pfOK_cons Tryz.func233 (pfOK_cons Tryz.func234 (pfOK_cons Tryz.func235 (pfOK_cons Tryz.func242 (pfOK_cons Tryz.func246 (pfOK_cons Tryz.func249 
  (pfOK_cons Tryz.func250 (pfOK_cons Tryz.func253 (pfOK_cons Tryz.func254 (pfOK_cons Tryz.func255 (pfOK_cons Tryz.func256 (pfOK_cons Tryz.func257 (pfOK_cons Tryz.func258 (pfOK_cons Tryz.func259 
  (pfOK_cons Tryz.func260 (pfOK_cons Tryz.func261 (pfOK_cons Tryz.func262 (pfOK_cons Tryz.func263 (pfOK_cons Tryz.func264 (pfOK_cons Tryz.func265 (pfOK_cons Tryz.func266 (pfOK_cons Tryz.func267 
  (pfOK_cons Tryz.func268 (pfOK_cons Tryz.func269 (pfOK_cons Tryz.func273 (pfOK_cons Tryz.func280 (pfOK_cons Tryz.func281 (pfOK_cons Tryz.func283 (pfOK_cons Tryz.func296 (pfOK_cons Tryz.func297 
  (pfOK_cons Tryz.func298 (pfOK_cons Tryz.func299 (pfOK_cons Tryz.func300 (pfOK_cons Tryz.func301 (pfOK_cons Tryz.func302 (pfOK_cons Tryz.func303 (pfOK_cons Tryz.func304 (pfOK_cons Tryz.func305 
  (pfOK_cons Tryz.func306 (pfOK_cons Tryz.func308 (pfOK_cons Tryz.func316 (pfOK_cons Tryz.func317 (pfOK_cons Tryz.func318 (pfOK_cons Tryz.func319 (pfOK_cons Tryz.func320 (pfOK_cons Tryz.func326 
  (pfOK_cons Tryz.func327 (pfOK_cons Tryz.func333 (pfOK_cons Tryz.func334 (pfOK_cons Tryz.func335 (pfOK_cons Tryz.func336 (pfOK_cons Tryz.func337 (pfOK_cons Tryz.func348 (pfOK_cons Tryz.func351 
  pfOK_nil))))))))))))))))))))))))))))))))))))))))))))))))))))))))))))))))))))))))))))))))))))))))))))))))))))))))))))))))))))))))
  (by kernel_rfl)
theorem cl189 (xs : List PV) (h1 : xs.length * 16 ≤ LIM) (h2 : xs.length ≤ LIM) : evF P E (fun _ _ _ => none) 2 189 [.s (.c (.p (.row 2 3 xs)))] [] = some ([.c (.own 176 2 xs)], []) := by
  have e : evF P E (fun _ _ _ => none) 2 189 [.s (.c (.p (.row 2 3 xs)))] [] = bif decide ((0 + xs.length) * 16 ≤ LIM) && decide (0 + xs.length ≤ LIM) then some ([.c (.own 176 2 (([] ++ xs).take (0 + xs.length)))], []) else none := by kernel_rfl
  rw [e]
  simp [h1, h2]
def clones : List (Nat × (Nat × Nat × Nat)) := [(189, (176, 2, 16))]
theorem hT0 : ∀ f args bs r, cloneT clones f args bs = some r → Contract Tryz.prog f args bs r := by
  refine cloneT_ok fun f e sh by_ hm xs h1 h2 => ?_
  have h0 : ∀ f args bs r, (fun (_ : FuncId) (_ : List AV) (_ : List (List CV)) => (none : R)) f args bs = some r → Contract Tryz.prog f args bs r := fun _ _ _ _ h => by cases h
  simp only [clones, List.mem_cons, List.not_mem_nil, or_false, Prod.mk.injEq] at hm
  rcases hm with ⟨rfl, rfl, rfl, rfl⟩
  · exact clone_contract (evF_sound envOK pOK h0 2 (by kernel_rfl)) (evF_sound envOK pOK h0 2 (cl189 xs h1 h2))
def T : FuncId → List AV → List (List CV) → R := cloneT clones
theorem hT : ∀ f args bs r, T f args bs = some r → Contract Tryz.prog f args bs r := hT0
end Go.Proofs.YtclkgblckicabaaGreat
/- Calls and loops of the program, by shape: printed by nf.py. -/
set_option linter.unusedVariables false
namespace Go.Proofs.YtclkgblckicabaaGreat
open Go.Dp
noncomputable section
/-! 5 : laws.FnApart -/
def c5 (k : Nat) (code more : List PV) : R := evF P E T k 5 [.s (.c (.p (PV.row 0 0 code))), .s (.c (.p (PV.row 0 0 more)))] []
def r5 (b : Bool) : R := some ([.c (.p (PV.bool b))], [])
def R5 (x0 : R) (K0 : Bool → R) : R := x0.bind fun q0 => bif lensB q0.2 [] && lensS q0.1 [.c (.p (.bool))] then (cBool (resAt q0.1 0)).bind fun b => K0 b else none
@[simp] theorem R5_r (b : Bool) (K0 : Bool → R) : R5 (r5 b) K0 = K0 b := by kernel_rfl
def L5_1 (k n : Nat) (more terms a b : List PV) (k1 : Int) (ok : Bool) (i n1 n11 : Int) (l l1 : List PV) : R := evLoopAt P E T k 5 5 [] [1, 1, 1, 1, 1, 1, 0, 1, 0] [] n ⟨mkT 206 [(1, .s (.c (.p (PV.row 0 0 more)))), (5, .s (.c (.bptr 0 0))), (6, .s (.c (.p (PV.row 0 0 terms)))), (7, .s (.c (.p (PV.row 0 0 a)))), (8, .s (.c (.p (PV.row 0 0 b)))), (9, .s (.c (.p (PV.int .i64 k1)))), (10, .s (.c (.p (PV.bool ok)))), (13, .s (.c (.p (PV.int .i64 i))))], [.box [.p (PV.int .i64 n1), .p (PV.int .i64 n11), .p (PV.row 2 0 l), .p (PV.row 2 0 l1)]]⟩
def L5_2 (k n : Nat) (more try1 t125 : List PV) (t126 t127 n1 n11 : Int) (l l1 : List PV) : R := evLoopAt P E T k 5 5 [] [1, 1, 1, 1, 1, 1, 1, 1, 1, 1, 1, 0, 1, 0] [] n ⟨mkT 206 [(1, .s (.c (.p (PV.row 0 0 more)))), (16, .s (.c (.bptr 0 0))), (20, .s (.c (.p (PV.row 0 0 try1)))), (125, .s (.c (.p (PV.row 0 0 t125)))), (126, .s (.c (.p (PV.int .i64 t126)))), (127, .s (.c (.p (PV.int .i64 t127))))], [.box [.p (PV.int .i64 n1), .p (PV.int .i64 n11), .p (PV.row 2 0 l), .p (PV.row 2 0 l1)]]⟩
/-! 12 : laws.big -/
def c12 (k : Nat) (code more : List PV) : R := evF P E T k 12 [.s (.c (.p (PV.row 0 0 code))), .s (.c (.p (PV.row 0 0 more)))] []
def r12 (b : Bool) : R := some ([.c (.p (PV.bool b))], [])
def R12 (x0 : R) (K0 : Bool → R) : R := x0.bind fun q0 => bif lensB q0.2 [] && lensS q0.1 [.c (.p (.bool))] then (cBool (resAt q0.1 0)).bind fun b => K0 b else none
@[simp] theorem R12_r (b : Bool) (K0 : Bool → R) : R12 (r12 b) K0 = K0 b := by kernel_rfl
/-! 38 : spec.DrawFirstApart -/
def c38 (k : Nat) (code : List PV) : R := evF P E T k 38 [.s (.c (.p (PV.row 0 0 code)))] []
def r38 (qr qr1 : Int) (l l1 l2 l3 l4 : List PV) : R := some ([.agg [.p (PV.int .i64 qr), .p (PV.int .i64 qr1), .p (PV.row 2 0 l), .p (PV.row 2 0 l1)], .c (.p (PV.row 0 0 l2)), .c (.p (PV.row 0 0 l3)), .c (.p (PV.row 0 0 l4))], [])
def R38 (x0 : R) (K0 : Int → Int → List PV → List PV → List PV → List PV → List PV → R) : R := x0.bind fun q0 => bif lensB q0.2 [] && lensS q0.1 [.agg [.p (.int .i64), .p (.int .i64), .p (.row 2), .p (.row 2)], .c (.p (.row 0)), .c (.p (.row 0)), .c (.p (.row 0))] then (cInt (Dp.partAt q0.1 0 0) .i64).bind fun qr => (cInt (Dp.partAt q0.1 0 1) .i64).bind fun qr1 => (cRow (Dp.partAt q0.1 0 2) 2).bind fun l => (cRow (Dp.partAt q0.1 0 3) 2).bind fun l1 => (cRow (resAt q0.1 1) 0).bind fun l2 => (cRow (resAt q0.1 2) 0).bind fun l3 => (cRow (resAt q0.1 3) 0).bind fun l4 => K0 qr qr1 l l1 l2 l3 l4 else none
@[simp] theorem R38_r (qr qr1 : Int) (l l1 l2 l3 l4 : List PV) (K0 : Int → Int → List PV → List PV → List PV → List PV → List PV → R) : R38 (r38 qr qr1 l l1 l2 l3 l4) K0 = K0 qr qr1 l l1 l2 l3 l4 := by kernel_rfl
/-! 39 : impl.FirstApart -/
def c39 (k : Nat) (p p1 : Int) (p2 p3 terms a b : List PV) : R := evF P E T k 39 [.s (.c (.p (PV.agg [.int .i64 p, .int .i64 p1, .row 2 0 p2, .row 2 0 p3]))), .s (.c (.p (PV.row 0 0 terms))), .s (.c (.p (PV.row 0 0 a))), .s (.c (.p (PV.row 0 0 b)))] []
def r39 (qr : Int) (b : Bool) : R := some ([.c (.p (PV.int .i64 qr)), .c (.p (PV.bool b))], [])
def R39 (x0 : R) (K0 : Int → Bool → R) : R := x0.bind fun q0 => bif lensB q0.2 [] && lensS q0.1 [.c (.p (.int .i64)), .c (.p (.bool))] then (cInt (resAt q0.1 0) .i64).bind fun qr => (cBool (resAt q0.1 1)).bind fun b => K0 qr b else none
@[simp] theorem R39_r (qr : Int) (b : Bool) (K0 : Int → Bool → R) : R39 (r39 qr b) K0 = K0 qr b := by kernel_rfl
/-! 40 : spec.FirstApart -/
def c40 (k : Nat) (p p1 : Int) (p2 p3 terms a b : List PV) : R := evF P E T k 40 [.s (.c (.p (PV.agg [.int .i64 p, .int .i64 p1, .row 2 0 p2, .row 2 0 p3]))), .s (.c (.p (PV.row 0 0 terms))), .s (.c (.p (PV.row 0 0 a))), .s (.c (.p (PV.row 0 0 b)))] []
def r40 (qr : Int) (b : Bool) : R := some ([.c (.p (PV.int .i64 qr)), .c (.p (PV.bool b))], [])
def R40 (x0 : R) (K0 : Int → Bool → R) : R := x0.bind fun q0 => bif lensB q0.2 [] && lensS q0.1 [.c (.p (.int .i64)), .c (.p (.bool))] then (cInt (resAt q0.1 0) .i64).bind fun qr => (cBool (resAt q0.1 1)).bind fun b => K0 qr b else none
@[simp] theorem R40_r (qr : Int) (b : Bool) (K0 : Int → Bool → R) : R40 (r40 qr b) K0 = K0 qr b := by kernel_rfl
def L40_1 (k n : Nat) (terms a b t33 : List PV) (t34 t35 n1 n11 : Int) (l l1 : List PV) : R := evLoopAt P E T k 40 40 [] [1, 1, 0, 1, 0] [] n ⟨mkT 52 [(1, .s (.c (.p (PV.row 0 0 terms)))), (2, .s (.c (.p (PV.row 0 0 a)))), (3, .s (.c (.p (PV.row 0 0 b)))), (4, .s (.c (.bptr 0 0))), (33, .s (.c (.p (PV.row 0 0 t33)))), (34, .s (.c (.p (PV.int .i64 t34)))), (35, .s (.c (.p (PV.int .i64 t35))))], [.box [.p (PV.int .i64 n1), .p (PV.int .i64 n11), .p (PV.row 2 0 l), .p (PV.row 2 0 l1)]]⟩
/-! 41 : impl.Separates -/
def c41 (k : Nat) (p p1 : Int) (p2 p3 t a b : List PV) : R := evF P E T k 41 [.s (.c (.p (PV.agg [.int .i64 p, .int .i64 p1, .row 2 0 p2, .row 2 0 p3]))), .s (.c (.p (PV.row 2 0 t))), .s (.c (.p (PV.row 0 0 a))), .s (.c (.p (PV.row 0 0 b)))] []
def r41 (b b1 : Bool) : R := some ([.c (.p (PV.bool b)), .c (.p (PV.bool b1))], [])
def R41 (x0 : R) (K0 : Bool → Bool → R) : R := x0.bind fun q0 => bif lensB q0.2 [] && lensS q0.1 [.c (.p (.bool)), .c (.p (.bool))] then (cBool (resAt q0.1 0)).bind fun b => (cBool (resAt q0.1 1)).bind fun b1 => K0 b b1 else none
@[simp] theorem R41_r (b b1 : Bool) (K0 : Bool → Bool → R) : R41 (r41 b b1) K0 = K0 b b1 := by kernel_rfl
/-! 42 : spec.DrawTryTerms -/
def c42 (k : Nat) (code : List PV) : R := evF P E T k 42 [.s (.c (.p (PV.row 0 0 code)))] []
def r42 (qr qr1 : Int) (l l1 l2 : List PV) : R := some ([.agg [.p (PV.int .i64 qr), .p (PV.int .i64 qr1), .p (PV.row 2 0 l), .p (PV.row 2 0 l1)], .c (.p (PV.row 0 0 l2))], [])
def R42 (x0 : R) (K0 : Int → Int → List PV → List PV → List PV → R) : R := x0.bind fun q0 => bif lensB q0.2 [] && lensS q0.1 [.agg [.p (.int .i64), .p (.int .i64), .p (.row 2), .p (.row 2)], .c (.p (.row 0))] then (cInt (Dp.partAt q0.1 0 0) .i64).bind fun qr => (cInt (Dp.partAt q0.1 0 1) .i64).bind fun qr1 => (cRow (Dp.partAt q0.1 0 2) 2).bind fun l => (cRow (Dp.partAt q0.1 0 3) 2).bind fun l1 => (cRow (resAt q0.1 1) 0).bind fun l2 => K0 qr qr1 l l1 l2 else none
@[simp] theorem R42_r (qr qr1 : Int) (l l1 l2 : List PV) (K0 : Int → Int → List PV → List PV → List PV → R) : R42 (r42 qr qr1 l l1 l2) K0 = K0 qr qr1 l l1 l2 := by kernel_rfl
/-! 43 : impl.TryTerms -/
def c43 (k : Nat) (p p1 : Int) (p2 p3 preds : List PV) : R := evF P E T k 43 [.s (.c (.p (PV.agg [.int .i64 p, .int .i64 p1, .row 2 0 p2, .row 2 0 p3]))), .s (.c (.p (PV.row 0 0 preds)))] []
def r43 (l : List PV) (b : Bool) : R := some ([.c (.p (PV.row 0 0 l)), .c (.p (PV.bool b))], [])
def R43 (x0 : R) (K0 : List PV → Bool → R) : R := x0.bind fun q0 => bif lensB q0.2 [] && lensS q0.1 [.c (.p (.row 0)), .c (.p (.bool))] then (cRow (resAt q0.1 0) 0).bind fun l => (cBool (resAt q0.1 1)).bind fun b => K0 l b else none
@[simp] theorem R43_r (l : List PV) (b : Bool) (K0 : List PV → Bool → R) : R43 (r43 l b) K0 = K0 l b := by kernel_rfl
/-! 44 : spec.TryTerms -/
def c44 (k : Nat) (p p1 : Int) (p2 p3 preds : List PV) : R := evF P E T k 44 [.s (.c (.p (PV.agg [.int .i64 p, .int .i64 p1, .row 2 0 p2, .row 2 0 p3]))), .s (.c (.p (PV.row 0 0 preds)))] []
def r44 (l : List PV) (b : Bool) : R := some ([.c (.p (PV.row 0 0 l)), .c (.p (PV.bool b))], [])
def R44 (x0 : R) (K0 : List PV → Bool → R) : R := x0.bind fun q0 => bif lensB q0.2 [] && lensS q0.1 [.c (.p (.row 0)), .c (.p (.bool))] then (cRow (resAt q0.1 0) 0).bind fun l => (cBool (resAt q0.1 1)).bind fun b => K0 l b else none
@[simp] theorem R44_r (l : List PV) (b : Bool) (K0 : List PV → Bool → R) : R44 (r44 l b) K0 = K0 l b := by kernel_rfl
/-! 45 : impl.KindOf -/
def c45 (k : Nat) (wide vars : Int) (t : List PV) : R := evF P E T k 45 [.s (.c (.p (PV.int .i64 wide))), .s (.c (.p (PV.int .i64 vars))), .s (.c (.p (PV.row 2 0 t)))] []
def r45 (qr : Int) (b : Bool) : R := some ([.c (.p (PV.int .i64 qr)), .c (.p (PV.bool b))], [])
def R45 (x0 : R) (K0 : Int → Bool → R) : R := x0.bind fun q0 => bif lensB q0.2 [] && lensS q0.1 [.c (.p (.int .i64)), .c (.p (.bool))] then (cInt (resAt q0.1 0) .i64).bind fun qr => (cBool (resAt q0.1 1)).bind fun b => K0 qr b else none
@[simp] theorem R45_r (qr : Int) (b : Bool) (K0 : Int → Bool → R) : R45 (r45 qr b) K0 = K0 qr b := by kernel_rfl
/-! 46 : laws.sameNodes -/
def c46 (k : Nat) (a b : List PV) : R := evF P E T k 46 [.s (.c (.p (PV.row 2 0 a))), .s (.c (.p (PV.row 2 0 b)))] []
def r46 (b : Bool) : R := some ([.c (.p (PV.bool b))], [])
def R46 (x0 : R) (K0 : Bool → R) : R := x0.bind fun q0 => bif lensB q0.2 [] && lensS q0.1 [.c (.p (.bool))] then (cBool (resAt q0.1 0)).bind fun b => K0 b else none
@[simp] theorem R46_r (b : Bool) (K0 : Bool → R) : R46 (r46 b) K0 = K0 b := by kernel_rfl
def L46_1 (k n : Nat) (a b : List PV) (t12 t13 : Int) : R := evLoopAt P E T k 46 46 [] [1, 1, 0, 1, 0] [] n ⟨mkT 26 [(0, .s (.c (.p (PV.row 2 0 a)))), (1, .s (.c (.p (PV.row 2 0 b)))), (12, .s (.c (.p (PV.int .i64 t12)))), (13, .s (.c (.p (PV.int .i64 t13))))], []⟩
/-! 47 : spec.DrawSeparates -/
def c47 (k : Nat) (code : List PV) : R := evF P E T k 47 [.s (.c (.p (PV.row 0 0 code)))] []
def r47 (qr qr1 : Int) (l l1 l2 l3 l4 : List PV) : R := some ([.agg [.p (PV.int .i64 qr), .p (PV.int .i64 qr1), .p (PV.row 2 0 l), .p (PV.row 2 0 l1)], .c (.p (PV.row 2 0 l2)), .c (.p (PV.row 0 0 l3)), .c (.p (PV.row 0 0 l4))], [])
def R47 (x0 : R) (K0 : Int → Int → List PV → List PV → List PV → List PV → List PV → R) : R := x0.bind fun q0 => bif lensB q0.2 [] && lensS q0.1 [.agg [.p (.int .i64), .p (.int .i64), .p (.row 2), .p (.row 2)], .c (.p (.row 2)), .c (.p (.row 0)), .c (.p (.row 0))] then (cInt (Dp.partAt q0.1 0 0) .i64).bind fun qr => (cInt (Dp.partAt q0.1 0 1) .i64).bind fun qr1 => (cRow (Dp.partAt q0.1 0 2) 2).bind fun l => (cRow (Dp.partAt q0.1 0 3) 2).bind fun l1 => (cRow (resAt q0.1 1) 2).bind fun l2 => (cRow (resAt q0.1 2) 0).bind fun l3 => (cRow (resAt q0.1 3) 0).bind fun l4 => K0 qr qr1 l l1 l2 l3 l4 else none
@[simp] theorem R47_r (qr qr1 : Int) (l l1 l2 l3 l4 : List PV) (K0 : Int → Int → List PV → List PV → List PV → List PV → List PV → R) : R47 (r47 qr qr1 l l1 l2 l3 l4) K0 = K0 qr qr1 l l1 l2 l3 l4 := by kernel_rfl
def L47_1 (k n : Nat) (t in1 : List PV) (outLen : Nat) (no n1 n11 : Int) (l l1 : List PV) (n12 n13 : Int) (l2 l3 xs : List PV) : R := evLoopAt P E T k 47 47 [] [1, 1, 1, 1, 0, 1, 0, 1, 1, 0, 1, 0] [] n ⟨mkT 58 [(2, .s (.c (.bptr 0 0))), (7, .s (.c (.bptr 1 0))), (8, .s (.c (.p (PV.row 2 0 t)))), (9, .s (.c (.p (PV.row 0 0 in1)))), (10, .s (.c (.loc 2 0 0 0 outLen))), (11, .s (.c (.p (PV.int .i64 no))))], [.box [.p (PV.int .i64 n1), .p (PV.int .i64 n11), .p (PV.row 2 0 l), .p (PV.row 2 0 l1)], .box [.p (PV.int .i64 n12), .p (PV.int .i64 n13), .p (PV.row 2 0 l2), .p (PV.row 2 0 l3)], .arr 3 0 0 false xs]⟩
/-! 48 : spec.Separates -/
def c48 (k : Nat) (p p1 : Int) (p2 p3 t a b : List PV) : R := evF P E T k 48 [.s (.c (.p (PV.agg [.int .i64 p, .int .i64 p1, .row 2 0 p2, .row 2 0 p3]))), .s (.c (.p (PV.row 2 0 t))), .s (.c (.p (PV.row 0 0 a))), .s (.c (.p (PV.row 0 0 b)))] []
def r48 (b b1 : Bool) : R := some ([.c (.p (PV.bool b)), .c (.p (PV.bool b1))], [])
def R48 (x0 : R) (K0 : Bool → Bool → R) : R := x0.bind fun q0 => bif lensB q0.2 [] && lensS q0.1 [.c (.p (.bool)), .c (.p (.bool))] then (cBool (resAt q0.1 0)).bind fun b => (cBool (resAt q0.1 1)).bind fun b1 => K0 b b1 else none
@[simp] theorem R48_r (b b1 : Bool) (K0 : Bool → Bool → R) : R48 (r48 b b1) K0 = K0 b b1 := by kernel_rfl
/-! 105 : spec.l1Cur).small -/
def c105 (k : Nat) (l : List PV) (n1 n11 : Int) : R := evF P E T k 105 [.s (.c (.bptr 0 0))] [[.p (PV.row 0 0 l), .p (PV.int .i64 n1), .p (PV.int .u64 n11)]]
def r105 (l : List PV) (qr qr1 qr2 qr3 : Int) (l1 l2 : List PV) : R := some ([.agg [.p (PV.int .i64 qr2), .p (PV.int .i64 qr3), .p (PV.row 2 0 l1), .p (PV.row 2 0 l2)]], [[.p (PV.row 0 0 l), .p (PV.int .i64 qr), .p (PV.int .u64 qr1)]])
def R105 (x0 : R) (K0 : List PV → Int → Int → Int → Int → List PV → List PV → R) : R := x0.bind fun q0 => bif lensB q0.2 [[.p (.row 0), .p (.int .i64), .p (.int .u64)]] && lensS q0.1 [.agg [.p (.int .i64), .p (.int .i64), .p (.row 2), .p (.row 2)]] then (cRow (cellAt q0.2 0 0) 0).bind fun l => (cInt (cellAt q0.2 0 1) .i64).bind fun qr => (cInt (cellAt q0.2 0 2) .u64).bind fun qr1 => (cInt (Dp.partAt q0.1 0 0) .i64).bind fun qr2 => (cInt (Dp.partAt q0.1 0 1) .i64).bind fun qr3 => (cRow (Dp.partAt q0.1 0 2) 2).bind fun l1 => (cRow (Dp.partAt q0.1 0 3) 2).bind fun l2 => K0 l qr qr1 qr2 qr3 l1 l2 else none
@[simp] theorem R105_r (l : List PV) (qr qr1 qr2 qr3 : Int) (l1 l2 : List PV) (K0 : List PV → Int → Int → Int → Int → List PV → List PV → R) : R105 (r105 l qr qr1 qr2 qr3 l1 l2) K0 = K0 l qr qr1 qr2 qr3 l1 l2 := by kernel_rfl
def L105_1 (k n : Nat) (wide vars : Int) (l : List PV) (n1 n11 n12 n13 : Int) (l1 l2 : List PV) : R := evLoopAt P E T k 105 105 [3] [1, 1, 1, 1, 0, 0] [] n ⟨mkT 67 [(0, .s (.c (.bptr 0 0))), (2, .s (.c (.bptr 1 0))), (3, .s (.c (.p (PV.int .i64 wide)))), (4, .s (.c (.p (PV.int .i64 vars))))], [.box [.p (PV.row 0 0 l), .p (PV.int .i64 n1), .p (PV.int .u64 n11)], .box [.p (PV.int .i64 n12), .p (PV.int .i64 n13), .p (PV.row 2 0 l1), .p (PV.row 2 0 l2)]]⟩
/-! 107 : spec.l1Cur).asked -/
def c107 (k : Nat) (wide vars deep : Int) (l : List PV) (n1 n11 : Int) : R := evF P E T k 107 [.s (.c (.bptr 0 0)), .s (.c (.p (PV.int .i64 wide))), .s (.c (.p (PV.int .i64 vars))), .s (.c (.p (PV.int .i64 deep)))] [[.p (PV.row 0 0 l), .p (PV.int .i64 n1), .p (PV.int .u64 n11)]]
def r107 (l : List PV) (qr qr1 : Int) (l1 : List PV) : R := some ([.c (.own 176 2 l1)], [[.p (PV.row 0 0 l), .p (PV.int .i64 qr), .p (PV.int .u64 qr1)]])
def R107 (x0 : R) (K0 : List PV → Int → Int → List PV → R) : R := x0.bind fun q0 => bif lensB q0.2 [[.p (.row 0), .p (.int .i64), .p (.int .u64)]] && lensS q0.1 [.c (.own 176 2)] then (cRow (cellAt q0.2 0 0) 0).bind fun l => (cInt (cellAt q0.2 0 1) .i64).bind fun qr => (cInt (cellAt q0.2 0 2) .u64).bind fun qr1 => (asOwn 176 2 (resAt q0.1 0)).bind fun l1 => K0 l qr qr1 l1 else none
@[simp] theorem R107_r (l : List PV) (qr qr1 : Int) (l1 : List PV) (K0 : List PV → Int → Int → List PV → R) : R107 (r107 l qr qr1 l1) K0 = K0 l qr qr1 l1 := by kernel_rfl
/-! 108 : spec.l2One -/
def c108 (k : Nat) (n1 : Int) : R := evF P E T k 108 [.s (.c (.p (PV.int .i64 n1)))] []
def r108 (qr : Int) : R := some ([.c (.p (PV.int .i64 qr))], [])
def R108 (x0 : R) (K0 : Int → R) : R := x0.bind fun q0 => bif lensB q0.2 [] && lensS q0.1 [.c (.p (.int .i64))] then (cInt (resAt q0.1 0) .i64).bind fun qr => K0 qr else none
@[simp] theorem R108_r (qr : Int) (K0 : Int → R) : R108 (r108 qr) K0 = K0 qr := by kernel_rfl
/-! 110 : spec.l7Asks -/
def c110 (k : Nat) (p p1 : Int) (p2 p3 t : List PV) : R := evF P E T k 110 [.s (.c (.p (PV.agg [.int .i64 p, .int .i64 p1, .row 2 0 p2, .row 2 0 p3]))), .s (.c (.p (PV.row 2 0 t)))] []
def r110 (b : Bool) : R := some ([.c (.p (PV.bool b))], [])
def R110 (x0 : R) (K0 : Bool → R) : R := x0.bind fun q0 => bif lensB q0.2 [] && lensS q0.1 [.c (.p (.bool))] then (cBool (resAt q0.1 0)).bind fun b => K0 b else none
@[simp] theorem R110_r (b : Bool) (K0 : Bool → R) : R110 (r110 b) K0 = K0 b := by kernel_rfl
/-! 112 : impl.isSmall -/
def c112 (k : Nat) (p p1 : Int) (p2 p3 : List PV) : R := evF P E T k 112 [.s (.c (.p (PV.agg [.int .i64 p, .int .i64 p1, .row 2 0 p2, .row 2 0 p3])))] []
def r112 (b : Bool) : R := some ([.c (.p (PV.bool b))], [])
def R112 (x0 : R) (K0 : Bool → R) : R := x0.bind fun q0 => bif lensB q0.2 [] && lensS q0.1 [.c (.p (.bool))] then (cBool (resAt q0.1 0)).bind fun b => K0 b else none
@[simp] theorem R112_r (b : Bool) (K0 : Bool → R) : R112 (r112 b) K0 = K0 b := by kernel_rfl
/-! 114 : impl.Program).states -/
def c114 (k : Nat) (p p1 : Int) (p2 p3 : List PV) : R := evF P E T k 114 [.s (.c (.p (PV.agg [.int .i64 p, .int .i64 p1, .row 2 0 p2, .row 2 0 p3])))] []
def r114 (qr : Int) : R := some ([.c (.p (PV.int .i64 qr))], [])
def R114 (x0 : R) (K0 : Int → R) : R := x0.bind fun q0 => bif lensB q0.2 [] && lensS q0.1 [.c (.p (.int .i64))] then (cInt (resAt q0.1 0) .i64).bind fun qr => K0 qr else none
@[simp] theorem R114_r (qr : Int) (K0 : Int → R) : R114 (r114 qr) K0 = K0 qr := by kernel_rfl
/-! 115 : spec.l7Small -/
def c115 (k : Nat) (p p1 : Int) (p2 p3 : List PV) : R := evF P E T k 115 [.s (.c (.p (PV.agg [.int .i64 p, .int .i64 p1, .row 2 0 p2, .row 2 0 p3])))] []
def r115 (b : Bool) : R := some ([.c (.p (PV.bool b))], [])
def R115 (x0 : R) (K0 : Bool → R) : R := x0.bind fun q0 => bif lensB q0.2 [] && lensS q0.1 [.c (.p (.bool))] then (cBool (resAt q0.1 0)).bind fun b => K0 b else none
@[simp] theorem R115_r (b : Bool) (K0 : Bool → R) : R115 (r115 b) K0 = K0 b := by kernel_rfl
/-! 116 : spec.l7Many -/
def c116 (k : Nat) (p p1 : Int) (p2 p3 : List PV) : R := evF P E T k 116 [.s (.c (.p (PV.agg [.int .i64 p, .int .i64 p1, .row 2 0 p2, .row 2 0 p3])))] []
def r116 (qr : Int) : R := some ([.c (.p (PV.int .i64 qr))], [])
def R116 (x0 : R) (K0 : Int → R) : R := x0.bind fun q0 => bif lensB q0.2 [] && lensS q0.1 [.c (.p (.int .i64))] then (cInt (resAt q0.1 0) .i64).bind fun qr => K0 qr else none
@[simp] theorem R116_r (qr : Int) (K0 : Int → R) : R116 (r116 qr) K0 = K0 qr := by kernel_rfl
/-! 117 : spec.l1In -/
def c117 (k : Nat) (n1 lo hi : Int) : R := evF P E T k 117 [.s (.c (.p (PV.int .i64 n1))), .s (.c (.p (PV.int .i64 lo))), .s (.c (.p (PV.int .i64 hi)))] []
def r117 (b : Bool) : R := some ([.c (.p (PV.bool b))], [])
def R117 (x0 : R) (K0 : Bool → R) : R := x0.bind fun q0 => bif lensB q0.2 [] && lensS q0.1 [.c (.p (.bool))] then (cBool (resAt q0.1 0)).bind fun b => K0 b else none
@[simp] theorem R117_r (b : Bool) (K0 : Bool → R) : R117 (r117 b) K0 = K0 b := by kernel_rfl
/-! 120 : impl.Program).arePreds -/
def c120 (k : Nat) (p p1 : Int) (p2 p3 preds : List PV) (least : Int) : R := evF P E T k 120 [.s (.c (.p (PV.agg [.int .i64 p, .int .i64 p1, .row 2 0 p2, .row 2 0 p3]))), .s (.c (.p (PV.row 0 0 preds))), .s (.c (.p (PV.int .i64 least)))] []
def r120 (b : Bool) : R := some ([.c (.p (PV.bool b))], [])
def R120 (x0 : R) (K0 : Bool → R) : R := x0.bind fun q0 => bif lensB q0.2 [] && lensS q0.1 [.c (.p (.bool))] then (cBool (resAt q0.1 0)).bind fun b => K0 b else none
@[simp] theorem R120_r (b : Bool) (K0 : Bool → R) : R120 (r120 b) K0 = K0 b := by kernel_rfl
/-! 121 : impl.Program).stateOf -/
def c121 (k : Nat) (p p1 : Int) (p2 p3 : List PV) (no : Int) : R := evF P E T k 121 [.s (.c (.p (PV.agg [.int .i64 p, .int .i64 p1, .row 2 0 p2, .row 2 0 p3]))), .s (.c (.p (PV.int .i64 no)))] []
def r121 (l : List PV) : R := some ([.c (.p (PV.row 0 0 l))], [])
def R121 (x0 : R) (K0 : List PV → R) : R := x0.bind fun q0 => bif lensB q0.2 [] && lensS q0.1 [.c (.p (.row 0))] then (cRow (resAt q0.1 0) 0).bind fun l => K0 l else none
@[simp] theorem R121_r (l : List PV) (K0 : List PV → R) : R121 (r121 l) K0 = K0 l := by kernel_rfl
def L121_1 (k n : Nat) (no : Int) (outLen : Nat) (t9 t10 n1 n11 : Int) (l l1 xs : List PV) : R := evLoopAt P E T k 121 121 [] [1, 1, 0, 1, 0] [] n ⟨mkT 29 [(1, .s (.c (.p (PV.int .i64 no)))), (2, .s (.c (.bptr 0 0))), (5, .s (.c (.loc 1 0 0 0 outLen))), (9, .s (.c (.p (PV.int .i64 t9)))), (10, .s (.c (.p (PV.int .i64 t10))))], [.box [.p (PV.int .i64 n1), .p (PV.int .i64 n11), .p (PV.row 2 0 l), .p (PV.row 2 0 l1)], .arr 55 0 0 false xs]⟩
/-! 122 : impl.valueOf -/
def c122 (k : Nat) (wide : Int) (t state : List PV) : R := evF P E T k 122 [.s (.c (.p (PV.int .i64 wide))), .s (.c (.p (PV.row 2 0 t))), .s (.c (.p (PV.row 0 0 state)))] []
def r122 (qr : Int) : R := some ([.c (.p (PV.int .u64 qr))], [])
def R122 (x0 : R) (K0 : Int → R) : R := x0.bind fun q0 => bif lensB q0.2 [] && lensS q0.1 [.c (.p (.int .u64))] then (cInt (resAt q0.1 0) .u64).bind fun qr => K0 qr else none
@[simp] theorem R122_r (qr : Int) (K0 : Int → R) : R122 (r122 qr) K0 = K0 qr := by kernel_rfl
def L122_1 (k n : Nat) (wide : Int) (state : List PV) (stackLen : Nat) (t12 : List PV) (t13 t14 : Int) (xs : List PV) : R := evLoopAt P E T k 122 122 [] [1, 1, 0, 1, 0] [] n ⟨mkT 87 [(0, .s (.c (.p (PV.int .i64 wide)))), (2, .s (.c (.p (PV.row 0 0 state)))), (7, .s (.c (.loc 0 0 0 0 stackLen))), (12, .s (.c (.p (PV.row 2 0 t12)))), (13, .s (.c (.p (PV.int .i64 t13)))), (14, .s (.c (.p (PV.int .i64 t14))))], [.arr 55 0 0 false xs]⟩
/-! 128 : spec.l1Cur).among -/
def c128 (k : Nat) (list l : List PV) (n1 n11 : Int) : R := evF P E T k 128 [.s (.c (.bptr 0 0)), .s (.c (.p (PV.row 0 0 list)))] [[.p (PV.row 0 0 l), .p (PV.int .i64 n1), .p (PV.int .u64 n11)]]
def r128 (l : List PV) (qr qr1 qr2 : Int) : R := some ([.c (.p (PV.int .i64 qr2))], [[.p (PV.row 0 0 l), .p (PV.int .i64 qr), .p (PV.int .u64 qr1)]])
def R128 (x0 : R) (K0 : List PV → Int → Int → Int → R) : R := x0.bind fun q0 => bif lensB q0.2 [[.p (.row 0), .p (.int .i64), .p (.int .u64)]] && lensS q0.1 [.c (.p (.int .i64))] then (cRow (cellAt q0.2 0 0) 0).bind fun l => (cInt (cellAt q0.2 0 1) .i64).bind fun qr => (cInt (cellAt q0.2 0 2) .u64).bind fun qr1 => (cInt (resAt q0.1 0) .i64).bind fun qr2 => K0 l qr qr1 qr2 else none
@[simp] theorem R128_r (l : List PV) (qr qr1 qr2 : Int) (K0 : List PV → Int → Int → Int → R) : R128 (r128 l qr qr1 qr2) K0 = K0 l qr qr1 qr2 := by kernel_rfl
/-! 137 : impl.Program).holds -/
def c137 (k : Nat) (p p1 : Int) (p2 p3 t qs : List PV) : R := evF P E T k 137 [.s (.c (.p (PV.agg [.int .i64 p, .int .i64 p1, .row 2 0 p2, .row 2 0 p3]))), .s (.c (.p (PV.row 2 0 t))), .s (.c (.p (PV.row 0 0 qs)))] []
def r137 (b : Bool) : R := some ([.c (.p (PV.bool b))], [])
def R137 (x0 : R) (K0 : Bool → R) : R := x0.bind fun q0 => bif lensB q0.2 [] && lensS q0.1 [.c (.p (.bool))] then (cBool (resAt q0.1 0)).bind fun b => K0 b else none
@[simp] theorem R137_r (b : Bool) (K0 : Bool → R) : R137 (r137 b) K0 = K0 b := by kernel_rfl
/-! 143 : spec.l1Cur).pick -/
def c143 (k : Nat) (n1 : Int) (l : List PV) (n11 n12 : Int) : R := evF P E T k 143 [.s (.c (.bptr 0 0)), .s (.c (.p (PV.int .i64 n1)))] [[.p (PV.row 0 0 l), .p (PV.int .i64 n11), .p (PV.int .u64 n12)]]
def r143 (l : List PV) (qr qr1 qr2 : Int) : R := some ([.c (.p (PV.int .i64 qr2))], [[.p (PV.row 0 0 l), .p (PV.int .i64 qr), .p (PV.int .u64 qr1)]])
def R143 (x0 : R) (K0 : List PV → Int → Int → Int → R) : R := x0.bind fun q0 => bif lensB q0.2 [[.p (.row 0), .p (.int .i64), .p (.int .u64)]] && lensS q0.1 [.c (.p (.int .i64))] then (cRow (cellAt q0.2 0 0) 0).bind fun l => (cInt (cellAt q0.2 0 1) .i64).bind fun qr => (cInt (cellAt q0.2 0 2) .u64).bind fun qr1 => (cInt (resAt q0.1 0) .i64).bind fun qr2 => K0 l qr qr1 qr2 else none
@[simp] theorem R143_r (l : List PV) (qr qr1 qr2 : Int) (K0 : List PV → Int → Int → Int → R) : R143 (r143 l qr qr1 qr2) K0 = K0 l qr qr1 qr2 := by kernel_rfl
/-! 145 : spec.l1Cur).one -/
def c145 (k : Nat) (n1 : Int) (l : List PV) (n11 n12 : Int) : R := evF P E T k 145 [.s (.c (.bptr 0 0)), .s (.c (.p (PV.int .i64 n1)))] [[.p (PV.row 0 0 l), .p (PV.int .i64 n11), .p (PV.int .u64 n12)]]
def r145 (l : List PV) (qr qr1 : Int) (b : Bool) : R := some ([.c (.p (PV.bool b))], [[.p (PV.row 0 0 l), .p (PV.int .i64 qr), .p (PV.int .u64 qr1)]])
def R145 (x0 : R) (K0 : List PV → Int → Int → Bool → R) : R := x0.bind fun q0 => bif lensB q0.2 [[.p (.row 0), .p (.int .i64), .p (.int .u64)]] && lensS q0.1 [.c (.p (.bool))] then (cRow (cellAt q0.2 0 0) 0).bind fun l => (cInt (cellAt q0.2 0 1) .i64).bind fun qr => (cInt (cellAt q0.2 0 2) .u64).bind fun qr1 => (cBool (resAt q0.1 0)).bind fun b => K0 l qr qr1 b else none
@[simp] theorem R145_r (l : List PV) (qr qr1 : Int) (b : Bool) (K0 : List PV → Int → Int → Bool → R) : R145 (r145 l qr qr1 b) K0 = K0 l qr qr1 b := by kernel_rfl
/-! 148 : spec.l1Cur).preds -/
def c148 (k : Nat) (p p1 : Int) (p2 p3 : List PV) (most : Int) (l : List PV) (n1 n11 : Int) : R := evF P E T k 148 [.s (.c (.bptr 0 0)), .s (.c (.p (PV.agg [.int .i64 p, .int .i64 p1, .row 2 0 p2, .row 2 0 p3]))), .s (.c (.p (PV.int .i64 most)))] [[.p (PV.row 0 0 l), .p (PV.int .i64 n1), .p (PV.int .u64 n11)]]
def r148 (l : List PV) (qr qr1 : Int) (l1 : List PV) : R := some ([.c (.p (PV.row 0 0 l1))], [[.p (PV.row 0 0 l), .p (PV.int .i64 qr), .p (PV.int .u64 qr1)]])
def R148 (x0 : R) (K0 : List PV → Int → Int → List PV → R) : R := x0.bind fun q0 => bif lensB q0.2 [[.p (.row 0), .p (.int .i64), .p (.int .u64)]] && lensS q0.1 [.c (.p (.row 0))] then (cRow (cellAt q0.2 0 0) 0).bind fun l => (cInt (cellAt q0.2 0 1) .i64).bind fun qr => (cInt (cellAt q0.2 0 2) .u64).bind fun qr1 => (cRow (resAt q0.1 0) 0).bind fun l1 => K0 l qr qr1 l1 else none
@[simp] theorem R148_r (l : List PV) (qr qr1 : Int) (l1 : List PV) (K0 : List PV → Int → Int → List PV → R) : R148 (r148 l qr qr1 l1) K0 = K0 l qr qr1 l1 := by kernel_rfl
def L148_1 (k n : Nat) (lLen : Nat) (n1 : Int) (l : List PV) (n11 n12 n13 n14 : Int) (l1 l2 xs : List PV) : R := evLoopAt P E T k 148 148 [3] [1, 1, 0, 1, 0] [] n ⟨mkT 31 [(0, .s (.c (.bptr 0 0))), (4, .s (.c (.bptr 1 0))), (7, .s (.c (.loc 2 0 0 0 lLen))), (8, .s (.c (.p (PV.int .i64 n1))))], [.box [.p (PV.row 0 0 l), .p (PV.int .i64 n11), .p (PV.int .u64 n12)], .box [.p (PV.int .i64 n13), .p (PV.int .i64 n14), .p (PV.row 2 0 l1), .p (PV.row 2 0 l2)], .arr 24 0 0 false xs]⟩
/-! 149 : spec.l1Cur).someOf -/
def c149 (k : Nat) (n1 most : Int) (l : List PV) (n11 n12 : Int) : R := evF P E T k 149 [.s (.c (.bptr 0 0)), .s (.c (.p (PV.int .i64 n1))), .s (.c (.p (PV.int .i64 most)))] [[.p (PV.row 0 0 l), .p (PV.int .i64 n11), .p (PV.int .u64 n12)]]
def r149 (l : List PV) (qr qr1 : Int) (l1 : List PV) : R := some ([.c (.p (PV.row 0 0 l1))], [[.p (PV.row 0 0 l), .p (PV.int .i64 qr), .p (PV.int .u64 qr1)]])
def R149 (x0 : R) (K0 : List PV → Int → Int → List PV → R) : R := x0.bind fun q0 => bif lensB q0.2 [[.p (.row 0), .p (.int .i64), .p (.int .u64)]] && lensS q0.1 [.c (.p (.row 0))] then (cRow (cellAt q0.2 0 0) 0).bind fun l => (cInt (cellAt q0.2 0 1) .i64).bind fun qr => (cInt (cellAt q0.2 0 2) .u64).bind fun qr1 => (cRow (resAt q0.1 0) 0).bind fun l1 => K0 l qr qr1 l1 else none
@[simp] theorem R149_r (l : List PV) (qr qr1 : Int) (l1 : List PV) (K0 : List PV → Int → Int → List PV → R) : R149 (r149 l qr qr1 l1) K0 = K0 l qr qr1 l1 := by kernel_rfl
def L149_1 (k n : Nat) (n1 : Int) (lLen : Nat) (k1 : Int) (l : List PV) (n11 n12 : Int) (xs : List PV) : R := evLoopAt P E T k 149 149 [3] [1, 1, 0, 1, 0] [] n ⟨mkT 29 [(0, .s (.c (.bptr 0 0))), (1, .s (.c (.p (PV.int .i64 n1)))), (7, .s (.c (.loc 1 0 0 0 lLen))), (8, .s (.c (.p (PV.int .i64 k1))))], [.box [.p (PV.row 0 0 l), .p (PV.int .i64 n11), .p (PV.int .u64 n12)], .arr 3 0 0 false xs]⟩
/-! 150 : impl.areTwoLists -/
def c150 (k : Nat) (p p1 : Int) (p2 p3 a b : List PV) : R := evF P E T k 150 [.s (.c (.p (PV.agg [.int .i64 p, .int .i64 p1, .row 2 0 p2, .row 2 0 p3]))), .s (.c (.p (PV.row 0 0 a))), .s (.c (.p (PV.row 0 0 b)))] []
def r150 (b : Bool) : R := some ([.c (.p (PV.bool b))], [])
def R150 (x0 : R) (K0 : Bool → R) : R := x0.bind fun q0 => bif lensB q0.2 [] && lensS q0.1 [.c (.p (.bool))] then (cBool (resAt q0.1 0)).bind fun b => K0 b else none
@[simp] theorem R150_r (b : Bool) (K0 : Bool → R) : R150 (r150 b) K0 = K0 b := by kernel_rfl
/-! 151f152 : impl.Node] -/
def c151f152 (k : Nat) (qs : List PV) (n1 n11 : Int) (l l1 : List PV) : R := evF P E T k 151 [.s (.c (.p (PV.row 0 0 qs))), .s (.c (.cfn 152 [PV.agg [.int .i64 n1, .int .i64 n11, .row 2 0 l, .row 2 0 l1]]))] []
def r151f152 (b : Bool) : R := some ([.c (.p (PV.bool b))], [])
def R151f152 (x0 : R) (K0 : Bool → R) : R := x0.bind fun q0 => bif lensB q0.2 [] && lensS q0.1 [.c (.p (.bool))] then (cBool (resAt q0.1 0)).bind fun b => K0 b else none
@[simp] theorem R151f152_r (b : Bool) (K0 : Bool → R) : R151f152 (r151f152 b) K0 = K0 b := by kernel_rfl
def R151f152p (x0 : R) (K0 : Bool → R) : R := x0.bind fun q0 => bif q0.1.all plainS && q0.2.all (fun cs => cs.all plainC) then (bif lensB q0.2 [] && lensS q0.1 [.c (.p (.bool))] then (cBool (resAt q0.1 0)).bind fun b => K0 b else none) else none
@[simp] theorem R151f152p_r (b : Bool) (K0 : Bool → R) : R151f152p (r151f152 b) K0 = K0 b := by kernel_rfl
/-! 151f233 : impl.Node] -/
def c151f233 (k : Nat) (qs : List PV) (n1 n11 : Int) (l l1 : List PV) : R := evF P E T k 151 [.s (.c (.p (PV.row 0 0 qs))), .s (.c (.cfn 233 [PV.agg [.int .i64 n1, .int .i64 n11, .row 2 0 l, .row 2 0 l1]]))] []
def r151f233 (b : Bool) : R := some ([.c (.p (PV.bool b))], [])
def R151f233 (x0 : R) (K0 : Bool → R) : R := x0.bind fun q0 => bif lensB q0.2 [] && lensS q0.1 [.c (.p (.bool))] then (cBool (resAt q0.1 0)).bind fun b => K0 b else none
@[simp] theorem R151f233_r (b : Bool) (K0 : Bool → R) : R151f233 (r151f233 b) K0 = K0 b := by kernel_rfl
def R151f233p (x0 : R) (K0 : Bool → R) : R := x0.bind fun q0 => bif q0.1.all plainS && q0.2.all (fun cs => cs.all plainC) then (bif lensB q0.2 [] && lensS q0.1 [.c (.p (.bool))] then (cBool (resAt q0.1 0)).bind fun b => K0 b else none) else none
@[simp] theorem R151f233p_r (b : Bool) (K0 : Bool → R) : R151f233p (r151f233 b) K0 = K0 b := by kernel_rfl
/-! 151f258 : impl.Node] -/
def c151f258 (k : Nat) (qs l : List PV) : R := evF P E T k 151 [.s (.c (.p (PV.row 0 0 qs))), .s (.c (.cfn 258 [PV.agg [.row 2 0 l]]))] []
def r151f258 (b : Bool) : R := some ([.c (.p (PV.bool b))], [])
def R151f258 (x0 : R) (K0 : Bool → R) : R := x0.bind fun q0 => bif lensB q0.2 [] && lensS q0.1 [.c (.p (.bool))] then (cBool (resAt q0.1 0)).bind fun b => K0 b else none
@[simp] theorem R151f258_r (b : Bool) (K0 : Bool → R) : R151f258 (r151f258 b) K0 = K0 b := by kernel_rfl
def R151f258p (x0 : R) (K0 : Bool → R) : R := x0.bind fun q0 => bif q0.1.all plainS && q0.2.all (fun cs => cs.all plainC) then (bif lensB q0.2 [] && lensS q0.1 [.c (.p (.bool))] then (cBool (resAt q0.1 0)).bind fun b => K0 b else none) else none
@[simp] theorem R151f258p_r (b : Bool) (K0 : Bool → R) : R151f258p (r151f258 b) K0 = K0 b := by kernel_rfl
/-! 151f333 : impl.Node] -/
def c151f333 (k : Nat) (qs : List PV) (n1 n11 : Int) : R := evF P E T k 151 [.s (.c (.p (PV.row 0 0 qs))), .s (.c (.fn 333 [0, 1]))] [[.p (PV.int .i64 n1)], [.p (PV.int .i64 n11)]]
def r151f333 (qr qr1 : Int) (b : Bool) : R := some ([.c (.p (PV.bool b))], [[.p (PV.int .i64 qr)], [.p (PV.int .i64 qr1)]])
def R151f333 (x0 : R) (K0 : Int → Int → Bool → R) : R := x0.bind fun q0 => bif lensB q0.2 [[.p (.int .i64)], [.p (.int .i64)]] && lensS q0.1 [.c (.p (.bool))] then (cInt (cellAt q0.2 0 0) .i64).bind fun qr => (cInt (cellAt q0.2 1 0) .i64).bind fun qr1 => (cBool (resAt q0.1 0)).bind fun b => K0 qr qr1 b else none
@[simp] theorem R151f333_r (qr qr1 : Int) (b : Bool) (K0 : Int → Int → Bool → R) : R151f333 (r151f333 qr qr1 b) K0 = K0 qr qr1 b := by kernel_rfl
/-! 152 : impl.FirstApart$1 -/
def c152 (k : Nat) (t : List PV) (n1 n11 : Int) (l l1 : List PV) : R := evF P E T k 152 [.s (.c (.p (PV.row 2 0 t))), .s (.c (.eptr (PV.agg [.int .i64 n1, .int .i64 n11, .row 2 0 l, .row 2 0 l1]) 4 0))] []
def r152 (b : Bool) : R := some ([.c (.p (PV.bool b))], [])
def R152 (x0 : R) (K0 : Bool → R) : R := x0.bind fun q0 => bif lensB q0.2 [] && lensS q0.1 [.c (.p (.bool))] then (cBool (resAt q0.1 0)).bind fun b => K0 b else none
@[simp] theorem R152_r (b : Bool) (K0 : Bool → R) : R152 (r152 b) K0 = K0 b := by kernel_rfl
/-! 153 : impl.Program).isCondition -/
def c153 (k : Nat) (p p1 : Int) (p2 p3 t : List PV) : R := evF P E T k 153 [.s (.c (.p (PV.agg [.int .i64 p, .int .i64 p1, .row 2 0 p2, .row 2 0 p3]))), .s (.c (.p (PV.row 2 0 t)))] []
def r153 (b : Bool) : R := some ([.c (.p (PV.bool b))], [])
def R153 (x0 : R) (K0 : Bool → R) : R := x0.bind fun q0 => bif lensB q0.2 [] && lensS q0.1 [.c (.p (.bool))] then (cBool (resAt q0.1 0)).bind fun b => K0 b else none
@[simp] theorem R153_r (b : Bool) (K0 : Bool → R) : R153 (r153 b) K0 = K0 b := by kernel_rfl
/-! 154 : impl.Program).firstApart -/
def c154 (k : Nat) (p p1 : Int) (p2 p3 terms a b : List PV) : R := evF P E T k 154 [.s (.c (.p (PV.agg [.int .i64 p, .int .i64 p1, .row 2 0 p2, .row 2 0 p3]))), .s (.c (.p (PV.row 0 0 terms))), .s (.c (.p (PV.row 0 0 a))), .s (.c (.p (PV.row 0 0 b)))] []
def r154 (qr : Int) : R := some ([.c (.p (PV.int .i64 qr))], [])
def R154 (x0 : R) (K0 : Int → R) : R := x0.bind fun q0 => bif lensB q0.2 [] && lensS q0.1 [.c (.p (.int .i64))] then (cInt (resAt q0.1 0) .i64).bind fun qr => K0 qr else none
@[simp] theorem R154_r (qr : Int) (K0 : Int → R) : R154 (r154 qr) K0 = K0 qr := by kernel_rfl
/-! 155 : spec.l20States -/
def c155 (k : Nat) (p p1 : Int) (p2 p3 l : List PV) : R := evF P E T k 155 [.s (.c (.p (PV.agg [.int .i64 p, .int .i64 p1, .row 2 0 p2, .row 2 0 p3]))), .s (.c (.p (PV.row 0 0 l)))] []
def r155 (b : Bool) : R := some ([.c (.p (PV.bool b))], [])
def R155 (x0 : R) (K0 : Bool → R) : R := x0.bind fun q0 => bif lensB q0.2 [] && lensS q0.1 [.c (.p (.bool))] then (cBool (resAt q0.1 0)).bind fun b => K0 b else none
@[simp] theorem R155_r (b : Bool) (K0 : Bool → R) : R155 (r155 b) K0 = K0 b := by kernel_rfl
/-! 156 : spec.l20First -/
def c156 (k : Nat) (p p1 : Int) (p2 p3 terms a b : List PV) : R := evF P E T k 156 [.s (.c (.p (PV.agg [.int .i64 p, .int .i64 p1, .row 2 0 p2, .row 2 0 p3]))), .s (.c (.p (PV.row 0 0 terms))), .s (.c (.p (PV.row 0 0 a))), .s (.c (.p (PV.row 0 0 b)))] []
def r156 (qr : Int) : R := some ([.c (.p (PV.int .i64 qr))], [])
def R156 (x0 : R) (K0 : Int → R) : R := x0.bind fun q0 => bif lensB q0.2 [] && lensS q0.1 [.c (.p (.int .i64))] then (cInt (resAt q0.1 0) .i64).bind fun qr => K0 qr else none
@[simp] theorem R156_r (qr : Int) (K0 : Int → R) : R156 (r156 qr) K0 = K0 qr := by kernel_rfl
def L156_1 (k n : Nat) (a b t11 : List PV) (t12 t13 n1 n11 : Int) (l l1 : List PV) : R := evLoopAt P E T k 156 156 [] [1, 0, 1, 0] [] n ⟨mkT 25 [(2, .s (.c (.p (PV.row 0 0 a)))), (3, .s (.c (.p (PV.row 0 0 b)))), (4, .s (.c (.bptr 0 0))), (11, .s (.c (.p (PV.row 0 0 t11)))), (12, .s (.c (.p (PV.int .i64 t12)))), (13, .s (.c (.p (PV.int .i64 t13))))], [.box [.p (PV.int .i64 n1), .p (PV.int .i64 n11), .p (PV.row 2 0 l), .p (PV.row 2 0 l1)]]⟩
/-! 157 : impl.Program).separates -/
def c157 (k : Nat) (p p1 : Int) (p2 p3 t a b : List PV) : R := evF P E T k 157 [.s (.c (.p (PV.agg [.int .i64 p, .int .i64 p1, .row 2 0 p2, .row 2 0 p3]))), .s (.c (.p (PV.row 2 0 t))), .s (.c (.p (PV.row 0 0 a))), .s (.c (.p (PV.row 0 0 b)))] []
def r157 (b : Bool) : R := some ([.c (.p (PV.bool b))], [])
def R157 (x0 : R) (K0 : Bool → R) : R := x0.bind fun q0 => bif lensB q0.2 [] && lensS q0.1 [.c (.p (.bool))] then (cBool (resAt q0.1 0)).bind fun b => K0 b else none
@[simp] theorem R157_r (b : Bool) (K0 : Bool → R) : R157 (r157 b) K0 = K0 b := by kernel_rfl
/-! 158 : impl.tryTerms -/
def c158 (k : Nat) (p p1 : Int) (p2 p3 preds : List PV) : R := evF P E T k 158 [.s (.c (.p (PV.agg [.int .i64 p, .int .i64 p1, .row 2 0 p2, .row 2 0 p3]))), .s (.c (.p (PV.row 0 0 preds)))] []
def r158 (l : List PV) : R := some ([.c (.p (PV.row 0 0 l))], [])
def R158 (x0 : R) (K0 : List PV → R) : R := x0.bind fun q0 => bif lensB q0.2 [] && lensS q0.1 [.c (.p (.row 0))] then (cRow (resAt q0.1 0) 0).bind fun l => K0 l else none
@[simp] theorem R158_r (l : List PV) (K0 : List PV → R) : R158 (r158 l) K0 = K0 l := by kernel_rfl
def L158_1 (k n : Nat) (preds t17 : List PV) (t18 t19 n1 n11 : Int) (l l1 : List PV) (Len : Nat) (xs : List PV) : R := evLoopAt P E T k 158 158 [] [1, 1, 1, 0, 1, 0] [] n ⟨mkT 54 [(1, .s (.c (.p (PV.row 0 0 preds)))), (2, .s (.c (.bptr 0 0))), (5, .s (.c (.bptr 1 0))), (6, .s (.c (.fn 257 [1]))), (17, .s (.c (.p (PV.row 2 0 t17)))), (18, .s (.c (.p (PV.int .i64 t18)))), (19, .s (.c (.p (PV.int .i64 t19))))], [.box [.p (PV.int .i64 n1), .p (PV.int .i64 n11), .p (PV.row 2 0 l), .p (PV.row 2 0 l1)], .box [.loc 2 0 0 0 Len], .arr 24 0 0 false xs]⟩
def L158_2 (k n : Nat) (t28 : List PV) (t29 t30 n1 n11 : Int) (l l1 : List PV) (Len : Nat) (xs : List PV) : R := evLoopAt P E T k 158 158 [] [1, 1, 1, 1, 0, 1, 0] [] n ⟨mkT 54 [(2, .s (.c (.bptr 0 0))), (5, .s (.c (.bptr 1 0))), (6, .s (.c (.fn 257 [1]))), (28, .s (.c (.p (PV.row 0 0 t28)))), (29, .s (.c (.p (PV.int .i64 t29)))), (30, .s (.c (.p (PV.int .i64 t30))))], [.box [.p (PV.int .i64 n1), .p (PV.int .i64 n11), .p (PV.row 2 0 l), .p (PV.row 2 0 l1)], .box [.loc 2 0 0 0 Len], .arr 24 0 0 false xs]⟩
def L158_3 (k n1 n : Nat) (t t28 : List PV) (t29 t30 t36 t37 n11 n12 : Int) (l l1 : List PV) (Len : Nat) (xs : List PV) : R := evLoopAt P E T k 158 158 [] [1, 1, 1, 1, 0, 1, 0, 0, 1, 1, 0, 0, 1, 1, 0] [n1] n ⟨mkT 54 [(2, .s (.c (.bptr 0 0))), (5, .s (.c (.bptr 1 0))), (6, .s (.c (.fn 257 [1]))), (10, .s (.c (.p (PV.row 2 0 t)))), (28, .s (.c (.p (PV.row 0 0 t28)))), (29, .s (.c (.p (PV.int .i64 t29)))), (30, .s (.c (.p (PV.int .i64 t30)))), (36, .s (.c (.p (PV.int .i64 t36)))), (37, .s (.c (.p (PV.int .i64 t37))))], [.box [.p (PV.int .i64 n11), .p (PV.int .i64 n12), .p (PV.row 2 0 l), .p (PV.row 2 0 l1)], .box [.loc 2 0 0 0 Len], .arr 24 0 0 false xs]⟩
/-! 159 : spec.l15Preds -/
def c159 (k : Nat) (p p1 : Int) (p2 p3 preds : List PV) : R := evF P E T k 159 [.s (.c (.p (PV.agg [.int .i64 p, .int .i64 p1, .row 2 0 p2, .row 2 0 p3]))), .s (.c (.p (PV.row 0 0 preds)))] []
def r159 (b : Bool) : R := some ([.c (.p (PV.bool b))], [])
def R159 (x0 : R) (K0 : Bool → R) : R := x0.bind fun q0 => bif lensB q0.2 [] && lensS q0.1 [.c (.p (.bool))] then (cBool (resAt q0.1 0)).bind fun b => K0 b else none
@[simp] theorem R159_r (b : Bool) (K0 : Bool → R) : R159 (r159 b) K0 = K0 b := by kernel_rfl
def L159_1 (k n : Nat) (t10 : List PV) (t11 t12 n1 n11 : Int) (l l1 : List PV) : R := evLoopAt P E T k 159 159 [] [1, 1, 0, 1, 0] [] n ⟨mkT 21 [(2, .s (.c (.bptr 0 0))), (10, .s (.c (.p (PV.row 0 0 t10)))), (11, .s (.c (.p (PV.int .i64 t11)))), (12, .s (.c (.p (PV.int .i64 t12))))], [.box [.p (PV.int .i64 n1), .p (PV.int .i64 n11), .p (PV.row 2 0 l), .p (PV.row 2 0 l1)]]⟩
/-! 160 : spec.l20Terms -/
def c160 (k : Nat) (p p1 : Int) (p2 p3 preds : List PV) : R := evF P E T k 160 [.s (.c (.p (PV.agg [.int .i64 p, .int .i64 p1, .row 2 0 p2, .row 2 0 p3]))), .s (.c (.p (PV.row 0 0 preds)))] []
def r160 (l : List PV) : R := some ([.c (.p (PV.row 0 0 l))], [])
def R160 (x0 : R) (K0 : List PV → R) : R := x0.bind fun q0 => bif lensB q0.2 [] && lensS q0.1 [.c (.p (.row 0))] then (cRow (resAt q0.1 0) 0).bind fun l => K0 l else none
@[simp] theorem R160_r (l : List PV) (K0 : List PV → R) : R160 (r160 l) K0 = K0 l := by kernel_rfl
def L160_1 (k n : Nat) (preds : List PV) (outLen : Nat) (t14 : List PV) (t15 t16 n1 n11 : Int) (l l1 xs : List PV) : R := evLoopAt P E T k 160 160 [] [1, 1, 0, 1, 0] [] n ⟨mkT 51 [(1, .s (.c (.p (PV.row 0 0 preds)))), (2, .s (.c (.bptr 0 0))), (5, .s (.c (.loc 1 0 0 0 outLen))), (14, .s (.c (.p (PV.row 2 0 t14)))), (15, .s (.c (.p (PV.int .i64 t15)))), (16, .s (.c (.p (PV.int .i64 t16))))], [.box [.p (PV.int .i64 n1), .p (PV.int .i64 n11), .p (PV.row 2 0 l), .p (PV.row 2 0 l1)], .arr 24 0 0 false xs]⟩
def L160_2 (k n : Nat) (outLen : Nat) (t25 : List PV) (t26 t27 n1 n11 : Int) (l l1 xs : List PV) : R := evLoopAt P E T k 160 160 [] [1, 1, 1, 0, 1, 0] [] n ⟨mkT 51 [(2, .s (.c (.bptr 0 0))), (5, .s (.c (.loc 1 0 0 0 outLen))), (25, .s (.c (.p (PV.row 0 0 t25)))), (26, .s (.c (.p (PV.int .i64 t26)))), (27, .s (.c (.p (PV.int .i64 t27))))], [.box [.p (PV.int .i64 n1), .p (PV.int .i64 n11), .p (PV.row 2 0 l), .p (PV.row 2 0 l1)], .arr 24 0 0 false xs]⟩
def L160_3 (k n1 n : Nat) (outLen : Nat) (t t25 : List PV) (t26 t27 t33 t34 n11 n12 : Int) (l l1 xs : List PV) : R := evLoopAt P E T k 160 160 [] [1, 1, 1, 0, 1, 0, 0, 1, 1, 0, 0, 1, 1, 0] [n1] n ⟨mkT 51 [(2, .s (.c (.bptr 0 0))), (5, .s (.c (.loc 1 0 0 0 outLen))), (9, .s (.c (.p (PV.row 2 0 t)))), (25, .s (.c (.p (PV.row 0 0 t25)))), (26, .s (.c (.p (PV.int .i64 t26)))), (27, .s (.c (.p (PV.int .i64 t27)))), (33, .s (.c (.p (PV.int .i64 t33)))), (34, .s (.c (.p (PV.int .i64 t34))))], [.box [.p (PV.int .i64 n11), .p (PV.int .i64 n12), .p (PV.row 2 0 l), .p (PV.row 2 0 l1)], .arr 24 0 0 false xs]⟩
/-! 161 : impl.GoodTerm -/
def c161 (k : Nat) (wide vars : Int) (t : List PV) : R := evF P E T k 161 [.s (.c (.p (PV.int .i64 wide))), .s (.c (.p (PV.int .i64 vars))), .s (.c (.p (PV.row 2 0 t)))] []
def r161 (b : Bool) : R := some ([.c (.p (PV.bool b))], [])
def R161 (x0 : R) (K0 : Bool → R) : R := x0.bind fun q0 => bif lensB q0.2 [] && lensS q0.1 [.c (.p (.bool))] then (cBool (resAt q0.1 0)).bind fun b => K0 b else none
@[simp] theorem R161_r (b : Bool) (K0 : Bool → R) : R161 (r161 b) K0 = K0 b := by kernel_rfl
def L161_1 (k n : Nat) (wide vars : Int) (stackLen : Nat) (t33 : List PV) (t34 t35 : Int) (xs : List PV) : R := evLoopAt P E T k 161 161 [] [1, 1, 1, 0, 1, 0] [] n ⟨mkT 80 [(0, .s (.c (.p (PV.int .i64 wide)))), (1, .s (.c (.p (PV.int .i64 vars)))), (7, .s (.c (.loc 0 0 0 0 stackLen))), (33, .s (.c (.p (PV.row 2 0 t33)))), (34, .s (.c (.p (PV.int .i64 t34)))), (35, .s (.c (.p (PV.int .i64 t35))))], [.arr 3 0 0 false xs]⟩
/-! 162 : impl.kindOf -/
def c162 (k : Nat) (t : List PV) : R := evF P E T k 162 [.s (.c (.p (PV.row 2 0 t)))] []
def r162 (qr : Int) : R := some ([.c (.p (PV.int .i64 qr))], [])
def R162 (x0 : R) (K0 : Int → R) : R := x0.bind fun q0 => bif lensB q0.2 [] && lensS q0.1 [.c (.p (.int .i64))] then (cInt (resAt q0.1 0) .i64).bind fun qr => K0 qr else none
@[simp] theorem R162_r (qr : Int) (K0 : Int → R) : R162 (r162 qr) K0 = K0 qr := by kernel_rfl
/-! 163 : spec.l1Cur).askedOf -/
def c163 (k : Nat) (p p1 : Int) (p2 p3 : List PV) (deep : Int) (l : List PV) (n1 n11 : Int) : R := evF P E T k 163 [.s (.c (.bptr 0 0)), .s (.c (.p (PV.agg [.int .i64 p, .int .i64 p1, .row 2 0 p2, .row 2 0 p3]))), .s (.c (.p (PV.int .i64 deep)))] [[.p (PV.row 0 0 l), .p (PV.int .i64 n1), .p (PV.int .u64 n11)]]
def r163 (l : List PV) (qr qr1 : Int) (l1 : List PV) : R := some ([.c (.p (PV.row 2 0 l1))], [[.p (PV.row 0 0 l), .p (PV.int .i64 qr), .p (PV.int .u64 qr1)]])
def R163 (x0 : R) (K0 : List PV → Int → Int → List PV → R) : R := x0.bind fun q0 => bif lensB q0.2 [[.p (.row 0), .p (.int .i64), .p (.int .u64)]] && lensS q0.1 [.c (.p (.row 2))] then (cRow (cellAt q0.2 0 0) 0).bind fun l => (cInt (cellAt q0.2 0 1) .i64).bind fun qr => (cInt (cellAt q0.2 0 2) .u64).bind fun qr1 => (cRow (resAt q0.1 0) 2).bind fun l1 => K0 l qr qr1 l1 else none
@[simp] theorem R163_r (l : List PV) (qr qr1 : Int) (l1 : List PV) (K0 : List PV → Int → Int → List PV → R) : R163 (r163 l qr qr1 l1) K0 = K0 l qr qr1 l1 := by kernel_rfl
/-! 164 : spec.l8Those -/
def c164 (k : Nat) (p p1 : Int) (p2 p3 t : List PV) : R := evF P E T k 164 [.s (.c (.p (PV.agg [.int .i64 p, .int .i64 p1, .row 2 0 p2, .row 2 0 p3]))), .s (.c (.p (PV.row 2 0 t)))] []
def r164 (l : List PV) : R := some ([.c (.p (PV.row 0 0 l))], [])
def R164 (x0 : R) (K0 : List PV → R) : R := x0.bind fun q0 => bif lensB q0.2 [] && lensS q0.1 [.c (.p (.row 0))] then (cRow (resAt q0.1 0) 0).bind fun l => K0 l else none
@[simp] theorem R164_r (l : List PV) (K0 : List PV → R) : R164 (r164 l) K0 = K0 l := by kernel_rfl
def L164_1 (k n : Nat) (t : List PV) (outLen : Nat) (no n1 n11 : Int) (l l1 xs : List PV) : R := evLoopAt P E T k 164 164 [] [1, 1, 0, 1, 0] [] n ⟨mkT 24 [(1, .s (.c (.p (PV.row 2 0 t)))), (2, .s (.c (.bptr 0 0))), (5, .s (.c (.loc 1 0 0 0 outLen))), (6, .s (.c (.p (PV.int .i64 no))))], [.box [.p (PV.int .i64 n1), .p (PV.int .i64 n11), .p (PV.row 2 0 l), .p (PV.row 2 0 l1)], .arr 3 0 0 false xs]⟩
/-! 165 : spec.l1Has -/
def c165 (k : Nat) (l : List PV) (n1 : Int) : R := evF P E T k 165 [.s (.c (.p (PV.row 0 0 l))), .s (.c (.p (PV.int .i64 n1)))] []
def r165 (b : Bool) : R := some ([.c (.p (PV.bool b))], [])
def R165 (x0 : R) (K0 : Bool → R) : R := x0.bind fun q0 => bif lensB q0.2 [] && lensS q0.1 [.c (.p (.bool))] then (cBool (resAt q0.1 0)).bind fun b => K0 b else none
@[simp] theorem R165_r (b : Bool) (K0 : Bool → R) : R165 (r165 b) K0 = K0 b := by kernel_rfl
def L165_1 (k n : Nat) (n1 : Int) (t7 : List PV) (t8 t9 : Int) : R := evLoopAt P E T k 165 165 [] [1, 0, 1, 0] [] n ⟨mkT 17 [(1, .s (.c (.p (PV.int .i64 n1)))), (7, .s (.c (.p (PV.row 0 0 t7)))), (8, .s (.c (.p (PV.int .i64 t8)))), (9, .s (.c (.p (PV.int .i64 t9))))], []⟩
/-! 166 : spec.l20Apart -/
def c166 (k : Nat) (p p1 : Int) (p2 p3 t a b : List PV) : R := evF P E T k 166 [.s (.c (.p (PV.agg [.int .i64 p, .int .i64 p1, .row 2 0 p2, .row 2 0 p3]))), .s (.c (.p (PV.row 2 0 t))), .s (.c (.p (PV.row 0 0 a))), .s (.c (.p (PV.row 0 0 b)))] []
def r166 (b : Bool) : R := some ([.c (.p (PV.bool b))], [])
def R166 (x0 : R) (K0 : Bool → R) : R := x0.bind fun q0 => bif lensB q0.2 [] && lensS q0.1 [.c (.p (.bool))] then (cBool (resAt q0.1 0)).bind fun b => K0 b else none
@[simp] theorem R166_r (b : Bool) (K0 : Bool → R) : R166 (r166 b) K0 = K0 b := by kernel_rfl
/-! 169 : impl.checkedTerm -/
def c169 (k : Nat) (wide vars : Int) (t : List PV) : R := evF P E T k 169 [.s (.c (.p (PV.int .i64 wide))), .s (.c (.p (PV.int .i64 vars))), .s (.c (.p (PV.row 2 0 t)))] []
def r169 (l : List PV) (b : Bool) : R := some ([.c (.p (PV.row 2 0 l)), .c (.p (PV.bool b))], [])
def R169 (x0 : R) (K0 : List PV → Bool → R) : R := x0.bind fun q0 => bif lensB q0.2 [] && lensS q0.1 [.c (.p (.row 2)), .c (.p (.bool))] then (cRow (resAt q0.1 0) 2).bind fun l => (cBool (resAt q0.1 1)).bind fun b => K0 l b else none
@[simp] theorem R169_r (l : List PV) (b : Bool) (K0 : List PV → Bool → R) : R169 (r169 l b) K0 = K0 l b := by kernel_rfl
/-! 171 : spec.l7Holds -/
def c171 (k : Nat) (p p1 : Int) (p2 p3 t qs : List PV) : R := evF P E T k 171 [.s (.c (.p (PV.agg [.int .i64 p, .int .i64 p1, .row 2 0 p2, .row 2 0 p3]))), .s (.c (.p (PV.row 2 0 t))), .s (.c (.p (PV.row 0 0 qs)))] []
def r171 (b : Bool) : R := some ([.c (.p (PV.bool b))], [])
def R171 (x0 : R) (K0 : Bool → R) : R := x0.bind fun q0 => bif lensB q0.2 [] && lensS q0.1 [.c (.p (.bool))] then (cBool (resAt q0.1 0)).bind fun b => K0 b else none
@[simp] theorem R171_r (b : Bool) (K0 : Bool → R) : R171 (r171 b) K0 = K0 b := by kernel_rfl
/-! 172 : spec.l7Of -/
def c172 (k : Nat) (p p1 : Int) (p2 p3 : List PV) (no : Int) : R := evF P E T k 172 [.s (.c (.p (PV.agg [.int .i64 p, .int .i64 p1, .row 2 0 p2, .row 2 0 p3]))), .s (.c (.p (PV.int .i64 no)))] []
def r172 (l : List PV) : R := some ([.c (.p (PV.row 0 0 l))], [])
def R172 (x0 : R) (K0 : List PV → R) : R := x0.bind fun q0 => bif lensB q0.2 [] && lensS q0.1 [.c (.p (.row 0))] then (cRow (resAt q0.1 0) 0).bind fun l => K0 l else none
@[simp] theorem R172_r (l : List PV) (K0 : List PV → R) : R172 (r172 l) K0 = K0 l := by kernel_rfl
def L172_1 (k n : Nat) (no : Int) (outLen : Nat) (v n1 n11 : Int) (l l1 xs : List PV) : R := evLoopAt P E T k 172 172 [] [1, 1, 0, 1, 0] [] n ⟨mkT 31 [(1, .s (.c (.p (PV.int .i64 no)))), (2, .s (.c (.bptr 0 0))), (5, .s (.c (.loc 1 0 0 0 outLen))), (6, .s (.c (.p (PV.int .i64 v))))], [.box [.p (PV.int .i64 n1), .p (PV.int .i64 n11), .p (PV.row 2 0 l), .p (PV.row 2 0 l1)], .arr 55 0 0 false xs]⟩
/-! 173 : spec.l2Made -/
def c173 (k : Nat) (wide vars : Int) (t : List PV) : R := evF P E T k 173 [.s (.c (.p (PV.int .i64 wide))), .s (.c (.p (PV.int .i64 vars))), .s (.c (.p (PV.row 2 0 t)))] []
def r173 (l : List PV) (b : Bool) : R := some ([.c (.p (PV.row 2 0 l)), .c (.p (PV.bool b))], [])
def R173 (x0 : R) (K0 : List PV → Bool → R) : R := x0.bind fun q0 => bif lensB q0.2 [] && lensS q0.1 [.c (.p (.row 2)), .c (.p (.bool))] then (cRow (resAt q0.1 0) 2).bind fun l => (cBool (resAt q0.1 1)).bind fun b => K0 l b else none
@[simp] theorem R173_r (l : List PV) (b : Bool) (K0 : List PV → Bool → R) : R173 (r173 l b) K0 = K0 l b := by kernel_rfl
/-! 177 : impl.isIncreasing -/
def c177 (k : Nat) (list : List PV) (bound : Int) : R := evF P E T k 177 [.s (.c (.p (PV.row 0 0 list))), .s (.c (.p (PV.int .i64 bound)))] []
def r177 (b : Bool) : R := some ([.c (.p (PV.bool b))], [])
def R177 (x0 : R) (K0 : Bool → R) : R := x0.bind fun q0 => bif lensB q0.2 [] && lensS q0.1 [.c (.p (.bool))] then (cBool (resAt q0.1 0)).bind fun b => K0 b else none
@[simp] theorem R177_r (b : Bool) (K0 : Bool → R) : R177 (r177 b) K0 = K0 b := by kernel_rfl
def L177_1 (k n : Nat) (list : List PV) (bound : Int) (t7 : List PV) (t8 t9 : Int) : R := evLoopAt P E T k 177 177 [] [1, 0, 1, 0] [] n ⟨mkT 35 [(0, .s (.c (.p (PV.row 0 0 list)))), (1, .s (.c (.p (PV.int .i64 bound)))), (7, .s (.c (.p (PV.row 0 0 t7)))), (8, .s (.c (.p (PV.int .i64 t8)))), (9, .s (.c (.p (PV.int .i64 t9))))], []⟩
/-! 179 : spec.l1Rising -/
def c179 (k : Nat) (l : List PV) (lo hi : Int) : R := evF P E T k 179 [.s (.c (.p (PV.row 0 0 l))), .s (.c (.p (PV.int .i64 lo))), .s (.c (.p (PV.int .i64 hi)))] []
def r179 (b : Bool) : R := some ([.c (.p (PV.bool b))], [])
def R179 (x0 : R) (K0 : Bool → R) : R := x0.bind fun q0 => bif lensB q0.2 [] && lensS q0.1 [.c (.p (.bool))] then (cBool (resAt q0.1 0)).bind fun b => K0 b else none
@[simp] theorem R179_r (b : Bool) (K0 : Bool → R) : R179 (r179 b) K0 = K0 b := by kernel_rfl
def L179_1 (k n : Nat) (l : List PV) (lo hi : Int) (t9 : List PV) (t10 t11 : Int) : R := evLoopAt P E T k 179 179 [] [1, 0, 1, 0] [] n ⟨mkT 35 [(0, .s (.c (.p (PV.row 0 0 l)))), (1, .s (.c (.p (PV.int .i64 lo)))), (2, .s (.c (.p (PV.int .i64 hi)))), (9, .s (.c (.p (PV.row 0 0 t9)))), (10, .s (.c (.p (PV.int .i64 t10)))), (11, .s (.c (.p (PV.int .i64 t11))))], []⟩
/-! 183 : impl.Node] -/
def c183 (k : Nat) (slices : List PV) : R := evF P E T k 183 [.s (.c (.p (PV.row 0 0 slices)))] []
def r183 (l : List PV) : R := some ([.c (.own 176 2 l)], [])
def R183 (x0 : R) (K0 : List PV → R) : R := x0.bind fun q0 => bif lensB q0.2 [] && lensS q0.1 [.c (.own 176 2)] then (asOwn 176 2 (resAt q0.1 0)).bind fun l => K0 l else none
@[simp] theorem R183_r (l : List PV) (K0 : List PV → R) : R183 (r183 l) K0 = K0 l := by kernel_rfl
def R183p (x0 : R) (K0 : List PV → R) : R := x0.bind fun q0 => bif q0.1.all plainS && q0.2.all (fun cs => cs.all plainC) then (bif lensB q0.2 [] && lensS q0.1 [.c (.own 176 2)] then (asOwn 176 2 (resAt q0.1 0)).bind fun l => K0 l else none) else none
def L183_1 (k n : Nat) (slices : List PV) (size : Int) (t9 : List PV) (t10 t11 : Int) : R := evLoopAt P E T k 183 183 [] [1, 1, 0, 1, 0] [] n ⟨mkT 36 [(0, .s (.c (.p (PV.row 0 0 slices)))), (3, .s (.c (.p (PV.int .i64 size)))), (9, .s (.c (.p (PV.row 0 0 t9)))), (10, .s (.c (.p (PV.int .i64 t10)))), (11, .s (.c (.p (PV.int .i64 t11))))], []⟩
def L183_2 (k n : Nat) (newsliceLen : Nat) (t25 : List PV) (t26 t27 : Int) (xs : List PV) : R := evLoopAt P E T k 183 183 [] [1, 1, 1, 1, 0, 1, 0] [] n ⟨mkT 36 [(6, .s (.c (.loc 0 0 2 0 newsliceLen))), (25, .s (.c (.p (PV.row 0 0 t25)))), (26, .s (.c (.p (PV.int .i64 t26)))), (27, .s (.c (.p (PV.int .i64 t27))))], [.arr 176 2 0 false xs]⟩
/-! 187f280 : slices.ContainsFunc[[]int,int] -/
def c187f280 (k : Nat) (qs : List PV) (n1 n11 : Int) (l l1 l2 : List PV) : R := evF P E T k 187 [.s (.c (.p (PV.row 0 0 qs))), .s (.c (.cfn 280 [PV.agg [.int .i64 n1, .int .i64 n11, .row 2 0 l, .row 2 0 l1], PV.agg [.row 2 0 l2]]))] []
def r187f280 (b : Bool) : R := some ([.c (.p (PV.bool b))], [])
def R187f280 (x0 : R) (K0 : Bool → R) : R := x0.bind fun q0 => bif lensB q0.2 [] && lensS q0.1 [.c (.p (.bool))] then (cBool (resAt q0.1 0)).bind fun b => K0 b else none
@[simp] theorem R187f280_r (b : Bool) (K0 : Bool → R) : R187f280 (r187f280 b) K0 = K0 b := by kernel_rfl
def R187f280p (x0 : R) (K0 : Bool → R) : R := x0.bind fun q0 => bif q0.1.all plainS && q0.2.all (fun cs => cs.all plainC) then (bif lensB q0.2 [] && lensS q0.1 [.c (.p (.bool))] then (cBool (resAt q0.1 0)).bind fun b => K0 b else none) else none
@[simp] theorem R187f280p_r (b : Bool) (K0 : Bool → R) : R187f280p (r187f280 b) K0 = K0 b := by kernel_rfl
/-! 187f265 : slices.ContainsFunc[[]int,int] -/
def c187f265 (k : Nat) (qs : List PV) (n1 : Int) : R := evF P E T k 187 [.s (.c (.p (PV.row 0 0 qs))), .s (.c (.fn 265 [0]))] [[.p (PV.int .i64 n1)]]
def r187f265 (qr : Int) (b : Bool) : R := some ([.c (.p (PV.bool b))], [[.p (PV.int .i64 qr)]])
def R187f265 (x0 : R) (K0 : Int → Bool → R) : R := x0.bind fun q0 => bif lensB q0.2 [[.p (.int .i64)]] && lensS q0.1 [.c (.p (.bool))] then (cInt (cellAt q0.2 0 0) .i64).bind fun qr => (cBool (resAt q0.1 0)).bind fun b => K0 qr b else none
@[simp] theorem R187f265_r (qr : Int) (b : Bool) (K0 : Int → Bool → R) : R187f265 (r187f265 qr b) K0 = K0 qr b := by kernel_rfl
def R187f265p (x0 : R) (K0 : Int → Bool → R) : R := x0.bind fun q0 => bif q0.1.all plainS && q0.2.all (fun cs => cs.all plainC) then (bif lensB q0.2 [[.p (.int .i64)]] && lensS q0.1 [.c (.p (.bool))] then (cInt (cellAt q0.2 0 0) .i64).bind fun qr => (cBool (resAt q0.1 0)).bind fun b => K0 qr b else none) else none
@[simp] theorem R187f265p_r (qr : Int) (b : Bool) (K0 : Int → Bool → R) : R187f265p (r187f265 qr b) K0 = K0 qr b := by kernel_rfl
/-! 189 : impl.Node] -/
def c189 (k : Nat) (qs : List PV) : R := evF P E T k 189 [.s (.c (.p (PV.row 2 0 qs)))] []
def r189 (l : List PV) : R := some ([.c (.own 176 2 l)], [])
def R189 (x0 : R) (K0 : List PV → R) : R := x0.bind fun q0 => bif lensB q0.2 [] && lensS q0.1 [.c (.own 176 2)] then (asOwn 176 2 (resAt q0.1 0)).bind fun l => K0 l else none
@[simp] theorem R189_r (l : List PV) (K0 : List PV → R) : R189 (r189 l) K0 = K0 l := by kernel_rfl
/-! 200 : spec.l1Put -/
def c200 (k : Nat) (l : List PV) (n1 : Int) : R := evF P E T k 200 [.s (.c (.own 3 0 l)), .s (.c (.p (PV.int .i64 n1)))] []
def r200 (l : List PV) : R := some ([.c (.own 3 0 l)], [])
def R200 (x0 : R) (K0 : List PV → R) : R := x0.bind fun q0 => bif lensB q0.2 [] && lensS q0.1 [.c (.own 3 0)] then (asOwn 3 0 (resAt q0.1 0)).bind fun l => K0 l else none
@[simp] theorem R200_r (l : List PV) (K0 : List PV → R) : R200 (r200 l) K0 = K0 l := by kernel_rfl
def L200_1 (k n : Nat) (lLen : Nat) (n1 k1 : Int) (xs : List PV) : R := evLoopAt P E T k 200 200 [] [1, 1, 0, 0] [] n ⟨mkT 48 [(0, .s (.c (.loc 0 0 0 0 lLen))), (1, .s (.c (.p (PV.int .i64 n1)))), (5, .s (.c (.p (PV.int .i64 k1))))], [.arr 3 0 0 false xs]⟩
/-! 204 : impl.Program).holdsAll -/
def c204 (k : Nat) (p p1 : Int) (p2 p3 t some1 : List PV) : R := evF P E T k 204 [.s (.c (.p (PV.agg [.int .i64 p, .int .i64 p1, .row 2 0 p2, .row 2 0 p3]))), .s (.c (.p (PV.row 2 0 t))), .s (.c (.p (PV.row 0 0 some1)))] []
def r204 (b : Bool) : R := some ([.c (.p (PV.bool b))], [])
def R204 (x0 : R) (K0 : Bool → R) : R := x0.bind fun q0 => bif lensB q0.2 [] && lensS q0.1 [.c (.p (.bool))] then (cBool (resAt q0.1 0)).bind fun b => K0 b else none
@[simp] theorem R204_r (b : Bool) (K0 : Bool → R) : R204 (r204 b) K0 = K0 b := by kernel_rfl
def R204p (x0 : R) (K0 : Bool → R) : R := x0.bind fun q0 => bif q0.1.all plainS && q0.2.all (fun cs => cs.all plainC) then (bif lensB q0.2 [] && lensS q0.1 [.c (.p (.bool))] then (cBool (resAt q0.1 0)).bind fun b => K0 b else none) else none
@[simp] theorem R204p_r (b : Bool) (K0 : Bool → R) : R204p (r204 b) K0 = K0 b := by kernel_rfl
/-! 206 : spec.l16Within -/
def c206 (k : Nat) (some1 in1 : List PV) : R := evF P E T k 206 [.s (.c (.p (PV.row 0 0 some1))), .s (.c (.p (PV.row 0 0 in1)))] []
def r206 (b : Bool) : R := some ([.c (.p (PV.bool b))], [])
def R206 (x0 : R) (K0 : Bool → R) : R := x0.bind fun q0 => bif lensB q0.2 [] && lensS q0.1 [.c (.p (.bool))] then (cBool (resAt q0.1 0)).bind fun b => K0 b else none
@[simp] theorem R206_r (b : Bool) (K0 : Bool → R) : R206 (r206 b) K0 = K0 b := by kernel_rfl
def L206_1 (k n : Nat) (in1 t7 : List PV) (t8 t9 : Int) : R := evLoopAt P E T k 206 206 [] [1, 0, 1, 0] [] n ⟨mkT 18 [(1, .s (.c (.p (PV.row 0 0 in1)))), (7, .s (.c (.p (PV.row 0 0 t7)))), (8, .s (.c (.p (PV.int .i64 t8)))), (9, .s (.c (.p (PV.int .i64 t9))))], []⟩
/-! 212f300 : impl.Command] -/
def c212f300 (k : Nat) (qs : List PV) (n1 n11 : Int) (l l1 : List PV) : R := evF P E T k 212 [.s (.c (.p (PV.row 2 0 qs))), .s (.c (.fn 300 [0]))] [[.p (PV.int .i64 n1), .p (PV.int .i64 n11), .p (PV.row 2 0 l), .p (PV.row 2 0 l1)]]
def r212f300 (qr qr1 : Int) (l l1 : List PV) (b : Bool) : R := some ([.c (.p (PV.bool b))], [[.p (PV.int .i64 qr), .p (PV.int .i64 qr1), .p (PV.row 2 0 l), .p (PV.row 2 0 l1)]])
def R212f300 (x0 : R) (K0 : Int → Int → List PV → List PV → Bool → R) : R := x0.bind fun q0 => bif lensB q0.2 [[.p (.int .i64), .p (.int .i64), .p (.row 2), .p (.row 2)]] && lensS q0.1 [.c (.p (.bool))] then (cInt (cellAt q0.2 0 0) .i64).bind fun qr => (cInt (cellAt q0.2 0 1) .i64).bind fun qr1 => (cRow (cellAt q0.2 0 2) 2).bind fun l => (cRow (cellAt q0.2 0 3) 2).bind fun l1 => (cBool (resAt q0.1 0)).bind fun b => K0 qr qr1 l l1 b else none
@[simp] theorem R212f300_r (qr qr1 : Int) (l l1 : List PV) (b : Bool) (K0 : Int → Int → List PV → List PV → Bool → R) : R212f300 (r212f300 qr qr1 l l1 b) K0 = K0 qr qr1 l l1 b := by kernel_rfl
/-! 227 : spec.l1Cur).progOf -/
def c227 (k : Nat) (wide vars : Int) (l : List PV) (n1 n11 : Int) : R := evF P E T k 227 [.s (.c (.bptr 0 0)), .s (.c (.p (PV.int .i64 wide))), .s (.c (.p (PV.int .i64 vars)))] [[.p (PV.row 0 0 l), .p (PV.int .i64 n1), .p (PV.int .u64 n11)]]
def r227 (l : List PV) (qr qr1 qr2 qr3 : Int) (l1 l2 : List PV) : R := some ([.agg [.p (PV.int .i64 qr2), .p (PV.int .i64 qr3), .p (PV.row 2 0 l1), .own ⟨155, some ⟨1, 221, 2, 0, none⟩⟩ 2 l2]], [[.p (PV.row 0 0 l), .p (PV.int .i64 qr), .p (PV.int .u64 qr1)]])
def R227 (x0 : R) (K0 : List PV → Int → Int → Int → Int → List PV → List PV → R) : R := x0.bind fun q0 => bif lensB q0.2 [[.p (.row 0), .p (.int .i64), .p (.int .u64)]] && lensS q0.1 [.agg [.p (.int .i64), .p (.int .i64), .p (.row 2), .own ⟨155, some ⟨1, 221, 2, 0, none⟩⟩ 2]] then (cRow (cellAt q0.2 0 0) 0).bind fun l => (cInt (cellAt q0.2 0 1) .i64).bind fun qr => (cInt (cellAt q0.2 0 2) .u64).bind fun qr1 => (cInt (Dp.partAt q0.1 0 0) .i64).bind fun qr2 => (cInt (Dp.partAt q0.1 0 1) .i64).bind fun qr3 => (cRow (Dp.partAt q0.1 0 2) 2).bind fun l1 => (asOwn ⟨155, some ⟨1, 221, 2, 0, none⟩⟩ 2 (Dp.partAt q0.1 0 3)).bind fun l2 => K0 l qr qr1 qr2 qr3 l1 l2 else none
@[simp] theorem R227_r (l : List PV) (qr qr1 qr2 qr3 : Int) (l1 l2 : List PV) (K0 : List PV → Int → Int → Int → Int → List PV → List PV → R) : R227 (r227 l qr qr1 qr2 qr3 l1 l2) K0 = K0 l qr qr1 qr2 qr3 l1 l2 := by kernel_rfl
def L227_1 (k n : Nat) (wide vars n1 : Int) (l : List PV) (n11 n12 n13 n14 : Int) (l1 l2 : List PV) (n15 n16 : Int) (Len Len1 : Nat) (xs xs1 : List PV) : R := evLoopAt P E T k 227 227 [3] [1, 1, 1, 1, 0, 1, 0] [] n ⟨mkT 44 [(0, .s (.c (.bptr 0 0))), (1, .s (.c (.p (PV.int .i64 wide)))), (2, .s (.c (.p (PV.int .i64 vars)))), (6, .s (.c (.bptr 1 0))), (7, .s (.c (.bptr 2 0))), (8, .s (.c (.p (PV.int .i64 n1))))], [.box [.p (PV.row 0 0 l), .p (PV.int .i64 n11), .p (PV.int .u64 n12)], .box [.p (PV.int .i64 n13), .p (PV.int .i64 n14), .p (PV.row 2 0 l1), .p (PV.row 2 0 l2)], .box [.p (PV.int .i64 n15), .p (PV.int .i64 n16), .loc 3 0 2 0 Len, .loc 4 0 2 0 Len1], .arr 176 2 0 false xs, .arr ⟨155, some ⟨1, 221, 2, 0, none⟩⟩ 2 0 false xs1]⟩
/-! 228 : spec.l1Cur).number -/
def c228 (k : Nat) (wide vars deep : Int) (l : List PV) (n1 n11 : Int) : R := evF P E T k 228 [.s (.c (.bptr 0 0)), .s (.c (.p (PV.int .i64 wide))), .s (.c (.p (PV.int .i64 vars))), .s (.c (.p (PV.int .i64 deep)))] [[.p (PV.row 0 0 l), .p (PV.int .i64 n1), .p (PV.int .u64 n11)]]
def r228 (l : List PV) (qr qr1 : Int) (l1 : List PV) : R := some ([.c (.own 176 2 l1)], [[.p (PV.row 0 0 l), .p (PV.int .i64 qr), .p (PV.int .u64 qr1)]])
def R228 (x0 : R) (K0 : List PV → Int → Int → List PV → R) : R := x0.bind fun q0 => bif lensB q0.2 [[.p (.row 0), .p (.int .i64), .p (.int .u64)]] && lensS q0.1 [.c (.own 176 2)] then (cRow (cellAt q0.2 0 0) 0).bind fun l => (cInt (cellAt q0.2 0 1) .i64).bind fun qr => (cInt (cellAt q0.2 0 2) .u64).bind fun qr1 => (asOwn 176 2 (resAt q0.1 0)).bind fun l1 => K0 l qr qr1 l1 else none
@[simp] theorem R228_r (l : List PV) (qr qr1 : Int) (l1 : List PV) (K0 : List PV → Int → Int → List PV → R) : R228 (r228 l qr qr1 l1) K0 = K0 l qr qr1 l1 := by kernel_rfl
/-! 229 : spec.l2Kind -/
def c229 (k : Nat) (wide vars : Int) (t : List PV) : R := evF P E T k 229 [.s (.c (.p (PV.int .i64 wide))), .s (.c (.p (PV.int .i64 vars))), .s (.c (.p (PV.row 2 0 t)))] []
def r229 (qr : Int) : R := some ([.c (.p (PV.int .i64 qr))], [])
def R229 (x0 : R) (K0 : Int → R) : R := x0.bind fun q0 => bif lensB q0.2 [] && lensS q0.1 [.c (.p (.int .i64))] then (cInt (resAt q0.1 0) .i64).bind fun qr => K0 qr else none
@[simp] theorem R229_r (qr : Int) (K0 : Int → R) : R229 (r229 qr) K0 = K0 qr := by kernel_rfl
def L229_1 (k n : Nat) (wide vars : Int) (pileLen : Nat) (t27 : List PV) (t28 t29 : Int) (xs : List PV) : R := evLoopAt P E T k 229 229 [] [1, 1, 1, 0, 1, 0] [] n ⟨mkT 83 [(0, .s (.c (.p (PV.int .i64 wide)))), (1, .s (.c (.p (PV.int .i64 vars)))), (7, .s (.c (.loc 0 0 0 0 pileLen))), (27, .s (.c (.p (PV.row 2 0 t27)))), (28, .s (.c (.p (PV.int .i64 t28)))), (29, .s (.c (.p (PV.int .i64 t29))))], [.arr 3 0 0 false xs]⟩
def L229_2 (k n1 n : Nat) (wide vars : Int) (pileLen : Nat) (many part own : Int) (t27 : List PV) (t28 t29 : Int) (xs : List PV) : R := evLoopAt P E T k 229 229 [] [1, 1, 1, 0, 1, 0, 0, 1, 1, 0, 0, 1, 1, 1, 0, 0] [n1] n ⟨mkT 83 [(0, .s (.c (.p (PV.int .i64 wide)))), (1, .s (.c (.p (PV.int .i64 vars)))), (7, .s (.c (.loc 0 0 0 0 pileLen))), (10, .s (.c (.p (PV.int .i64 many)))), (11, .s (.c (.p (PV.int .i64 part)))), (12, .s (.c (.p (PV.int .i64 own)))), (27, .s (.c (.p (PV.row 2 0 t27)))), (28, .s (.c (.p (PV.int .i64 t28)))), (29, .s (.c (.p (PV.int .i64 t29))))], [.arr 3 0 0 false xs]⟩
/-! 230 : impl.GoodProgram -/
def c230 (k : Nat) (p p1 : Int) (p2 p3 : List PV) : R := evF P E T k 230 [.s (.c (.p (PV.agg [.int .i64 p, .int .i64 p1, .row 2 0 p2, .row 2 0 p3])))] []
def r230 (b : Bool) : R := some ([.c (.p (PV.bool b))], [])
def R230 (x0 : R) (K0 : Bool → R) : R := x0.bind fun q0 => bif lensB q0.2 [] && lensS q0.1 [.c (.p (.bool))] then (cBool (resAt q0.1 0)).bind fun b => K0 b else none
@[simp] theorem R230_r (b : Bool) (K0 : Bool → R) : R230 (r230 b) K0 = K0 b := by kernel_rfl
/-! 231 : spec.GoodProgram -/
def c231 (k : Nat) (p p1 : Int) (p2 p3 : List PV) : R := evF P E T k 231 [.s (.c (.p (PV.agg [.int .i64 p, .int .i64 p1, .row 2 0 p2, .row 2 0 p3])))] []
def r231 (b : Bool) : R := some ([.c (.p (PV.bool b))], [])
def R231 (x0 : R) (K0 : Bool → R) : R := x0.bind fun q0 => bif lensB q0.2 [] && lensS q0.1 [.c (.p (.bool))] then (cBool (resAt q0.1 0)).bind fun b => K0 b else none
@[simp] theorem R231_r (b : Bool) (K0 : Bool → R) : R231 (r231 b) K0 = K0 b := by kernel_rfl
def L231_1 (k n : Nat) (t18 : List PV) (t19 t20 n1 n11 : Int) (l l1 : List PV) : R := evLoopAt P E T k 231 231 [] [1, 1, 0, 1, 0] [] n ⟨mkT 29 [(1, .s (.c (.bptr 0 0))), (18, .s (.c (.p (PV.row 2 0 t18)))), (19, .s (.c (.p (PV.int .i64 t19)))), (20, .s (.c (.p (PV.int .i64 t20))))], [.box [.p (PV.int .i64 n1), .p (PV.int .i64 n11), .p (PV.row 2 0 l), .p (PV.row 2 0 l1)]]⟩
/-! 233 : impl.Program).arePreds$1 -/
def c233 (k : Nat) (t : List PV) (n1 n11 : Int) (l l1 : List PV) : R := evF P E T k 233 [.s (.c (.p (PV.row 2 0 t))), .s (.c (.eptr (PV.agg [.int .i64 n1, .int .i64 n11, .row 2 0 l, .row 2 0 l1]) 4 0))] []
def r233 (b : Bool) : R := some ([.c (.p (PV.bool b))], [])
def R233 (x0 : R) (K0 : Bool → R) : R := x0.bind fun q0 => bif lensB q0.2 [] && lensS q0.1 [.c (.p (.bool))] then (cBool (resAt q0.1 0)).bind fun b => K0 b else none
@[simp] theorem R233_r (b : Bool) (K0 : Bool → R) : R233 (r233 b) K0 = K0 b := by kernel_rfl
/-! 234 : impl.mask -/
def c234 (k : Nat) (wide : Int) : R := evF P E T k 234 [.s (.c (.p (PV.int .i64 wide)))] []
def r234 (qr : Int) : R := some ([.c (.p (PV.int .u64 qr))], [])
def R234 (x0 : R) (K0 : Int → R) : R := x0.bind fun q0 => bif lensB q0.2 [] && lensS q0.1 [.c (.p (.int .u64))] then (cInt (resAt q0.1 0) .u64).bind fun qr => K0 qr else none
@[simp] theorem R234_r (qr : Int) (K0 : Int → R) : R234 (r234 qr) K0 = K0 qr := by kernel_rfl
/-! 235 : impl.apply -/
def c235 (k : Nat) (wide op a b : Int) : R := evF P E T k 235 [.s (.c (.p (PV.int .i64 wide))), .s (.c (.p (PV.int .i64 op))), .s (.c (.p (PV.int .u64 a))), .s (.c (.p (PV.int .u64 b)))] []
def r235 (qr : Int) : R := some ([.c (.p (PV.int .u64 qr))], [])
def R235 (x0 : R) (K0 : Int → R) : R := x0.bind fun q0 => bif lensB q0.2 [] && lensS q0.1 [.c (.p (.int .u64))] then (cInt (resAt q0.1 0) .u64).bind fun qr => K0 qr else none
@[simp] theorem R235_r (qr : Int) (K0 : Int → R) : R235 (r235 qr) K0 = K0 qr := by kernel_rfl
/-! 242 : impl.isVars -/
def c242 (k : Nat) (n1 : Int) : R := evF P E T k 242 [.s (.c (.p (PV.int .i64 n1)))] []
def r242 (b : Bool) : R := some ([.c (.p (PV.bool b))], [])
def R242 (x0 : R) (K0 : Bool → R) : R := x0.bind fun q0 => bif lensB q0.2 [] && lensS q0.1 [.c (.p (.bool))] then (cBool (resAt q0.1 0)).bind fun b => K0 b else none
@[simp] theorem R242_r (b : Bool) (K0 : Bool → R) : R242 (r242 b) K0 = K0 b := by kernel_rfl
/-! 246 : impl.isWide -/
def c246 (k : Nat) (n1 : Int) : R := evF P E T k 246 [.s (.c (.p (PV.int .i64 n1)))] []
def r246 (b : Bool) : R := some ([.c (.p (PV.bool b))], [])
def R246 (x0 : R) (K0 : Bool → R) : R := x0.bind fun q0 => bif lensB q0.2 [] && lensS q0.1 [.c (.p (.bool))] then (cBool (resAt q0.1 0)).bind fun b => K0 b else none
@[simp] theorem R246_r (b : Bool) (K0 : Bool → R) : R246 (r246 b) K0 = K0 b := by kernel_rfl
/-! 249 : impl.GoodWord -/
def c249 (k : Nat) (wide a : Int) : R := evF P E T k 249 [.s (.c (.p (PV.int .i64 wide))), .s (.c (.p (PV.int .u64 a)))] []
def r249 (b : Bool) : R := some ([.c (.p (PV.bool b))], [])
def R249 (x0 : R) (K0 : Bool → R) : R := x0.bind fun q0 => bif lensB q0.2 [] && lensS q0.1 [.c (.p (.bool))] then (cBool (resAt q0.1 0)).bind fun b => K0 b else none
@[simp] theorem R249_r (b : Bool) (K0 : Bool → R) : R249 (r249 b) K0 = K0 b := by kernel_rfl
/-! 250 : spec.l1Cur).next -/
def c250 (k : Nat) (l : List PV) (n1 n11 : Int) : R := evF P E T k 250 [.s (.c (.bptr 0 0))] [[.p (PV.row 0 0 l), .p (PV.int .i64 n1), .p (PV.int .u64 n11)]]
def r250 (l : List PV) (qr qr1 qr2 : Int) : R := some ([.c (.p (PV.int .i64 qr2))], [[.p (PV.row 0 0 l), .p (PV.int .i64 qr), .p (PV.int .u64 qr1)]])
def R250 (x0 : R) (K0 : List PV → Int → Int → Int → R) : R := x0.bind fun q0 => bif lensB q0.2 [[.p (.row 0), .p (.int .i64), .p (.int .u64)]] && lensS q0.1 [.c (.p (.int .i64))] then (cRow (cellAt q0.2 0 0) 0).bind fun l => (cInt (cellAt q0.2 0 1) .i64).bind fun qr => (cInt (cellAt q0.2 0 2) .u64).bind fun qr1 => (cInt (resAt q0.1 0) .i64).bind fun qr2 => K0 l qr qr1 qr2 else none
@[simp] theorem R250_r (l : List PV) (qr qr1 qr2 : Int) (K0 : List PV → Int → Int → Int → R) : R250 (r250 l qr qr1 qr2) K0 = K0 l qr qr1 qr2 := by kernel_rfl
/-! 253 : spec.GoodWord -/
def c253 (k : Nat) (wide a : Int) : R := evF P E T k 253 [.s (.c (.p (PV.int .i64 wide))), .s (.c (.p (PV.int .u64 a)))] []
def r253 (b : Bool) : R := some ([.c (.p (PV.bool b))], [])
def R253 (x0 : R) (K0 : Bool → R) : R := x0.bind fun q0 => bif lensB q0.2 [] && lensS q0.1 [.c (.p (.bool))] then (cBool (resAt q0.1 0)).bind fun b => K0 b else none
@[simp] theorem R253_r (b : Bool) (K0 : Bool → R) : R253 (r253 b) K0 = K0 b := by kernel_rfl
/-! 254f152 : impl.Node] -/
def c254f152 (k : Nat) (qs : List PV) (n1 n11 : Int) (l l1 : List PV) : R := evF P E T k 254 [.s (.c (.p (PV.row 0 0 qs))), .s (.c (.cfn 152 [PV.agg [.int .i64 n1, .int .i64 n11, .row 2 0 l, .row 2 0 l1]]))] []
def r254f152 (qr : Int) : R := some ([.c (.p (PV.int .i64 qr))], [])
def R254f152 (x0 : R) (K0 : Int → R) : R := x0.bind fun q0 => bif lensB q0.2 [] && lensS q0.1 [.c (.p (.int .i64))] then (cInt (resAt q0.1 0) .i64).bind fun qr => K0 qr else none
@[simp] theorem R254f152_r (qr : Int) (K0 : Int → R) : R254f152 (r254f152 qr) K0 = K0 qr := by kernel_rfl
def R254f152p (x0 : R) (K0 : Int → R) : R := x0.bind fun q0 => bif q0.1.all plainS && q0.2.all (fun cs => cs.all plainC) then (bif lensB q0.2 [] && lensS q0.1 [.c (.p (.int .i64))] then (cInt (resAt q0.1 0) .i64).bind fun qr => K0 qr else none) else none
@[simp] theorem R254f152p_r (qr : Int) (K0 : Int → R) : R254f152p (r254f152 qr) K0 = K0 qr := by kernel_rfl
def L254f152_1 (k n : Nat) (qs : List PV) (n1 n11 : Int) (l l1 : List PV) (t7 t8 : Int) : R := evLoopAt P E T k 254 153254 [] [1, 0, 1, 0] [] n ⟨mkT 19 [(0, .s (.c (.p (PV.row 0 0 qs)))), (1, .s (.c (.cfn 152 [PV.agg [.int .i64 n1, .int .i64 n11, .row 2 0 l, .row 2 0 l1]]))), (7, .s (.c (.p (PV.int .i64 t7)))), (8, .s (.c (.p (PV.int .i64 t8))))], []⟩
/-! 254f256 : impl.Node] -/
def c254f256 (k : Nat) (qs : List PV) (n1 n11 : Int) (l l1 l2 l3 : List PV) : R := evF P E T k 254 [.s (.c (.p (PV.row 0 0 qs))), .s (.c (.cfn 256 [PV.agg [.int .i64 n1, .int .i64 n11, .row 2 0 l, .row 2 0 l1], PV.agg [.row 0 0 l2], PV.agg [.row 0 0 l3]]))] []
def r254f256 (qr : Int) : R := some ([.c (.p (PV.int .i64 qr))], [])
def R254f256 (x0 : R) (K0 : Int → R) : R := x0.bind fun q0 => bif lensB q0.2 [] && lensS q0.1 [.c (.p (.int .i64))] then (cInt (resAt q0.1 0) .i64).bind fun qr => K0 qr else none
@[simp] theorem R254f256_r (qr : Int) (K0 : Int → R) : R254f256 (r254f256 qr) K0 = K0 qr := by kernel_rfl
def R254f256p (x0 : R) (K0 : Int → R) : R := x0.bind fun q0 => bif q0.1.all plainS && q0.2.all (fun cs => cs.all plainC) then (bif lensB q0.2 [] && lensS q0.1 [.c (.p (.int .i64))] then (cInt (resAt q0.1 0) .i64).bind fun qr => K0 qr else none) else none
@[simp] theorem R254f256p_r (qr : Int) (K0 : Int → R) : R254f256p (r254f256 qr) K0 = K0 qr := by kernel_rfl
def L254f256_1 (k n : Nat) (qs : List PV) (n1 n11 : Int) (l l1 l2 l3 : List PV) (t7 t8 : Int) : R := evLoopAt P E T k 254 257254 [] [1, 0, 1, 0] [] n ⟨mkT 19 [(0, .s (.c (.p (PV.row 0 0 qs)))), (1, .s (.c (.cfn 256 [PV.agg [.int .i64 n1, .int .i64 n11, .row 2 0 l, .row 2 0 l1], PV.agg [.row 0 0 l2], PV.agg [.row 0 0 l3]]))), (7, .s (.c (.p (PV.int .i64 t7)))), (8, .s (.c (.p (PV.int .i64 t8))))], []⟩
/-! 254f233 : impl.Node] -/
def c254f233 (k : Nat) (qs : List PV) (n1 n11 : Int) (l l1 : List PV) : R := evF P E T k 254 [.s (.c (.p (PV.row 0 0 qs))), .s (.c (.cfn 233 [PV.agg [.int .i64 n1, .int .i64 n11, .row 2 0 l, .row 2 0 l1]]))] []
def r254f233 (qr : Int) : R := some ([.c (.p (PV.int .i64 qr))], [])
def R254f233 (x0 : R) (K0 : Int → R) : R := x0.bind fun q0 => bif lensB q0.2 [] && lensS q0.1 [.c (.p (.int .i64))] then (cInt (resAt q0.1 0) .i64).bind fun qr => K0 qr else none
@[simp] theorem R254f233_r (qr : Int) (K0 : Int → R) : R254f233 (r254f233 qr) K0 = K0 qr := by kernel_rfl
def R254f233p (x0 : R) (K0 : Int → R) : R := x0.bind fun q0 => bif q0.1.all plainS && q0.2.all (fun cs => cs.all plainC) then (bif lensB q0.2 [] && lensS q0.1 [.c (.p (.int .i64))] then (cInt (resAt q0.1 0) .i64).bind fun qr => K0 qr else none) else none
@[simp] theorem R254f233p_r (qr : Int) (K0 : Int → R) : R254f233p (r254f233 qr) K0 = K0 qr := by kernel_rfl
def L254f233_1 (k n : Nat) (qs : List PV) (n1 n11 : Int) (l l1 : List PV) (t7 t8 : Int) : R := evLoopAt P E T k 254 234254 [] [1, 0, 1, 0] [] n ⟨mkT 19 [(0, .s (.c (.p (PV.row 0 0 qs)))), (1, .s (.c (.cfn 233 [PV.agg [.int .i64 n1, .int .i64 n11, .row 2 0 l, .row 2 0 l1]]))), (7, .s (.c (.p (PV.int .i64 t7)))), (8, .s (.c (.p (PV.int .i64 t8))))], []⟩
/-! 254f258 : impl.Node] -/
def c254f258 (k : Nat) (qs l : List PV) : R := evF P E T k 254 [.s (.c (.p (PV.row 0 0 qs))), .s (.c (.cfn 258 [PV.agg [.row 2 0 l]]))] []
def r254f258 (qr : Int) : R := some ([.c (.p (PV.int .i64 qr))], [])
def R254f258 (x0 : R) (K0 : Int → R) : R := x0.bind fun q0 => bif lensB q0.2 [] && lensS q0.1 [.c (.p (.int .i64))] then (cInt (resAt q0.1 0) .i64).bind fun qr => K0 qr else none
@[simp] theorem R254f258_r (qr : Int) (K0 : Int → R) : R254f258 (r254f258 qr) K0 = K0 qr := by kernel_rfl
def R254f258p (x0 : R) (K0 : Int → R) : R := x0.bind fun q0 => bif q0.1.all plainS && q0.2.all (fun cs => cs.all plainC) then (bif lensB q0.2 [] && lensS q0.1 [.c (.p (.int .i64))] then (cInt (resAt q0.1 0) .i64).bind fun qr => K0 qr else none) else none
@[simp] theorem R254f258p_r (qr : Int) (K0 : Int → R) : R254f258p (r254f258 qr) K0 = K0 qr := by kernel_rfl
def L254f258_1 (k n : Nat) (qs l : List PV) (t7 t8 : Int) : R := evLoopAt P E T k 254 259254 [] [1, 0, 1, 0] [] n ⟨mkT 19 [(0, .s (.c (.p (PV.row 0 0 qs)))), (1, .s (.c (.cfn 258 [PV.agg [.row 2 0 l]]))), (7, .s (.c (.p (PV.int .i64 t7)))), (8, .s (.c (.p (PV.int .i64 t8))))], []⟩
/-! 254f333 : impl.Node] -/
def c254f333 (k : Nat) (qs : List PV) (n1 n11 : Int) : R := evF P E T k 254 [.s (.c (.p (PV.row 0 0 qs))), .s (.c (.fn 333 [0, 1]))] [[.p (PV.int .i64 n1)], [.p (PV.int .i64 n11)]]
def r254f333 (qr qr1 qr2 : Int) : R := some ([.c (.p (PV.int .i64 qr2))], [[.p (PV.int .i64 qr)], [.p (PV.int .i64 qr1)]])
def R254f333 (x0 : R) (K0 : Int → Int → Int → R) : R := x0.bind fun q0 => bif lensB q0.2 [[.p (.int .i64)], [.p (.int .i64)]] && lensS q0.1 [.c (.p (.int .i64))] then (cInt (cellAt q0.2 0 0) .i64).bind fun qr => (cInt (cellAt q0.2 1 0) .i64).bind fun qr1 => (cInt (resAt q0.1 0) .i64).bind fun qr2 => K0 qr qr1 qr2 else none
@[simp] theorem R254f333_r (qr qr1 qr2 : Int) (K0 : Int → Int → Int → R) : R254f333 (r254f333 qr qr1 qr2) K0 = K0 qr qr1 qr2 := by kernel_rfl
def L254f333_1 (k n : Nat) (qs : List PV) (t7 t8 n1 n11 : Int) : R := evLoopAt P E T k 254 334254 [1, 1] [1, 0, 1, 0] [] n ⟨mkT 19 [(0, .s (.c (.p (PV.row 0 0 qs)))), (1, .s (.c (.fn 333 [0, 1]))), (7, .s (.c (.p (PV.int .i64 t7)))), (8, .s (.c (.p (PV.int .i64 t8))))], [.box [.p (PV.int .i64 n1)], .box [.p (PV.int .i64 n11)]]⟩
/-! 255 : impl.isTermOf -/
def c255 (k : Nat) (wide vars : Int) (t : List PV) (kind : Int) : R := evF P E T k 255 [.s (.c (.p (PV.int .i64 wide))), .s (.c (.p (PV.int .i64 vars))), .s (.c (.p (PV.row 2 0 t))), .s (.c (.p (PV.int .i64 kind)))] []
def r255 (b : Bool) : R := some ([.c (.p (PV.bool b))], [])
def R255 (x0 : R) (K0 : Bool → R) : R := x0.bind fun q0 => bif lensB q0.2 [] && lensS q0.1 [.c (.p (.bool))] then (cBool (resAt q0.1 0)).bind fun b => K0 b else none
@[simp] theorem R255_r (b : Bool) (K0 : Bool → R) : R255 (r255 b) K0 = K0 b := by kernel_rfl
/-! 256 : impl.Program).firstApart$1 -/
def c256 (k : Nat) (t : List PV) (n1 n11 : Int) (l l1 l2 l3 : List PV) : R := evF P E T k 256 [.s (.c (.p (PV.row 2 0 t))), .s (.c (.eptr (PV.agg [.int .i64 n1, .int .i64 n11, .row 2 0 l, .row 2 0 l1]) 4 0)), .s (.c (.eptr (PV.agg [.row 0 0 l2]) 1 0)), .s (.c (.eptr (PV.agg [.row 0 0 l3]) 1 0))] []
def r256 (b : Bool) : R := some ([.c (.p (PV.bool b))], [])
def R256 (x0 : R) (K0 : Bool → R) : R := x0.bind fun q0 => bif lensB q0.2 [] && lensS q0.1 [.c (.p (.bool))] then (cBool (resAt q0.1 0)).bind fun b => K0 b else none
@[simp] theorem R256_r (b : Bool) (K0 : Bool → R) : R256 (r256 b) K0 = K0 b := by kernel_rfl
/-! 257 : impl.tryTerms$1 -/
def c257 (k : Nat) (t l : List PV) : R := evF P E T k 257 [.s (.c (.p (PV.row 2 0 t))), .s (.c (.bptr 0 0))] [[.own 24 0 l]]
def r257 (l : List PV) : R := some ([], [[.own 24 0 l]])
def R257 (x0 : R) (K0 : List PV → R) : R := x0.bind fun q0 => bif lensB q0.2 [[.own 24 0]] && lensS q0.1 [] then (asOwn 24 0 (cellAt q0.2 0 0)).bind fun l => K0 l else none
@[simp] theorem R257_r (l : List PV) (K0 : List PV → R) : R257 (r257 l) K0 = K0 l := by kernel_rfl
/-! 258 : impl.tryTerms$1$1 -/
def c258 (k : Nat) (own l : List PV) : R := evF P E T k 258 [.s (.c (.p (PV.row 2 0 own))), .s (.c (.eptr (PV.agg [.row 2 0 l]) 1 0))] []
def r258 (b : Bool) : R := some ([.c (.p (PV.bool b))], [])
def R258 (x0 : R) (K0 : Bool → R) : R := x0.bind fun q0 => bif lensB q0.2 [] && lensS q0.1 [.c (.p (.bool))] then (cBool (resAt q0.1 0)).bind fun b => K0 b else none
@[simp] theorem R258_r (b : Bool) (K0 : Bool → R) : R258 (r258 b) K0 = K0 b := by kernel_rfl
/-! 259 : impl.Node] -/
def c259 (k : Nat) (qs1 qs2 : List PV) : R := evF P E T k 259 [.s (.c (.p (PV.row 2 0 qs1))), .s (.c (.p (PV.row 2 0 qs2)))] []
def r259 (b : Bool) : R := some ([.c (.p (PV.bool b))], [])
def R259 (x0 : R) (K0 : Bool → R) : R := x0.bind fun q0 => bif lensB q0.2 [] && lensS q0.1 [.c (.p (.bool))] then (cBool (resAt q0.1 0)).bind fun b => K0 b else none
@[simp] theorem R259_r (b : Bool) (K0 : Bool → R) : R259 (r259 b) K0 = K0 b := by kernel_rfl
def L259_1 (k n : Nat) (qs1 qs2 : List PV) (t12 t13 : Int) : R := evLoopAt P E T k 259 259 [] [1, 1, 0, 1, 0] [] n ⟨mkT 26 [(0, .s (.c (.p (PV.row 2 0 qs1)))), (1, .s (.c (.p (PV.row 2 0 qs2)))), (12, .s (.c (.p (PV.int .i64 t12)))), (13, .s (.c (.p (PV.int .i64 t13))))], []⟩
/-! 260 : impl.Program).beforeOne -/
def c260 (k : Nat) (p p1 : Int) (p2 p3 : List PV) (k1 : Int) (t : List PV) : R := evF P E T k 260 [.s (.c (.p (PV.agg [.int .i64 p, .int .i64 p1, .row 2 0 p2, .row 2 0 p3]))), .s (.c (.p (PV.int .i64 k1))), .s (.c (.p (PV.row 2 0 t)))] []
def r260 (l : List PV) (b : Bool) : R := some ([.c (.p (PV.row 2 0 l)), .c (.p (PV.bool b))], [])
def R260 (x0 : R) (K0 : List PV → Bool → R) : R := x0.bind fun q0 => bif lensB q0.2 [] && lensS q0.1 [.c (.p (.row 2)), .c (.p (.bool))] then (cRow (resAt q0.1 0) 2).bind fun l => (cBool (resAt q0.1 1)).bind fun b => K0 l b else none
@[simp] theorem R260_r (l : List PV) (b : Bool) (K0 : List PV → Bool → R) : R260 (r260 l b) K0 = K0 l b := by kernel_rfl
def L260_1 (k n : Nat) (k1 : Int) (t : List PV) (byLen : Nat) (t14 t15 n1 n11 : Int) (l l1 xs : List PV) : R := evLoopAt P E T k 260 260 [] [1, 1, 0, 1, 0] [] n ⟨mkT 53 [(1, .s (.c (.p (PV.int .i64 k1)))), (2, .s (.c (.p (PV.row 2 0 t)))), (3, .s (.c (.bptr 0 0))), (8, .s (.c (.loc 1 0 0 0 byLen))), (14, .s (.c (.p (PV.int .i64 t14)))), (15, .s (.c (.p (PV.int .i64 t15))))], [.box [.p (PV.int .i64 n1), .p (PV.int .i64 n11), .p (PV.row 2 0 l), .p (PV.row 2 0 l1)], .arr 24 0 0 false xs]⟩
def L260_2 (k n : Nat) (t : List PV) (byLen : Nat) (t31 : List PV) (t32 t33 n1 n11 : Int) (l l1 xs : List PV) : R := evLoopAt P E T k 260 260 [] [1, 1, 1, 0, 1, 0] [] n ⟨mkT 53 [(2, .s (.c (.p (PV.row 2 0 t)))), (3, .s (.c (.bptr 0 0))), (8, .s (.c (.loc 1 0 0 0 byLen))), (31, .s (.c (.p (PV.row 2 0 t31)))), (32, .s (.c (.p (PV.int .i64 t32)))), (33, .s (.c (.p (PV.int .i64 t33))))], [.box [.p (PV.int .i64 n1), .p (PV.int .i64 n11), .p (PV.row 2 0 l), .p (PV.row 2 0 l1)], .arr 24 0 0 false xs]⟩
/-! 261 : spec.l20Add -/
def c261 (k : Nat) (l t : List PV) : R := evF P E T k 261 [.s (.c (.own 24 0 l)), .s (.c (.p (PV.row 2 0 t)))] []
def r261 (l : List PV) : R := some ([.c (.own 24 0 l)], [])
def R261 (x0 : R) (K0 : List PV → R) : R := x0.bind fun q0 => bif lensB q0.2 [] && lensS q0.1 [.c (.own 24 0)] then (asOwn 24 0 (resAt q0.1 0)).bind fun l => K0 l else none
@[simp] theorem R261_r (l : List PV) (K0 : List PV → R) : R261 (r261 l) K0 = K0 l := by kernel_rfl
def L261_1 (k n : Nat) (lLen : Nat) (t : List PV) (t7Len : Nat) (t8 t9 : Int) (xs : List PV) : R := evLoopAt P E T k 261 261 [] [1, 0, 1, 0] [] n ⟨mkT 28 [(0, .s (.c (.loc 0 0 0 0 lLen))), (1, .s (.c (.p (PV.row 2 0 t)))), (7, .s (.c (.loc 0 0 0 0 t7Len))), (8, .s (.c (.p (PV.int .i64 t8)))), (9, .s (.c (.p (PV.int .i64 t9))))], [.arr 24 0 0 false xs]⟩
/-! 262 : spec.l16One -/
def c262 (k : Nat) (p p1 : Int) (p2 p3 : List PV) (k1 : Int) (t : List PV) : R := evF P E T k 262 [.s (.c (.p (PV.agg [.int .i64 p, .int .i64 p1, .row 2 0 p2, .row 2 0 p3]))), .s (.c (.p (PV.int .i64 k1))), .s (.c (.p (PV.row 2 0 t)))] []
def r262 (l : List PV) (b : Bool) : R := some ([.c (.p (PV.row 2 0 l)), .c (.p (PV.bool b))], [])
def R262 (x0 : R) (K0 : List PV → Bool → R) : R := x0.bind fun q0 => bif lensB q0.2 [] && lensS q0.1 [.c (.p (.row 2)), .c (.p (.bool))] then (cRow (resAt q0.1 0) 2).bind fun l => (cBool (resAt q0.1 1)).bind fun b => K0 l b else none
@[simp] theorem R262_r (l : List PV) (b : Bool) (K0 : List PV → Bool → R) : R262 (r262 l b) K0 = K0 l b := by kernel_rfl
def L262_1 (k n : Nat) (k1 : Int) (t : List PV) (byLen : Nat) (v n1 n11 : Int) (l l1 xs : List PV) : R := evLoopAt P E T k 262 262 [] [1, 1, 0, 1, 0] [] n ⟨mkT 52 [(1, .s (.c (.p (PV.int .i64 k1)))), (2, .s (.c (.p (PV.row 2 0 t)))), (3, .s (.c (.bptr 0 0))), (8, .s (.c (.loc 1 0 0 0 byLen))), (9, .s (.c (.p (PV.int .i64 v))))], [.box [.p (PV.int .i64 n1), .p (PV.int .i64 n11), .p (PV.row 2 0 l), .p (PV.row 2 0 l1)], .arr 24 0 0 false xs]⟩
def L262_2 (k n : Nat) (t : List PV) (byLen : Nat) (t30 : List PV) (t31 t32 n1 n11 : Int) (l l1 xs : List PV) : R := evLoopAt P E T k 262 262 [] [1, 1, 1, 0, 1, 0] [] n ⟨mkT 52 [(2, .s (.c (.p (PV.row 2 0 t)))), (3, .s (.c (.bptr 0 0))), (8, .s (.c (.loc 1 0 0 0 byLen))), (30, .s (.c (.p (PV.row 2 0 t30)))), (31, .s (.c (.p (PV.int .i64 t31)))), (32, .s (.c (.p (PV.int .i64 t32))))], [.box [.p (PV.int .i64 n1), .p (PV.int .i64 n11), .p (PV.row 2 0 l), .p (PV.row 2 0 l1)], .arr 24 0 0 false xs]⟩
/-! 263 : impl.operandsOf -/
def c263 (k : Nat) (op : Int) : R := evF P E T k 263 [.s (.c (.p (PV.int .i64 op)))] []
def r263 (qr qr1 qr2 : Int) : R := some ([.c (.p (PV.int .i64 qr)), .c (.p (PV.int .i64 qr1)), .c (.p (PV.int .i64 qr2))], [])
def R263 (x0 : R) (K0 : Int → Int → Int → R) : R := x0.bind fun q0 => bif lensB q0.2 [] && lensS q0.1 [.c (.p (.int .i64)), .c (.p (.int .i64)), .c (.p (.int .i64))] then (cInt (resAt q0.1 0) .i64).bind fun qr => (cInt (resAt q0.1 1) .i64).bind fun qr1 => (cInt (resAt q0.1 2) .i64).bind fun qr2 => K0 qr qr1 qr2 else none
@[simp] theorem R263_r (qr qr1 qr2 : Int) (K0 : Int → Int → Int → R) : R263 (r263 qr qr1 qr2) K0 = K0 qr qr1 qr2 := by kernel_rfl
/-! 264 : impl.isLeafRight -/
def c264 (k : Nat) (wide vars x x1 : Int) : R := evF P E T k 264 [.s (.c (.p (PV.int .i64 wide))), .s (.c (.p (PV.int .i64 vars))), .s (.c (.p (PV.agg [.int .i64 x, .int .u64 x1])))] []
def r264 (b : Bool) : R := some ([.c (.p (PV.bool b))], [])
def R264 (x0 : R) (K0 : Bool → R) : R := x0.bind fun q0 => bif lensB q0.2 [] && lensS q0.1 [.c (.p (.bool))] then (cBool (resAt q0.1 0)).bind fun b => K0 b else none
@[simp] theorem R264_r (b : Bool) (K0 : Bool → R) : R264 (r264 b) K0 = K0 b := by kernel_rfl
/-! 265 : impl.GoodTerm$1 -/
def c265 (k : Nat) (own n1 : Int) : R := evF P E T k 265 [.s (.c (.p (PV.int .i64 own))), .s (.c (.bptr 0 0))] [[.p (PV.int .i64 n1)]]
def r265 (qr : Int) (b : Bool) : R := some ([.c (.p (PV.bool b))], [[.p (PV.int .i64 qr)]])
def R265 (x0 : R) (K0 : Int → Bool → R) : R := x0.bind fun q0 => bif lensB q0.2 [[.p (.int .i64)]] && lensS q0.1 [.c (.p (.bool))] then (cInt (cellAt q0.2 0 0) .i64).bind fun qr => (cBool (resAt q0.1 0)).bind fun b => K0 qr b else none
@[simp] theorem R265_r (qr : Int) (b : Bool) (K0 : Int → Bool → R) : R265 (r265 qr b) K0 = K0 qr b := by kernel_rfl
/-! 266 : spec.l7Meet -/
def c266 (k : Nat) (a b : List PV) : R := evF P E T k 266 [.s (.c (.p (PV.row 0 0 a))), .s (.c (.p (PV.row 0 0 b)))] []
def r266 (b : Bool) : R := some ([.c (.p (PV.bool b))], [])
def R266 (x0 : R) (K0 : Bool → R) : R := x0.bind fun q0 => bif lensB q0.2 [] && lensS q0.1 [.c (.p (.bool))] then (cBool (resAt q0.1 0)).bind fun b => K0 b else none
@[simp] theorem R266_r (b : Bool) (K0 : Bool → R) : R266 (r266 b) K0 = K0 b := by kernel_rfl
def L266_1 (k n : Nat) (b t7 : List PV) (t8 t9 : Int) : R := evLoopAt P E T k 266 266 [] [1, 0, 1, 0] [] n ⟨mkT 17 [(1, .s (.c (.p (PV.row 0 0 b)))), (7, .s (.c (.p (PV.row 0 0 t7)))), (8, .s (.c (.p (PV.int .i64 t8)))), (9, .s (.c (.p (PV.int .i64 t9))))], []⟩
/-! 267 : spec.l2Value -/
def c267 (k : Nat) (wide : Int) (t : List PV) (k1 : Int) (state : List PV) : R := evF P E T k 267 [.s (.c (.p (PV.int .i64 wide))), .s (.c (.p (PV.row 2 0 t))), .s (.c (.p (PV.int .i64 k1))), .s (.c (.p (PV.row 0 0 state)))] []
def r267 (qr : Int) : R := some ([.c (.p (PV.int .u64 qr))], [])
def R267 (x0 : R) (K0 : Int → R) : R := x0.bind fun q0 => bif lensB q0.2 [] && lensS q0.1 [.c (.p (.int .u64))] then (cInt (resAt q0.1 0) .u64).bind fun qr => K0 qr else none
@[simp] theorem R267_r (qr : Int) (K0 : Int → R) : R267 (r267 qr) K0 = K0 qr := by kernel_rfl
/-! 268 : spec.GoodTerm -/
def c268 (k : Nat) (wide vars : Int) (t : List PV) : R := evF P E T k 268 [.s (.c (.p (PV.int .i64 wide))), .s (.c (.p (PV.int .i64 vars))), .s (.c (.p (PV.row 2 0 t)))] []
def r268 (b : Bool) : R := some ([.c (.p (PV.bool b))], [])
def R268 (x0 : R) (K0 : Bool → R) : R := x0.bind fun q0 => bif lensB q0.2 [] && lensS q0.1 [.c (.p (.bool))] then (cBool (resAt q0.1 0)).bind fun b => K0 b else none
@[simp] theorem R268_r (b : Bool) (K0 : Bool → R) : R268 (r268 b) K0 = K0 b := by kernel_rfl
/-! 269 : impl.Node] -/
def c269 (k : Nat) (qs : List PV) (n1 : Int) : R := evF P E T k 269 [.s (.c (.p (PV.row 0 2 qs))), .s (.c (.p (PV.int .i64 n1)))] []
def r269 (l : List PV) : R := some ([.c (.own 176 2 l)], [])
def R269 (x0 : R) (K0 : List PV → R) : R := x0.bind fun q0 => bif lensB q0.2 [] && lensS q0.1 [.c (.own 176 2)] then (asOwn 176 2 (resAt q0.1 0)).bind fun l => K0 l else none
@[simp] theorem R269_r (l : List PV) (K0 : List PV → R) : R269 (r269 l) K0 = K0 l := by kernel_rfl
/-! 273f280 : slices.IndexFunc[[]int,int] -/
def c273f280 (k : Nat) (qs : List PV) (n1 n11 : Int) (l l1 l2 : List PV) : R := evF P E T k 273 [.s (.c (.p (PV.row 0 0 qs))), .s (.c (.cfn 280 [PV.agg [.int .i64 n1, .int .i64 n11, .row 2 0 l, .row 2 0 l1], PV.agg [.row 2 0 l2]]))] []
def r273f280 (qr : Int) : R := some ([.c (.p (PV.int .i64 qr))], [])
def R273f280 (x0 : R) (K0 : Int → R) : R := x0.bind fun q0 => bif lensB q0.2 [] && lensS q0.1 [.c (.p (.int .i64))] then (cInt (resAt q0.1 0) .i64).bind fun qr => K0 qr else none
@[simp] theorem R273f280_r (qr : Int) (K0 : Int → R) : R273f280 (r273f280 qr) K0 = K0 qr := by kernel_rfl
def R273f280p (x0 : R) (K0 : Int → R) : R := x0.bind fun q0 => bif q0.1.all plainS && q0.2.all (fun cs => cs.all plainC) then (bif lensB q0.2 [] && lensS q0.1 [.c (.p (.int .i64))] then (cInt (resAt q0.1 0) .i64).bind fun qr => K0 qr else none) else none
@[simp] theorem R273f280p_r (qr : Int) (K0 : Int → R) : R273f280p (r273f280 qr) K0 = K0 qr := by kernel_rfl
def L273f280_1 (k n : Nat) (qs : List PV) (n1 n11 : Int) (l l1 l2 : List PV) (t7 t8 : Int) : R := evLoopAt P E T k 273 281273 [] [1, 0, 1, 0] [] n ⟨mkT 19 [(0, .s (.c (.p (PV.row 0 0 qs)))), (1, .s (.c (.cfn 280 [PV.agg [.int .i64 n1, .int .i64 n11, .row 2 0 l, .row 2 0 l1], PV.agg [.row 2 0 l2]]))), (7, .s (.c (.p (PV.int .i64 t7)))), (8, .s (.c (.p (PV.int .i64 t8))))], []⟩
/-! 273f265 : slices.IndexFunc[[]int,int] -/
def c273f265 (k : Nat) (qs : List PV) (n1 : Int) : R := evF P E T k 273 [.s (.c (.p (PV.row 0 0 qs))), .s (.c (.fn 265 [0]))] [[.p (PV.int .i64 n1)]]
def r273f265 (qr qr1 : Int) : R := some ([.c (.p (PV.int .i64 qr1))], [[.p (PV.int .i64 qr)]])
def R273f265 (x0 : R) (K0 : Int → Int → R) : R := x0.bind fun q0 => bif lensB q0.2 [[.p (.int .i64)]] && lensS q0.1 [.c (.p (.int .i64))] then (cInt (cellAt q0.2 0 0) .i64).bind fun qr => (cInt (resAt q0.1 0) .i64).bind fun qr1 => K0 qr qr1 else none
@[simp] theorem R273f265_r (qr qr1 : Int) (K0 : Int → Int → R) : R273f265 (r273f265 qr qr1) K0 = K0 qr qr1 := by kernel_rfl
def L273f265_1 (k n : Nat) (qs : List PV) (t7 t8 n1 : Int) : R := evLoopAt P E T k 273 266273 [1] [1, 0, 1, 0] [] n ⟨mkT 19 [(0, .s (.c (.p (PV.row 0 0 qs)))), (1, .s (.c (.fn 265 [0]))), (7, .s (.c (.p (PV.int .i64 t7)))), (8, .s (.c (.p (PV.int .i64 t8))))], [.box [.p (PV.int .i64 n1)]]⟩
/-! 280 : impl.Program).holdsAll$1 -/
def c280 (k : Nat) (no n1 n11 : Int) (l l1 l2 : List PV) : R := evF P E T k 280 [.s (.c (.p (PV.int .i64 no))), .s (.c (.eptr (PV.agg [.int .i64 n1, .int .i64 n11, .row 2 0 l, .row 2 0 l1]) 4 0)), .s (.c (.eptr (PV.agg [.row 2 0 l2]) 1 0))] []
def r280 (b : Bool) : R := some ([.c (.p (PV.bool b))], [])
def R280 (x0 : R) (K0 : Bool → R) : R := x0.bind fun q0 => bif lensB q0.2 [] && lensS q0.1 [.c (.p (.bool))] then (cBool (resAt q0.1 0)).bind fun b => K0 b else none
@[simp] theorem R280_r (b : Bool) (K0 : Bool → R) : R280 (r280 b) K0 = K0 b := by kernel_rfl
/-! 281 : spec.l2Need -/
def c281 (k : Nat) (op : Int) : R := evF P E T k 281 [.s (.c (.p (PV.int .i64 op)))] []
def r281 (qr qr1 qr2 : Int) : R := some ([.c (.p (PV.int .i64 qr)), .c (.p (PV.int .i64 qr1)), .c (.p (PV.int .i64 qr2))], [])
def R281 (x0 : R) (K0 : Int → Int → Int → R) : R := x0.bind fun q0 => bif lensB q0.2 [] && lensS q0.1 [.c (.p (.int .i64)), .c (.p (.int .i64)), .c (.p (.int .i64))] then (cInt (resAt q0.1 0) .i64).bind fun qr => (cInt (resAt q0.1 1) .i64).bind fun qr1 => (cInt (resAt q0.1 2) .i64).bind fun qr2 => K0 qr qr1 qr2 else none
@[simp] theorem R281_r (qr qr1 qr2 : Int) (K0 : Int → Int → Int → R) : R281 (r281 qr qr1 qr2) K0 = K0 qr qr1 qr2 := by kernel_rfl
/-! 283f300 : impl.Command] -/
def c283f300 (k : Nat) (qs : List PV) (n1 n11 : Int) (l l1 : List PV) : R := evF P E T k 283 [.s (.c (.p (PV.row 2 0 qs))), .s (.c (.fn 300 [0]))] [[.p (PV.int .i64 n1), .p (PV.int .i64 n11), .p (PV.row 2 0 l), .p (PV.row 2 0 l1)]]
def r283f300 (qr qr1 : Int) (l l1 : List PV) (qr2 : Int) : R := some ([.c (.p (PV.int .i64 qr2))], [[.p (PV.int .i64 qr), .p (PV.int .i64 qr1), .p (PV.row 2 0 l), .p (PV.row 2 0 l1)]])
def R283f300 (x0 : R) (K0 : Int → Int → List PV → List PV → Int → R) : R := x0.bind fun q0 => bif lensB q0.2 [[.p (.int .i64), .p (.int .i64), .p (.row 2), .p (.row 2)]] && lensS q0.1 [.c (.p (.int .i64))] then (cInt (cellAt q0.2 0 0) .i64).bind fun qr => (cInt (cellAt q0.2 0 1) .i64).bind fun qr1 => (cRow (cellAt q0.2 0 2) 2).bind fun l => (cRow (cellAt q0.2 0 3) 2).bind fun l1 => (cInt (resAt q0.1 0) .i64).bind fun qr2 => K0 qr qr1 l l1 qr2 else none
@[simp] theorem R283f300_r (qr qr1 : Int) (l l1 : List PV) (qr2 : Int) (K0 : Int → Int → List PV → List PV → Int → R) : R283f300 (r283f300 qr qr1 l l1 qr2) K0 = K0 qr qr1 l l1 qr2 := by kernel_rfl
def L283f300_1 (k n : Nat) (qs : List PV) (t7 t8 n1 n11 : Int) (l l1 : List PV) : R := evLoopAt P E T k 283 301283 [4] [1, 0, 1, 0] [] n ⟨mkT 19 [(0, .s (.c (.p (PV.row 2 0 qs)))), (1, .s (.c (.fn 300 [0]))), (7, .s (.c (.p (PV.int .i64 t7)))), (8, .s (.c (.p (PV.int .i64 t8))))], [.box [.p (PV.int .i64 n1), .p (PV.int .i64 n11), .p (PV.row 2 0 l), .p (PV.row 2 0 l1)]]⟩
/-! 296 : spec.l1Cur).command -/
def c296 (k : Nat) (wide vars : Int) (l : List PV) (n1 n11 : Int) : R := evF P E T k 296 [.s (.c (.bptr 0 0)), .s (.c (.p (PV.int .i64 wide))), .s (.c (.p (PV.int .i64 vars)))] [[.p (PV.row 0 0 l), .p (PV.int .i64 n1), .p (PV.int .u64 n11)]]
def r296 (l : List PV) (qr qr1 : Int) (l1 l2 : List PV) : R := some ([.agg [.p (PV.row 2 0 l1), .own 221 2 l2]], [[.p (PV.row 0 0 l), .p (PV.int .i64 qr), .p (PV.int .u64 qr1)]])
def R296 (x0 : R) (K0 : List PV → Int → Int → List PV → List PV → R) : R := x0.bind fun q0 => bif lensB q0.2 [[.p (.row 0), .p (.int .i64), .p (.int .u64)]] && lensS q0.1 [.agg [.p (.row 2), .own 221 2]] then (cRow (cellAt q0.2 0 0) 0).bind fun l => (cInt (cellAt q0.2 0 1) .i64).bind fun qr => (cInt (cellAt q0.2 0 2) .u64).bind fun qr1 => (cRow (Dp.partAt q0.1 0 0) 2).bind fun l1 => (asOwn 221 2 (Dp.partAt q0.1 0 1)).bind fun l2 => K0 l qr qr1 l1 l2 else none
@[simp] theorem R296_r (l : List PV) (qr qr1 : Int) (l1 l2 : List PV) (K0 : List PV → Int → Int → List PV → List PV → R) : R296 (r296 l qr qr1 l1 l2) K0 = K0 l qr qr1 l1 l2 := by kernel_rfl
def L296_1 (k n : Nat) (wide vars v : Int) (l : List PV) (n1 n11 : Int) (l1 l2 : List PV) (Len Len1 : Nat) (xs xs1 : List PV) : R := evLoopAt P E T k 296 296 [3] [1, 1, 0, 1, 0] [] n ⟨mkT 35 [(0, .s (.c (.bptr 0 0))), (1, .s (.c (.p (PV.int .i64 wide)))), (2, .s (.c (.p (PV.int .i64 vars)))), (6, .s (.c (.bptr 1 0))), (7, .s (.c (.bptr 2 0))), (8, .s (.c (.p (PV.int .i64 v))))], [.box [.p (PV.row 0 0 l), .p (PV.int .i64 n1), .p (PV.int .u64 n11)], .box [.p (PV.row 2 0 l1), .p (PV.row 2 0 l2)], .box [.loc 3 0 2 0 Len, .loc 4 0 2 0 Len1], .arr 176 2 0 false xs, .arr 221 2 0 false xs1]⟩
/-! 297 : spec.l1Cut -/
def c297 (k : Nat) (wide a : Int) : R := evF P E T k 297 [.s (.c (.p (PV.int .i64 wide))), .s (.c (.p (PV.int .u64 a)))] []
def r297 (qr : Int) : R := some ([.c (.p (PV.int .u64 qr))], [])
def R297 (x0 : R) (K0 : Int → R) : R := x0.bind fun q0 => bif lensB q0.2 [] && lensS q0.1 [.c (.p (.int .u64))] then (cInt (resAt q0.1 0) .u64).bind fun qr => K0 qr else none
@[simp] theorem R297_r (qr : Int) (K0 : Int → R) : R297 (r297 qr) K0 = K0 qr := by kernel_rfl
def L297_1 (k n : Nat) (wide a out k1 : Int) : R := evLoopAt P E T k 297 297 [] [1, 1, 0, 1, 0] [] n ⟨mkT 20 [(0, .s (.c (.p (PV.int .i64 wide)))), (1, .s (.c (.p (PV.int .u64 a)))), (5, .s (.c (.p (PV.int .u64 out)))), (6, .s (.c (.p (PV.int .i64 k1))))], []⟩
/-! 298 : spec.l1Wide -/
def c298 (k : Nat) (wide : Int) : R := evF P E T k 298 [.s (.c (.p (PV.int .i64 wide)))] []
def r298 (b : Bool) : R := some ([.c (.p (PV.bool b))], [])
def R298 (x0 : R) (K0 : Bool → R) : R := x0.bind fun q0 => bif lensB q0.2 [] && lensS q0.1 [.c (.p (.bool))] then (cBool (resAt q0.1 0)).bind fun b => K0 b else none
@[simp] theorem R298_r (b : Bool) (K0 : Bool → R) : R298 (r298 b) K0 = K0 b := by kernel_rfl
/-! 299 : spec.l2N -/
def c299 (k : Nat) (wide vars n1 n11 : Int) : R := evF P E T k 299 [.s (.c (.p (PV.int .i64 wide))), .s (.c (.p (PV.int .i64 vars))), .s (.c (.p (PV.agg [.int .i64 n1, .int .u64 n11])))] []
def r299 (b : Bool) : R := some ([.c (.p (PV.bool b))], [])
def R299 (x0 : R) (K0 : Bool → R) : R := x0.bind fun q0 => bif lensB q0.2 [] && lensS q0.1 [.c (.p (.bool))] then (cBool (resAt q0.1 0)).bind fun b => K0 b else none
@[simp] theorem R299_r (b : Bool) (K0 : Bool → R) : R299 (r299 b) K0 = K0 b := by kernel_rfl
/-! 300 : impl.GoodProgram$1 -/
def c300 (k : Nat) (qc qc1 : List PV) (n1 n11 : Int) (l l1 : List PV) : R := evF P E T k 300 [.s (.c (.p (PV.agg [.row 2 0 qc, .row 2 0 qc1]))), .s (.c (.bptr 0 0))] [[.p (PV.int .i64 n1), .p (PV.int .i64 n11), .p (PV.row 2 0 l), .p (PV.row 2 0 l1)]]
def r300 (qr qr1 : Int) (l l1 : List PV) (b : Bool) : R := some ([.c (.p (PV.bool b))], [[.p (PV.int .i64 qr), .p (PV.int .i64 qr1), .p (PV.row 2 0 l), .p (PV.row 2 0 l1)]])
def R300 (x0 : R) (K0 : Int → Int → List PV → List PV → Bool → R) : R := x0.bind fun q0 => bif lensB q0.2 [[.p (.int .i64), .p (.int .i64), .p (.row 2), .p (.row 2)]] && lensS q0.1 [.c (.p (.bool))] then (cInt (cellAt q0.2 0 0) .i64).bind fun qr => (cInt (cellAt q0.2 0 1) .i64).bind fun qr1 => (cRow (cellAt q0.2 0 2) 2).bind fun l => (cRow (cellAt q0.2 0 3) 2).bind fun l1 => (cBool (resAt q0.1 0)).bind fun b => K0 qr qr1 l l1 b else none
@[simp] theorem R300_r (qr qr1 : Int) (l l1 : List PV) (b : Bool) (K0 : Int → Int → List PV → List PV → Bool → R) : R300 (r300 qr qr1 l l1 b) K0 = K0 qr qr1 l l1 b := by kernel_rfl
/-! 301 : impl.Program).isCommand -/
def c301 (k : Nat) (p p1 : Int) (p2 p3 qc qc1 : List PV) : R := evF P E T k 301 [.s (.c (.p (PV.agg [.int .i64 p, .int .i64 p1, .row 2 0 p2, .row 2 0 p3]))), .s (.c (.p (PV.agg [.row 2 0 qc, .row 2 0 qc1])))] []
def r301 (b : Bool) : R := some ([.c (.p (PV.bool b))], [])
def R301 (x0 : R) (K0 : Bool → R) : R := x0.bind fun q0 => bif lensB q0.2 [] && lensS q0.1 [.c (.p (.bool))] then (cBool (resAt q0.1 0)).bind fun b => K0 b else none
@[simp] theorem R301_r (b : Bool) (K0 : Bool → R) : R301 (r301 b) K0 = K0 b := by kernel_rfl
def L301_1 (k n : Nat) (t13 : List PV) (t14 t15 n1 n11 : Int) (l l1 l2 l3 : List PV) : R := evLoopAt P E T k 301 301 [] [1, 1, 0, 1, 0] [] n ⟨mkT 57 [(2, .s (.c (.bptr 0 0))), (3, .s (.c (.bptr 1 0))), (13, .s (.c (.p (PV.row 2 0 t13)))), (14, .s (.c (.p (PV.int .i64 t14)))), (15, .s (.c (.p (PV.int .i64 t15))))], [.box [.p (PV.int .i64 n1), .p (PV.int .i64 n11), .p (PV.row 2 0 l), .p (PV.row 2 0 l1)], .box [.p (PV.row 2 0 l2), .p (PV.row 2 0 l3)]]⟩
/-! 302 : spec.l7Command -/
def c302 (k : Nat) (p p1 : Int) (p2 p3 qc qc1 : List PV) : R := evF P E T k 302 [.s (.c (.p (PV.agg [.int .i64 p, .int .i64 p1, .row 2 0 p2, .row 2 0 p3]))), .s (.c (.p (PV.agg [.row 2 0 qc, .row 2 0 qc1])))] []
def r302 (b : Bool) : R := some ([.c (.p (PV.bool b))], [])
def R302 (x0 : R) (K0 : Bool → R) : R := x0.bind fun q0 => bif lensB q0.2 [] && lensS q0.1 [.c (.p (.bool))] then (cBool (resAt q0.1 0)).bind fun b => K0 b else none
@[simp] theorem R302_r (b : Bool) (K0 : Bool → R) : R302 (r302 b) K0 = K0 b := by kernel_rfl
def L302_1 (k n : Nat) (t21 : List PV) (t22 t23 n1 n11 : Int) (l l1 l2 l3 : List PV) : R := evLoopAt P E T k 302 302 [] [1, 1, 0, 1, 0] [] n ⟨mkT 62 [(2, .s (.c (.bptr 0 0))), (3, .s (.c (.bptr 1 0))), (21, .s (.c (.p (PV.row 2 0 t21)))), (22, .s (.c (.p (PV.int .i64 t22)))), (23, .s (.c (.p (PV.int .i64 t23))))], [.box [.p (PV.int .i64 n1), .p (PV.int .i64 n11), .p (PV.row 2 0 l), .p (PV.row 2 0 l1)], .box [.p (PV.row 2 0 l2), .p (PV.row 2 0 l3)]]⟩
/-! 303 : impl.DivWord -/
def c303 (k : Nat) (wide a b : Int) : R := evF P E T k 303 [.s (.c (.p (PV.int .i64 wide))), .s (.c (.p (PV.int .u64 a))), .s (.c (.p (PV.int .u64 b)))] []
def r303 (qr qr1 : Int) (b : Bool) : R := some ([.c (.p (PV.int .u64 qr)), .c (.p (PV.int .u64 qr1)), .c (.p (PV.bool b))], [])
def R303 (x0 : R) (K0 : Int → Int → Bool → R) : R := x0.bind fun q0 => bif lensB q0.2 [] && lensS q0.1 [.c (.p (.int .u64)), .c (.p (.int .u64)), .c (.p (.bool))] then (cInt (resAt q0.1 0) .u64).bind fun qr => (cInt (resAt q0.1 1) .u64).bind fun qr1 => (cBool (resAt q0.1 2)).bind fun b => K0 qr qr1 b else none
@[simp] theorem R303_r (qr qr1 : Int) (b : Bool) (K0 : Int → Int → Bool → R) : R303 (r303 qr qr1 b) K0 = K0 qr qr1 b := by kernel_rfl
/-! 304 : impl.shift -/
def c304 (k : Nat) (wide a by1 : Int) (left : Bool) : R := evF P E T k 304 [.s (.c (.p (PV.int .i64 wide))), .s (.c (.p (PV.int .u64 a))), .s (.c (.p (PV.int .u64 by1))), .s (.c (.p (PV.bool left)))] []
def r304 (qr : Int) : R := some ([.c (.p (PV.int .u64 qr))], [])
def R304 (x0 : R) (K0 : Int → R) : R := x0.bind fun q0 => bif lensB q0.2 [] && lensS q0.1 [.c (.p (.int .u64))] then (cInt (resAt q0.1 0) .u64).bind fun qr => K0 qr else none
@[simp] theorem R304_r (qr : Int) (K0 : Int → R) : R304 (r304 qr) K0 = K0 qr := by kernel_rfl
/-! 305 : impl.truth -/
def c305 (k : Nat) (holds : Bool) : R := evF P E T k 305 [.s (.c (.p (PV.bool holds)))] []
def r305 (qr : Int) : R := some ([.c (.p (PV.int .u64 qr))], [])
def R305 (x0 : R) (K0 : Int → R) : R := x0.bind fun q0 => bif lensB q0.2 [] && lensS q0.1 [.c (.p (.int .u64))] then (cInt (resAt q0.1 0) .u64).bind fun qr => K0 qr else none
@[simp] theorem R305_r (qr : Int) (K0 : Int → R) : R305 (r305 qr) K0 = K0 qr := by kernel_rfl
/-! 306 : impl.signed -/
def c306 (k : Nat) (wide a : Int) : R := evF P E T k 306 [.s (.c (.p (PV.int .i64 wide))), .s (.c (.p (PV.int .u64 a)))] []
def r306 (qr : Int) : R := some ([.c (.p (PV.int .i64 qr))], [])
def R306 (x0 : R) (K0 : Int → R) : R := x0.bind fun q0 => bif lensB q0.2 [] && lensS q0.1 [.c (.p (.int .i64))] then (cInt (resAt q0.1 0) .i64).bind fun qr => K0 qr else none
@[simp] theorem R306_r (qr : Int) (K0 : Int → R) : R306 (r306 qr) K0 = K0 qr := by kernel_rfl
/-! 308 : spec.l2From -/
def c308 (k : Nat) (t : List PV) (k1 : Int) : R := evF P E T k 308 [.s (.c (.p (PV.row 2 0 t))), .s (.c (.p (PV.int .i64 k1)))] []
def r308 (qr : Int) : R := some ([.c (.p (PV.int .i64 qr))], [])
def R308 (x0 : R) (K0 : Int → R) : R := x0.bind fun q0 => bif lensB q0.2 [] && lensS q0.1 [.c (.p (.int .i64))] then (cInt (resAt q0.1 0) .i64).bind fun qr => K0 qr else none
@[simp] theorem R308_r (qr : Int) (K0 : Int → R) : R308 (r308 qr) K0 = K0 qr := by kernel_rfl
def L308_1 (k n : Nat) (t : List PV) (many from1 : Int) : R := evLoopAt P E T k 308 308 [] [1, 1, 1, 0, 0] [] n ⟨mkT 29 [(0, .s (.c (.p (PV.row 2 0 t)))), (5, .s (.c (.p (PV.int .i64 many)))), (8, .s (.c (.p (PV.int .i64 from1))))], []⟩
/-! 316 : spec.l1Both -/
def c316 (k : Nat) (wide a b : Int) : R := evF P E T k 316 [.s (.c (.p (PV.int .i64 wide))), .s (.c (.p (PV.int .u64 a))), .s (.c (.p (PV.int .u64 b)))] []
def r316 (b : Bool) : R := some ([.c (.p (PV.bool b))], [])
def R316 (x0 : R) (K0 : Bool → R) : R := x0.bind fun q0 => bif lensB q0.2 [] && lensS q0.1 [.c (.p (.bool))] then (cBool (resAt q0.1 0)).bind fun b => K0 b else none
@[simp] theorem R316_r (b : Bool) (K0 : Bool → R) : R316 (r316 b) K0 = K0 b := by kernel_rfl
/-! 317 : impl.PutAll -/
def c317 (k : Nat) (wide vars : Int) (t by1 : List PV) : R := evF P E T k 317 [.s (.c (.p (PV.int .i64 wide))), .s (.c (.p (PV.int .i64 vars))), .s (.c (.p (PV.row 2 0 t))), .s (.c (.p (PV.row 0 0 by1)))] []
def r317 (l : List PV) (b : Bool) : R := some ([.c (.p (PV.row 2 0 l)), .c (.p (PV.bool b))], [])
def R317 (x0 : R) (K0 : List PV → Bool → R) : R := x0.bind fun q0 => bif lensB q0.2 [] && lensS q0.1 [.c (.p (.row 2)), .c (.p (.bool))] then (cRow (resAt q0.1 0) 2).bind fun l => (cBool (resAt q0.1 1)).bind fun b => K0 l b else none
@[simp] theorem R317_r (l : List PV) (b : Bool) (K0 : List PV → Bool → R) : R317 (r317 l b) K0 = K0 l b := by kernel_rfl
def L317_1 (k n : Nat) (by1 : List PV) (outLen : Nat) (t30 : List PV) (t31 t32 n1 n11 : Int) (xs : List PV) : R := evLoopAt P E T k 317 317 [] [1, 1, 1, 0, 1, 0] [] n ⟨mkT 57 [(3, .s (.c (.p (PV.row 0 0 by1)))), (4, .s (.c (.bptr 0 0))), (5, .s (.c (.bptr 1 0))), (10, .s (.c (.loc 2 0 2 0 outLen))), (30, .s (.c (.p (PV.row 2 0 t30)))), (31, .s (.c (.p (PV.int .i64 t31)))), (32, .s (.c (.p (PV.int .i64 t32))))], [.box [.p (PV.int .i64 n1)], .box [.p (PV.int .i64 n11)], .arr 176 2 0 false xs]⟩
/-! 318 : spec.l20Same -/
def c318 (k : Nat) (a b : List PV) : R := evF P E T k 318 [.s (.c (.p (PV.row 2 0 a))), .s (.c (.p (PV.row 2 0 b)))] []
def r318 (b : Bool) : R := some ([.c (.p (PV.bool b))], [])
def R318 (x0 : R) (K0 : Bool → R) : R := x0.bind fun q0 => bif lensB q0.2 [] && lensS q0.1 [.c (.p (.bool))] then (cBool (resAt q0.1 0)).bind fun b => K0 b else none
@[simp] theorem R318_r (b : Bool) (K0 : Bool → R) : R318 (r318 b) K0 = K0 b := by kernel_rfl
def L318_1 (k n : Nat) (a b : List PV) (t12 t13 : Int) : R := evLoopAt P E T k 318 318 [] [1, 1, 0, 1, 0] [] n ⟨mkT 26 [(0, .s (.c (.p (PV.row 2 0 a)))), (1, .s (.c (.p (PV.row 2 0 b)))), (12, .s (.c (.p (PV.int .i64 t12)))), (13, .s (.c (.p (PV.int .i64 t13))))], []⟩
/-! 319 : spec.PutAll -/
def c319 (k : Nat) (wide vars : Int) (t by1 : List PV) : R := evF P E T k 319 [.s (.c (.p (PV.int .i64 wide))), .s (.c (.p (PV.int .i64 vars))), .s (.c (.p (PV.row 2 0 t))), .s (.c (.p (PV.row 0 0 by1)))] []
def r319 (l : List PV) (b : Bool) : R := some ([.c (.p (PV.row 2 0 l)), .c (.p (PV.bool b))], [])
def R319 (x0 : R) (K0 : List PV → Bool → R) : R := x0.bind fun q0 => bif lensB q0.2 [] && lensS q0.1 [.c (.p (.row 2)), .c (.p (.bool))] then (cRow (resAt q0.1 0) 2).bind fun l => (cBool (resAt q0.1 1)).bind fun b => K0 l b else none
@[simp] theorem R319_r (l : List PV) (b : Bool) (K0 : List PV → Bool → R) : R319 (r319 l b) K0 = K0 l b := by kernel_rfl
def L319_1 (k n : Nat) (wide vars : Int) (t by1 t26 : List PV) (t27 t28 : Int) : R := evLoopAt P E T k 319 319 [] [1, 1, 0, 1, 0] [] n ⟨mkT 65 [(0, .s (.c (.p (PV.int .i64 wide)))), (1, .s (.c (.p (PV.int .i64 vars)))), (2, .s (.c (.p (PV.row 2 0 t)))), (3, .s (.c (.p (PV.row 0 0 by1)))), (26, .s (.c (.p (PV.row 0 0 t26)))), (27, .s (.c (.p (PV.int .i64 t27)))), (28, .s (.c (.p (PV.int .i64 t28))))], []⟩
def L319_2 (k n : Nat) (wide vars : Int) (by1 : List PV) (outLen : Nat) (t38 : List PV) (t39 t40 : Int) (xs : List PV) : R := evLoopAt P E T k 319 319 [] [1, 1, 1, 1, 0, 1, 0] [] n ⟨mkT 65 [(0, .s (.c (.p (PV.int .i64 wide)))), (1, .s (.c (.p (PV.int .i64 vars)))), (3, .s (.c (.p (PV.row 0 0 by1)))), (12, .s (.c (.loc 0 0 2 0 outLen))), (38, .s (.c (.p (PV.row 2 0 t38)))), (39, .s (.c (.p (PV.int .i64 t39)))), (40, .s (.c (.p (PV.int .i64 t40))))], [.arr 176 2 0 false xs]⟩
/-! 320 : spec.l2Do -/
def c320 (k : Nat) (wide op a b : Int) : R := evF P E T k 320 [.s (.c (.p (PV.int .i64 wide))), .s (.c (.p (PV.int .i64 op))), .s (.c (.p (PV.int .u64 a))), .s (.c (.p (PV.int .u64 b)))] []
def r320 (qr : Int) : R := some ([.c (.p (PV.int .u64 qr))], [])
def R320 (x0 : R) (K0 : Int → R) : R := x0.bind fun q0 => bif lensB q0.2 [] && lensS q0.1 [.c (.p (.int .u64))] then (cInt (resAt q0.1 0) .u64).bind fun qr => K0 qr else none
@[simp] theorem R320_r (qr : Int) (K0 : Int → R) : R320 (r320 qr) K0 = K0 qr := by kernel_rfl
/-! 326 : impl.areWords -/
def c326 (k : Nat) (wide a b : Int) : R := evF P E T k 326 [.s (.c (.p (PV.int .i64 wide))), .s (.c (.p (PV.int .u64 a))), .s (.c (.p (PV.int .u64 b)))] []
def r326 (b : Bool) : R := some ([.c (.p (PV.bool b))], [])
def R326 (x0 : R) (K0 : Bool → R) : R := x0.bind fun q0 => bif lensB q0.2 [] && lensS q0.1 [.c (.p (.bool))] then (cBool (resAt q0.1 0)).bind fun b => K0 b else none
@[simp] theorem R326_r (b : Bool) (K0 : Bool → R) : R326 (r326 b) K0 = K0 b := by kernel_rfl
/-! 327 : bits.Div64 -/
def c327 (k : Nat) (hi lo y : Int) : R := evF P E T k 327 [.s (.c (.p (PV.int .u64 hi))), .s (.c (.p (PV.int .u64 lo))), .s (.c (.p (PV.int .u64 y)))] []
def r327 (qr qr1 : Int) : R := some ([.c (.p (PV.int .u64 qr)), .c (.p (PV.int .u64 qr1))], [])
def R327 (x0 : R) (K0 : Int → Int → R) : R := x0.bind fun q0 => bif lensB q0.2 [] && lensS q0.1 [.c (.p (.int .u64)), .c (.p (.int .u64))] then (cInt (resAt q0.1 0) .u64).bind fun qr => (cInt (resAt q0.1 1) .u64).bind fun qr1 => K0 qr qr1 else none
@[simp] theorem R327_r (qr qr1 : Int) (K0 : Int → Int → R) : R327 (r327 qr qr1) K0 = K0 qr qr1 := by kernel_rfl
def L327_1 (k n : Nat) (y qs yn1 yn0 un32 un1 un0 q1 rhat : Int) : R := evLoopAt P E T k 327 327 [] [1, 1, 1, 1, 1, 1, 1, 1, 1, 1, 1, 1, 1, 1, 0, 0] [] n ⟨mkT 135 [(2, .s (.c (.p (PV.int .u64 y)))), (8, .s (.c (.p (PV.int .u64 qs)))), (9, .s (.c (.p (PV.int .u64 yn1)))), (10, .s (.c (.p (PV.int .u64 yn0)))), (11, .s (.c (.p (PV.int .u64 un32)))), (13, .s (.c (.p (PV.int .u64 un1)))), (14, .s (.c (.p (PV.int .u64 un0)))), (15, .s (.c (.p (PV.int .u64 q1)))), (16, .s (.c (.p (PV.int .u64 rhat))))], []⟩
def L327_2 (k n : Nat) (y qs yn1 yn0 un0 q1 rhat un21 q0 : Int) : R := evLoopAt P E T k 327 327 [] [1, 1, 1, 1, 1, 1, 1, 1, 1, 1, 1, 1, 1, 1, 1, 1, 1, 1, 0, 0] [] n ⟨mkT 135 [(2, .s (.c (.p (PV.int .u64 y)))), (8, .s (.c (.p (PV.int .u64 qs)))), (9, .s (.c (.p (PV.int .u64 yn1)))), (10, .s (.c (.p (PV.int .u64 yn0)))), (14, .s (.c (.p (PV.int .u64 un0)))), (15, .s (.c (.p (PV.int .u64 q1)))), (16, .s (.c (.p (PV.int .u64 rhat)))), (17, .s (.c (.p (PV.int .u64 un21)))), (18, .s (.c (.p (PV.int .u64 q0))))], []⟩
/-! 333 : impl.PutAll$1 -/
def c333 (k : Nat) (own : List PV) (n1 n11 : Int) : R := evF P E T k 333 [.s (.c (.p (PV.row 2 0 own))), .s (.c (.bptr 0 0)), .s (.c (.bptr 1 0))] [[.p (PV.int .i64 n1)], [.p (PV.int .i64 n11)]]
def r333 (qr qr1 : Int) (b : Bool) : R := some ([.c (.p (PV.bool b))], [[.p (PV.int .i64 qr)], [.p (PV.int .i64 qr1)]])
def R333 (x0 : R) (K0 : Int → Int → Bool → R) : R := x0.bind fun q0 => bif lensB q0.2 [[.p (.int .i64)], [.p (.int .i64)]] && lensS q0.1 [.c (.p (.bool))] then (cInt (cellAt q0.2 0 0) .i64).bind fun qr => (cInt (cellAt q0.2 1 0) .i64).bind fun qr1 => (cBool (resAt q0.1 0)).bind fun b => K0 qr qr1 b else none
@[simp] theorem R333_r (qr qr1 : Int) (b : Bool) (K0 : Int → Int → Bool → R) : R333 (r333 qr qr1 b) K0 = K0 qr qr1 b := by kernel_rfl
/-! 334 : spec.DivWord -/
def c334 (k : Nat) (wide a b : Int) : R := evF P E T k 334 [.s (.c (.p (PV.int .i64 wide))), .s (.c (.p (PV.int .u64 a))), .s (.c (.p (PV.int .u64 b)))] []
def r334 (qr qr1 : Int) (b : Bool) : R := some ([.c (.p (PV.int .u64 qr)), .c (.p (PV.int .u64 qr1)), .c (.p (PV.bool b))], [])
def R334 (x0 : R) (K0 : Int → Int → Bool → R) : R := x0.bind fun q0 => bif lensB q0.2 [] && lensS q0.1 [.c (.p (.int .u64)), .c (.p (.int .u64)), .c (.p (.bool))] then (cInt (resAt q0.1 0) .u64).bind fun qr => (cInt (resAt q0.1 1) .u64).bind fun qr1 => (cBool (resAt q0.1 2)).bind fun b => K0 qr qr1 b else none
@[simp] theorem R334_r (qr qr1 : Int) (b : Bool) (K0 : Int → Int → Bool → R) : R334 (r334 qr qr1 b) K0 = K0 qr qr1 b := by kernel_rfl
/-! 335 : spec.l1Shift -/
def c335 (k : Nat) (wide a by1 : Int) (left : Bool) : R := evF P E T k 335 [.s (.c (.p (PV.int .i64 wide))), .s (.c (.p (PV.int .u64 a))), .s (.c (.p (PV.int .u64 by1))), .s (.c (.p (PV.bool left)))] []
def r335 (qr : Int) : R := some ([.c (.p (PV.int .u64 qr))], [])
def R335 (x0 : R) (K0 : Int → R) : R := x0.bind fun q0 => bif lensB q0.2 [] && lensS q0.1 [.c (.p (.int .u64))] then (cInt (resAt q0.1 0) .u64).bind fun qr => K0 qr else none
@[simp] theorem R335_r (qr : Int) (K0 : Int → R) : R335 (r335 qr) K0 = K0 qr := by kernel_rfl
def L335_1 (k n : Nat) (wide a by1 : Int) (left : Bool) : R := evLoopAt P E T k 335 335 [] [1, 1, 0, 0] [] n ⟨mkT 25 [(0, .s (.c (.p (PV.int .i64 wide)))), (1, .s (.c (.p (PV.int .u64 a)))), (2, .s (.c (.p (PV.int .u64 by1)))), (3, .s (.c (.p (PV.bool left))))], []⟩
/-! 336 : spec.l2Bool -/
def c336 (k : Nat) (is1 : Bool) : R := evF P E T k 336 [.s (.c (.p (PV.bool is1)))] []
def r336 (qr : Int) : R := some ([.c (.p (PV.int .u64 qr))], [])
def R336 (x0 : R) (K0 : Int → R) : R := x0.bind fun q0 => bif lensB q0.2 [] && lensS q0.1 [.c (.p (.int .u64))] then (cInt (resAt q0.1 0) .u64).bind fun qr => K0 qr else none
@[simp] theorem R336_r (qr : Int) (K0 : Int → R) : R336 (r336 qr) K0 = K0 qr := by kernel_rfl
/-! 337 : spec.l1Signed -/
def c337 (k : Nat) (wide a : Int) : R := evF P E T k 337 [.s (.c (.p (PV.int .i64 wide))), .s (.c (.p (PV.int .u64 a)))] []
def r337 (qr : Int) : R := some ([.c (.p (PV.int .i64 qr))], [])
def R337 (x0 : R) (K0 : Int → R) : R := x0.bind fun q0 => bif lensB q0.2 [] && lensS q0.1 [.c (.p (.int .i64))] then (cInt (resAt q0.1 0) .i64).bind fun qr => K0 qr else none
@[simp] theorem R337_r (qr : Int) (K0 : Int → R) : R337 (r337 qr) K0 = K0 qr := by kernel_rfl
/-! 348 : bits.Len64 -/
def c348 (k : Nat) (x : Int) : R := evF P E T k 348 [.s (.c (.p (PV.int .u64 x)))] []
def r348 (qr : Int) : R := some ([.c (.p (PV.int .i64 qr))], [])
def R348 (x0 : R) (K0 : Int → R) : R := x0.bind fun q0 => bif lensB q0.2 [] && lensS q0.1 [.c (.p (.int .i64))] then (cInt (resAt q0.1 0) .i64).bind fun qr => K0 qr else none
@[simp] theorem R348_r (qr : Int) (K0 : Int → R) : R348 (r348 qr) K0 = K0 qr := by kernel_rfl
/-! 351 : bits.LeadingZeros64 -/
def c351 (k : Nat) (x : Int) : R := evF P E T k 351 [.s (.c (.p (PV.int .u64 x)))] []
def r351 (qr : Int) : R := some ([.c (.p (PV.int .i64 qr))], [])
def R351 (x0 : R) (K0 : Int → R) : R := x0.bind fun q0 => bif lensB q0.2 [] && lensS q0.1 [.c (.p (.int .i64))] then (cInt (resAt q0.1 0) .i64).bind fun qr => K0 qr else none
@[simp] theorem R351_r (qr : Int) (K0 : Int → R) : R351 (r351 qr) K0 = K0 qr := by kernel_rfl
end
end Go.Proofs.YtclkgblckicabaaGreat
/- Normal forms: printed by nf.py. -/
set_option linter.unusedVariables false
set_option maxRecDepth 100000
namespace Go.Proofs.YtclkgblckicabaaGreat
open Go.Dp
/-! 5 : laws.FnApart -/
theorem n5 (k : Nat) (code more : List PV) : c5 (k + 1) code more =
 R12 (c12 k code more) fun b1 =>
 bif b1 then
  r5 true
 else
  R38 (c38 k code) fun v1 v2 l1 l2 l3 l4 l5 =>
  R39 (c39 k v1 v2 l1 l2 l3 l4 l5) fun v3 b2 =>
  R40 (c40 k v1 v2 l1 l2 l3 l4 l5) fun v4 b3 =>
  bif (!(b2 == b3)) then
   r5 false
  else
   bif (v3 != v4) then
    r5 false
   else L5_1 k k more l3 l4 l5 v3 b2 0 v1 v2 l1 l2 := by kernel_rfl
theorem sL5_1 (k n : Nat) (more terms a b : List PV) (k1 : Int) (ok : Bool) (i n1 n11 : Int) (l l1 : List PV) : L5_1 k (n + 1) more terms a b k1 ok i n1 n11 l l1 =
 bif ok then
  bif decide (i ≤ k1) then
   (lookP terms i).bind fun p1 =>
   (p1.atRow 2 0).bind fun l2 =>
   R41 (c41 k n1 n11 l l1 l2 a b) fun b1 b2 =>
   bif !b2 then
    r5 false
   else
    bif (!(b1 == (i == k1))) then
     r5 false
    else L5_1 k n more terms a b k1 ok (IntKind.i64.wrap (i + 1)) n1 n11 l l1
  else
   R42 (c42 k more) fun v1 v2 l3 l4 l5 =>
   R43 (c43 k v1 v2 l3 l4 l5) fun l6 b3 =>
   R44 (c44 k v1 v2 l3 l4 l5) fun l7 b4 =>
   bif (!(b3 == b4)) then
    r5 false
   else
    bif ((l6.length : Int) != (l7.length : Int)) then
     r5 false
    else L5_2 k k more l7 l6 (l6.length : Int) 0 v1 v2 l3 l4
 else
  R42 (c42 k more) fun v3 v4 l8 l9 l10 =>
  R43 (c43 k v3 v4 l8 l9 l10) fun l11 b5 =>
  R44 (c44 k v3 v4 l8 l9 l10) fun l12 b6 =>
  bif (!(b5 == b6)) then
   r5 false
  else
   bif ((l11.length : Int) != (l12.length : Int)) then
    r5 false
   else L5_2 k k more l12 l11 (l11.length : Int) 0 v3 v4 l8 l9 := by kernel_rfl
theorem sL5_2 (k n : Nat) (more try1 t125 : List PV) (t126 t127 n1 n11 : Int) (l l1 : List PV) : L5_2 k (n + 1) more try1 t125 t126 t127 n1 n11 l l1 =
 bif decide (t127 < t126) then
  (lookP t125 t127).bind fun p1 =>
  (p1.atRow 2 0).bind fun l2 =>
  R45 (c45 k n1 n11 l2) fun v1 b1 =>
  bif !b1 then
   r5 false
  else
   bif (v1 != 2) then
    r5 false
   else
    (lookP try1 t127).bind fun p2 =>
    (p2.atRow 2 0).bind fun l3 =>
    R46 (c46 k l2 l3) fun b2 =>
    bif !b2 then
     r5 false
    else L5_2 k n more try1 t125 t126 (IntKind.i64.wrap (t127 + 1)) n1 n11 l l1
 else
  R47 (c47 k more) fun v2 v3 l4 l5 l6 l7 l8 =>
  R41 (c41 k v2 v3 l4 l5 l6 l7 l8) fun b3 b4 =>
  R48 (c48 k v2 v3 l4 l5 l6 l7 l8) fun b5 b6 =>
  R41 (c41 k v2 v3 l4 l5 l6 l8 l7) fun b7 b8 =>
  bif (b4 == b6) then
   bif (b3 == b5) then
    bif (b8 == b4) then
     r5 (b7 == b3)
    else r5 false
   else r5 false
  else r5 false := by kernel_rfl
/-! 12 : laws.big -/
theorem n12 (k : Nat) (code more : List PV) : c12 (k + 1) code more =
 bif decide ((code.length : Int) > 1048576) then
  r12 true
 else r12 (decide ((more.length : Int) > IntKind.i64.wrap (1048576 - (code.length : Int)))) := by kernel_rfl
/-! 38 : spec.DrawFirstApart -/
theorem n38 (k : Nat) (code : List PV) : c38 (k + 1) code =
 R105 (c105 k code 0 0) fun l1 v1 v2 v3 v4 l2 l3 =>
 R148 (c148 k v3 v4 l2 l3 6 l1 v1 v2) fun l4 v5 v6 l5 =>
 R149 (c149 k 4 2 l4 v5 v6) fun l6 v7 v8 l7 =>
 R149 (c149 k 4 2 l6 v7 v8) fun l8 v9 v10 l9 =>
 r38 v3 v4 l2 l3 l5 l7 l9 := by kernel_rfl
/-! 39 : impl.FirstApart -/
theorem n39 (k : Nat) (p p1 : Int) (p2 p3 terms a b : List PV) : c39 (k + 1) p p1 p2 p3 terms a b =
 R150 (c150 k p p1 p2 p3 a b) fun b1 =>
 bif !b1 then
  r39 0 false
 else
  bif decide ((terms.length : Int) > 40) then
   r39 0 false
  else
   R151f152p (c151f152 k terms p p1 p2 p3) fun b2 =>
   bif b2 then
    r39 0 false
   else
    R154 (c154 k p p1 p2 p3 terms a b) fun v1 =>
    r39 (maxI 0 v1) (decide (v1 ≥ 0)) := by kernel_rfl
/-! 40 : spec.FirstApart -/
theorem n40 (k : Nat) (p p1 : Int) (p2 p3 terms a b : List PV) : c40 (k + 1) p p1 p2 p3 terms a b =
 R115 (c115 k p p1 p2 p3) fun b1 =>
 bif !b1 then
  r40 0 false
 else
  bif decide ((terms.length : Int) > 40) then
   r40 0 false
  else
   R155 (c155 k p p1 p2 p3 a) fun b2 =>
   bif !b2 then
    r40 0 false
   else
    R155 (c155 k p p1 p2 p3 b) fun b3 =>
    bif !b3 then
     r40 0 false
    else L40_1 k k terms a b terms (terms.length : Int) 0 p p1 p2 p3 := by kernel_rfl
theorem sL40_1 (k n : Nat) (terms a b t33 : List PV) (t34 t35 n1 n11 : Int) (l l1 : List PV) : L40_1 k (n + 1) terms a b t33 t34 t35 n1 n11 l l1 =
 bif decide (t35 < t34) then
  (lookP t33 t35).bind fun p1 =>
  (p1.atRow 2 0).bind fun l2 =>
  R110 (c110 k n1 n11 l l1 l2) fun b1 =>
  bif !b1 then
   r40 0 false
  else L40_1 k n terms a b t33 t34 (IntKind.i64.wrap (t35 + 1)) n1 n11 l l1
 else
  R156 (c156 k n1 n11 l l1 terms a b) fun v1 =>
  bif decide (v1 < 0) then
   r40 0 false
  else r40 v1 true := by kernel_rfl
/-! 41 : impl.Separates -/
theorem n41 (k : Nat) (p p1 : Int) (p2 p3 t a b : List PV) : c41 (k + 1) p p1 p2 p3 t a b =
 R150 (c150 k p p1 p2 p3 a b) fun b1 =>
 bif !b1 then
  r41 false false
 else
  R153 (c153 k p p1 p2 p3 t) fun b2 =>
  bif !b2 then
   r41 false false
  else
   R157 (c157 k p p1 p2 p3 t a b) fun b3 =>
   r41 b3 true := by kernel_rfl
/-! 42 : spec.DrawTryTerms -/
theorem n42 (k : Nat) (code : List PV) : c42 (k + 1) code =
 R105 (c105 k code 0 0) fun l1 v1 v2 v3 v4 l2 l3 =>
 R148 (c148 k v3 v4 l2 l3 3 l1 v1 v2) fun l4 v5 v6 l5 =>
 r42 v3 v4 l2 l3 l5 := by kernel_rfl
/-! 43 : impl.TryTerms -/
theorem n43 (k : Nat) (p p1 : Int) (p2 p3 preds : List PV) : c43 (k + 1) p p1 p2 p3 preds =
 R112 (c112 k p p1 p2 p3) fun b1 =>
 bif !b1 then
  r43 [] false
 else
  R120 (c120 k p p1 p2 p3 preds 0) fun b2 =>
  bif !b2 then
   r43 [] false
  else
   R158 (c158 k p p1 p2 p3 preds) fun l1 =>
   r43 l1 true := by kernel_rfl
/-! 44 : spec.TryTerms -/
theorem n44 (k : Nat) (p p1 : Int) (p2 p3 preds : List PV) : c44 (k + 1) p p1 p2 p3 preds =
 R115 (c115 k p p1 p2 p3) fun b1 =>
 bif !b1 then
  r44 [] false
 else
  R159 (c159 k p p1 p2 p3 preds) fun b2 =>
  bif !b2 then
   r44 [] false
  else
   R160 (c160 k p p1 p2 p3 preds) fun l1 =>
   r44 l1 true := by kernel_rfl
/-! 45 : impl.KindOf -/
theorem n45 (k : Nat) (wide vars : Int) (t : List PV) : c45 (k + 1) wide vars t =
 R161 (c161 k wide vars t) fun b1 =>
 bif !b1 then
  r45 0 false
 else
  R162 (c162 k t) fun v1 =>
  r45 v1 true := by kernel_rfl
/-! 46 : laws.sameNodes -/
theorem n46 (k : Nat) (a b : List PV) : c46 (k + 1) a b =
 bif ((a.length : Int) != (b.length : Int)) then
  r46 false
 else L46_1 k k a b (a.length : Int) 0 := by kernel_rfl
theorem sL46_1 (k n : Nat) (a b : List PV) (t12 t13 : Int) : L46_1 k (n + 1) a b t12 t13 =
 bif decide (t13 < t12) then
  (lookP a t13).bind fun p1 =>
  bif p1.shp 2 then
   (p1.atInt .i64 0).bind fun n1 =>
   (p1.atInt .u64 1).bind fun n2 =>
   (lookP b t13).bind fun p2 =>
   bif p2.shp 2 then
    (p2.atInt .i64 0).bind fun n3 =>
    (p2.atInt .u64 1).bind fun n4 =>
    bif (!((n1 == n3) && ((n2 == n4) && true))) then
     r46 false
    else L46_1 k n a b t12 (IntKind.i64.wrap (t13 + 1))
   else none
  else none
 else r46 true := by kernel_rfl
/-! 47 : spec.DrawSeparates -/
theorem n47 (k : Nat) (code : List PV) : c47 (k + 1) code =
 R105 (c105 k code 0 0) fun l1 v1 v2 v3 v4 l2 l3 =>
 R163 (c163 k v3 v4 l2 l3 1 l1 v1 v2) fun l4 v5 v6 l5 =>
 R145 (c145 k 2 l4 v5 v6) fun l6 v7 v8 b1 =>
 bif b1 then
  R115 (c115 k v3 v4 l2 l3) fun b2 =>
  bif b2 then
   R110 (c110 k v3 v4 l2 l3 l5) fun b3 =>
   bif b3 then
    R164 (c164 k v3 v4 l2 l3 l5) fun l7 =>
    L47_1 k k l5 l7 0 0 0 0 [] [] v3 v4 l2 l3 []
   else
    R149 (c149 k 4 2 l6 v7 v8) fun l8 v9 v10 l9 =>
    R149 (c149 k 4 2 l8 v9 v10) fun l10 v11 v12 l11 =>
    r47 v3 v4 l2 l3 l5 l9 l11
  else
   R149 (c149 k 4 2 l6 v7 v8) fun l12 v13 v14 l13 =>
   R149 (c149 k 4 2 l12 v13 v14) fun l14 v15 v16 l15 =>
   r47 v3 v4 l2 l3 l5 l13 l15
 else
  R149 (c149 k 4 2 l6 v7 v8) fun l16 v17 v18 l17 =>
  R149 (c149 k 4 2 l16 v17 v18) fun l18 v19 v20 l19 =>
  r47 v3 v4 l2 l3 l5 l17 l19 := by kernel_rfl
theorem sL47_1 (k n : Nat) (t in1 : List PV) (outLen : Nat) (no n1 n11 : Int) (l l1 : List PV) (n12 n13 : Int) (l2 l3 xs : List PV) : L47_1 k (n + 1) t in1 outLen no n1 n11 l l1 n12 n13 l2 l3 xs =
 R116 (c116 k n12 n13 l2 l3) fun v1 =>
 bif decide (no < v1) then
  R165 (c165 k in1 no) fun b1 =>
  bif !b1 then
   bif decide ((outLen + 1) * 8 ≤ LIM) && decide (outLen + 1 ≤ LIM) then
    L47_1 k n t in1 (outLen + 1) (IntKind.i64.wrap (no + 1)) n1 n11 l l1 n12 n13 l2 l3 ((xs.take outLen) ++ [PV.int .i64 no])
   else none
  else L47_1 k n t in1 outLen (IntKind.i64.wrap (no + 1)) n1 n11 l l1 n12 n13 l2 l3 xs
 else r47 n12 n13 l2 l3 t in1 (xs.take outLen) := by kernel_rfl
/-! 48 : spec.Separates -/
theorem n48 (k : Nat) (p p1 : Int) (p2 p3 t a b : List PV) : c48 (k + 1) p p1 p2 p3 t a b =
 R115 (c115 k p p1 p2 p3) fun b1 =>
 bif !b1 then
  r48 false false
 else
  R110 (c110 k p p1 p2 p3 t) fun b2 =>
  bif !b2 then
   r48 false false
  else
   R155 (c155 k p p1 p2 p3 a) fun b3 =>
   bif !b3 then
    r48 false false
   else
    R155 (c155 k p p1 p2 p3 b) fun b4 =>
    bif !b4 then
     r48 false false
    else
     R166 (c166 k p p1 p2 p3 t a b) fun b5 =>
     r48 b5 true := by kernel_rfl
/-! 105 : spec.l1Cur).small -/
theorem n105 (k : Nat) (l : List PV) (n1 n11 : Int) : c105 (k + 1) l n1 n11 =
 R128 (c128 k [PV.int .i64 1, PV.int .i64 2, PV.int .i64 2, PV.int .i64 2, PV.int .i64 3, PV.int .i64 4] l n1 n11) fun l1 v1 v2 v3 =>
 bif decide (v3 < 3) then
  bif !(v3 == 0) then
   R143 (c143 k (IntKind.i64.wrap ((6 : Int).tdiv v3)) l1 v1 v2) fun l2 v4 v5 v6 =>
   L105_1 k k v3 (IntKind.i64.wrap (1 + v6)) l2 v4 v5 0 0 [] []
  else none
 else L105_1 k k v3 1 l1 v1 v2 0 0 [] [] := by kernel_rfl
theorem sL105_1 (k n : Nat) (wide vars : Int) (l : List PV) (n1 n11 n12 n13 : Int) (l1 l2 : List PV) : L105_1 k (n + 1) wide vars l n1 n11 n12 n13 l1 l2 =
 bif decide (IntKind.i64.wrap (wide * vars) > 5) then
  L105_1 k n wide (IntKind.i64.wrap (vars - 1)) l n1 n11 n12 n13 l1 l2
 else
  bif decide (vars > 4) then
   L105_1 k n wide (IntKind.i64.wrap (vars - 1)) l n1 n11 n12 n13 l1 l2
  else
   R227 (c227 k wide vars l n1 n11) fun l3 v1 v2 v3 v4 l4 l5 =>
   R143 (c143 k 40 l3 v1 v2) fun l6 v5 v6 v7 =>
   bif (v7 == 0) then
    R128 (c128 k [PV.int .i64 0, PV.int .i64 4, PV.int .i64 5] l6 v5 v6) fun l7 v8 v9 v10 =>
    r105 l7 v8 v9 v3 v10 l4 (l5.take l5.length)
   else
    bif (v7 == 1) then
     r105 l6 v5 v6 v3 v4 l4 []
    else
     bif (v7 == 2) then
      bif decide ((0 : Int) < (l5.length : Int)) then
       (l5[0]?).bind fun p1 =>
       (putPart p1 2 0 (PV.row 2 0 [PV.agg [.int .i64 1, .int .u64 0]]) 0).bind fun p2 =>
       r105 l6 v5 v6 v3 v4 l4 ((l5.set 0 p2).take l5.length)
      else none
     else
      bif (v7 == 3) then
       bif decide ((0 : Int) < (l5.length : Int)) then
        (l5[0]?).bind fun p3 =>
        (p3.atRow 2 1).bind fun l8 =>
        bif decide ((l8.length + 1) * 32 ≤ LIM) && decide (l8.length + 1 ≤ LIM) then
         bif decide ((0 : Int) < (l5.length : Int)) then
          (l5[0]?).bind fun p4 =>
          bif decide (l8.length + 1 ≤ (l8 ++ [PV.agg [.int .i64 0, .row 2 0 [PV.agg [.int .i64 1, .int .u64 0]]]]).length) then
           (putPart p4 2 1 (PV.row 2 0 ((l8 ++ [PV.agg [.int .i64 0, .row 2 0 [PV.agg [.int .i64 1, .int .u64 0]]]]).take (l8.length + 1))) 0).bind fun p5 =>
           r105 l6 v5 v6 v3 v4 l4 ((l5.set 0 p5).take l5.length)
          else none
         else none
        else none
       else none
      else r105 l6 v5 v6 v3 v4 l4 (l5.take l5.length) := by kernel_rfl
/-! 107 : spec.l1Cur).asked -/
theorem n107 (k : Nat) (wide vars deep : Int) (l : List PV) (n1 n11 : Int) : c107 (k + 1) wide vars deep l n1 n11 =
 R145 (c145 k 20 l n1 n11) fun l1 v1 v2 b1 =>
 bif b1 then
  R143 (c143 k 2 l1 v1 v2) fun l2 v3 v4 v5 =>
  r107 l2 v3 v4 [PV.agg [.int .i64 20, .int .u64 (IntKind.u64.wrap v5)]]
 else
  bif decide (deep > 0) then
   R145 (c145 k 4 l1 v1 v2) fun l3 v6 v7 b2 =>
   bif b2 then
    R107 (c107 k wide vars (IntKind.i64.wrap (deep - 1)) l3 v6 v7) fun l4 v8 v9 l5 =>
    bif decide ((l5.length + 1) * 16 ≤ LIM) && decide (l5.length + 1 ≤ LIM) then
     r107 l4 v8 v9 (((l5.take l5.length) ++ [PV.agg [.int .i64 19, .int .u64 0]]).take (l5.length + 1))
    else none
   else
    bif decide (deep > 0) then
     R145 (c145 k 2 l3 v6 v7) fun l6 v10 v11 b3 =>
     bif b3 then
      R107 (c107 k wide vars (IntKind.i64.wrap (deep - 1)) l6 v10 v11) fun l7 v12 v13 l8 =>
      R107 (c107 k wide vars (IntKind.i64.wrap (deep - 1)) l7 v12 v13) fun l9 v14 v15 l10 =>
      bif decide ((l8.length + ((l10.take l10.length).length)) * 16 ≤ LIM) && decide (l8.length + ((l10.take l10.length).length) ≤ LIM) then
       R128 (c128 k [PV.int .i64 17, PV.int .i64 18] l9 v14 v15) fun l11 v16 v17 v18 =>
       bif decide (((l8.length + ((l10.take l10.length).length)) + 1) * 16 ≤ LIM) && decide ((l8.length + ((l10.take l10.length).length)) + 1 ≤ LIM) then
        r107 l11 v16 v17 (((((l8.take l8.length) ++ (l10.take l10.length)).take (l8.length + ((l10.take l10.length).length))) ++ [PV.agg [.int .i64 v18, .int .u64 0]]).take ((l8.length + ((l10.take l10.length).length)) + 1))
       else none
      else none
     else
      R228 (c228 k wide vars 1 l6 v10 v11) fun l12 v19 v20 l13 =>
      R143 (c143 k 2 l12 v19 v20) fun l14 v21 v22 v23 =>
      R228 (c228 k wide vars v23 l14 v21 v22) fun l15 v24 v25 l16 =>
      bif decide ((l13.length + ((l16.take l16.length).length)) * 16 ≤ LIM) && decide (l13.length + ((l16.take l16.length).length) ≤ LIM) then
       R128 (c128 k [PV.int .i64 14, PV.int .i64 15, PV.int .i64 15, PV.int .i64 16] l15 v24 v25) fun l17 v26 v27 v28 =>
       bif decide (((l13.length + ((l16.take l16.length).length)) + 1) * 16 ≤ LIM) && decide ((l13.length + ((l16.take l16.length).length)) + 1 ≤ LIM) then
        r107 l17 v26 v27 (((((l13.take l13.length) ++ (l16.take l16.length)).take (l13.length + ((l16.take l16.length).length))) ++ [PV.agg [.int .i64 v28, .int .u64 0]]).take ((l13.length + ((l16.take l16.length).length)) + 1))
       else none
      else none
    else
     R228 (c228 k wide vars 1 l3 v6 v7) fun l18 v29 v30 l19 =>
     R143 (c143 k 2 l18 v29 v30) fun l20 v31 v32 v33 =>
     R228 (c228 k wide vars v33 l20 v31 v32) fun l21 v34 v35 l22 =>
     bif decide ((l19.length + ((l22.take l22.length).length)) * 16 ≤ LIM) && decide (l19.length + ((l22.take l22.length).length) ≤ LIM) then
      R128 (c128 k [PV.int .i64 14, PV.int .i64 15, PV.int .i64 15, PV.int .i64 16] l21 v34 v35) fun l23 v36 v37 v38 =>
      bif decide (((l19.length + ((l22.take l22.length).length)) + 1) * 16 ≤ LIM) && decide ((l19.length + ((l22.take l22.length).length)) + 1 ≤ LIM) then
       r107 l23 v36 v37 (((((l19.take l19.length) ++ (l22.take l22.length)).take (l19.length + ((l22.take l22.length).length))) ++ [PV.agg [.int .i64 v38, .int .u64 0]]).take ((l19.length + ((l22.take l22.length).length)) + 1))
      else none
     else none
  else
   bif decide (deep > 0) then
    R145 (c145 k 2 l1 v1 v2) fun l24 v39 v40 b4 =>
    bif b4 then
     R107 (c107 k wide vars (IntKind.i64.wrap (deep - 1)) l24 v39 v40) fun l25 v41 v42 l26 =>
     R107 (c107 k wide vars (IntKind.i64.wrap (deep - 1)) l25 v41 v42) fun l27 v43 v44 l28 =>
     bif decide ((l26.length + ((l28.take l28.length).length)) * 16 ≤ LIM) && decide (l26.length + ((l28.take l28.length).length) ≤ LIM) then
      R128 (c128 k [PV.int .i64 17, PV.int .i64 18] l27 v43 v44) fun l29 v45 v46 v47 =>
      bif decide (((l26.length + ((l28.take l28.length).length)) + 1) * 16 ≤ LIM) && decide ((l26.length + ((l28.take l28.length).length)) + 1 ≤ LIM) then
       r107 l29 v45 v46 (((((l26.take l26.length) ++ (l28.take l28.length)).take (l26.length + ((l28.take l28.length).length))) ++ [PV.agg [.int .i64 v47, .int .u64 0]]).take ((l26.length + ((l28.take l28.length).length)) + 1))
      else none
     else none
    else
     R228 (c228 k wide vars 1 l24 v39 v40) fun l30 v48 v49 l31 =>
     R143 (c143 k 2 l30 v48 v49) fun l32 v50 v51 v52 =>
     R228 (c228 k wide vars v52 l32 v50 v51) fun l33 v53 v54 l34 =>
     bif decide ((l31.length + ((l34.take l34.length).length)) * 16 ≤ LIM) && decide (l31.length + ((l34.take l34.length).length) ≤ LIM) then
      R128 (c128 k [PV.int .i64 14, PV.int .i64 15, PV.int .i64 15, PV.int .i64 16] l33 v53 v54) fun l35 v55 v56 v57 =>
      bif decide (((l31.length + ((l34.take l34.length).length)) + 1) * 16 ≤ LIM) && decide ((l31.length + ((l34.take l34.length).length)) + 1 ≤ LIM) then
       r107 l35 v55 v56 (((((l31.take l31.length) ++ (l34.take l34.length)).take (l31.length + ((l34.take l34.length).length))) ++ [PV.agg [.int .i64 v57, .int .u64 0]]).take ((l31.length + ((l34.take l34.length).length)) + 1))
      else none
     else none
   else
    R228 (c228 k wide vars 1 l1 v1 v2) fun l36 v58 v59 l37 =>
    R143 (c143 k 2 l36 v58 v59) fun l38 v60 v61 v62 =>
    R228 (c228 k wide vars v62 l38 v60 v61) fun l39 v63 v64 l40 =>
    bif decide ((l37.length + ((l40.take l40.length).length)) * 16 ≤ LIM) && decide (l37.length + ((l40.take l40.length).length) ≤ LIM) then
     R128 (c128 k [PV.int .i64 14, PV.int .i64 15, PV.int .i64 15, PV.int .i64 16] l39 v63 v64) fun l41 v65 v66 v67 =>
     bif decide (((l37.length + ((l40.take l40.length).length)) + 1) * 16 ≤ LIM) && decide ((l37.length + ((l40.take l40.length).length)) + 1 ≤ LIM) then
      r107 l41 v65 v66 (((((l37.take l37.length) ++ (l40.take l40.length)).take (l37.length + ((l40.take l40.length).length))) ++ [PV.agg [.int .i64 v67, .int .u64 0]]).take ((l37.length + ((l40.take l40.length).length)) + 1))
     else none
    else none := by kernel_rfl
/-! 108 : spec.l2One -/
theorem n108 (k : Nat) (n1 : Int) : c108 (k + 1) n1 =
 bif decide (n1 < 1) then
  r108 1
 else r108 n1 := by kernel_rfl
/-! 110 : spec.l7Asks -/
theorem n110 (k : Nat) (p p1 : Int) (p2 p3 t : List PV) : c110 (k + 1) p p1 p2 p3 t =
 R229 (c229 k p p1 t) fun v1 =>
 r110 (v1 == 2) := by kernel_rfl
/-! 112 : impl.isSmall -/
theorem n112 (k : Nat) (p p1 : Int) (p2 p3 : List PV) : c112 (k + 1) p p1 p2 p3 =
 R230 (c230 k p p1 p2 p3) fun b1 =>
 bif b1 then
  r112 (decide (IntKind.i64.wrap (p * p1) ≤ 5))
 else r112 false := by kernel_rfl
/-! 114 : impl.Program).states -/
theorem n114 (k : Nat) (p p1 : Int) (p2 p3 : List PV) : c114 (k + 1) p p1 p2 p3 =
 bif !decide (IntKind.i64.wrap (p * p1) < 0) then
  r114 (shlI .i64 1 (IntKind.i64.wrap (p * p1)))
 else none := by kernel_rfl
/-! 115 : spec.l7Small -/
theorem n115 (k : Nat) (p p1 : Int) (p2 p3 : List PV) : c115 (k + 1) p p1 p2 p3 =
 R231 (c231 k p p1 p2 p3) fun b1 =>
 bif b1 then
  r115 (decide (IntKind.i64.wrap (p * p1) ≤ 5))
 else r115 false := by kernel_rfl
/-! 116 : spec.l7Many -/
theorem n116 (k : Nat) (p p1 : Int) (p2 p3 : List PV) : c116 (k + 1) p p1 p2 p3 =
 bif !decide (IntKind.u64.wrap (IntKind.i64.wrap (p * p1)) < 0) then
  r116 (shlI .i64 1 (IntKind.u64.wrap (IntKind.i64.wrap (p * p1))))
 else none := by kernel_rfl
/-! 117 : spec.l1In -/
theorem n117 (k : Nat) (n1 lo hi : Int) : c117 (k + 1) n1 lo hi =
 bif decide (n1 ≥ lo) then
  r117 (decide (n1 ≤ hi))
 else r117 false := by kernel_rfl
/-! 120 : impl.Program).arePreds -/
theorem n120 (k : Nat) (p p1 : Int) (p2 p3 preds : List PV) (least : Int) : c120 (k + 1) p p1 p2 p3 preds least =
 bif decide ((preds.length : Int) ≥ least) then
  bif decide ((preds.length : Int) ≤ 8) then
   R151f233p (c151f233 k preds p p1 p2 p3) fun b1 =>
   r120 (!b1)
  else r120 false
 else r120 false := by kernel_rfl
/-! 121 : impl.Program).stateOf -/
theorem n121 (k : Nat) (p p1 : Int) (p2 p3 : List PV) (no : Int) : c121 (k + 1) p p1 p2 p3 no =
 L121_1 k k no 0 p1 0 p p1 p2 p3 [] := by kernel_rfl
theorem sL121_1 (k n : Nat) (no : Int) (outLen : Nat) (t9 t10 n1 n11 : Int) (l l1 xs : List PV) : L121_1 k (n + 1) no outLen t9 t10 n1 n11 l l1 xs =
 bif decide (t10 < t9) then
  bif !decide (IntKind.i64.wrap (n1 * t10) < 0) then
   R234 (c234 k n1) fun v1 =>
   bif decide ((outLen + 1) * 8 ≤ LIM) && decide (outLen + 1 ≤ LIM) then
    L121_1 k n no (outLen + 1) t9 (IntKind.i64.wrap (t10 + 1)) n1 n11 l l1 ((xs.take outLen) ++ [PV.int .u64 (bitsOp .and .u64 (shrI .u64 (IntKind.u64.wrap no) (IntKind.i64.wrap (n1 * t10))) v1)])
   else none
  else none
 else r121 (xs.take outLen) := by kernel_rfl
/-! 122 : impl.valueOf -/
theorem n122 (k : Nat) (wide : Int) (t state : List PV) : c122 (k + 1) wide t state =
 L122_1 k k wide state 0 t (t.length : Int) 0 [] := by kernel_rfl
theorem sL122_1 (k n : Nat) (wide : Int) (state : List PV) (stackLen : Nat) (t12 : List PV) (t13 t14 : Int) (xs : List PV) : L122_1 k (n + 1) wide state stackLen t12 t13 t14 xs =
 bif decide (t14 < t13) then
  (lookP t12 t14).bind fun p1 =>
  bif p1.shp 2 then
   (p1.atInt .i64 0).bind fun n1 =>
   (p1.atInt .u64 1).bind fun n2 =>
   bif (n1 == 1) then
    bif decide ((stackLen + 1) * 8 ≤ LIM) && decide (stackLen + 1 ≤ LIM) then
     L122_1 k n wide state (stackLen + 1) t12 t13 (IntKind.i64.wrap (t14 + 1)) ((xs.take stackLen) ++ [PV.int .u64 n2])
    else none
   else
    bif (n1 == 20) then
     bif decide ((stackLen + 1) * 8 ≤ LIM) && decide (stackLen + 1 ≤ LIM) then
      L122_1 k n wide state (stackLen + 1) t12 t13 (IntKind.i64.wrap (t14 + 1)) ((xs.take stackLen) ++ [PV.int .u64 n2])
     else none
    else
     bif (n1 == 2) then
      (lookP state n2).bind fun p2 =>
      (p2.atInt .u64 0).bind fun n3 =>
      bif decide ((stackLen + 1) * 8 ≤ LIM) && decide (stackLen + 1 ≤ LIM) then
       L122_1 k n wide state (stackLen + 1) t12 t13 (IntKind.i64.wrap (t14 + 1)) ((xs.take stackLen) ++ [PV.int .u64 n3])
      else none
     else
      bif (n1 == 13) then
       bif decide ((0 : Int) ≤ IntKind.i64.wrap ((stackLen : Int) - 1)) && decide (IntKind.i64.wrap ((stackLen : Int) - 1) < (stackLen : Int)) then
        (xs[0 + ((IntKind.i64.wrap ((stackLen : Int) - 1)).toNat)]?).bind fun p3 =>
        (p3.atInt .u64 0).bind fun n4 =>
        R234 (c234 k wide) fun v1 =>
        bif decide ((0 : Int) ≤ IntKind.i64.wrap ((stackLen : Int) - 1)) && decide (IntKind.i64.wrap ((stackLen : Int) - 1) < (stackLen : Int)) then
         (xs[0 + ((IntKind.i64.wrap ((stackLen : Int) - 1)).toNat)]?).bind fun p4 =>
         L122_1 k n wide state stackLen t12 t13 (IntKind.i64.wrap (t14 + 1)) (xs.set (0 + ((IntKind.i64.wrap ((stackLen : Int) - 1)).toNat)) (PV.int .u64 (bitsOp .and .u64 (bitsOp .xor .u64 18446744073709551615 n4) v1)))
        else none
       else none
      else
       bif (n1 == 19) then
        bif decide ((0 : Int) ≤ IntKind.i64.wrap ((stackLen : Int) - 1)) && decide (IntKind.i64.wrap ((stackLen : Int) - 1) < (stackLen : Int)) then
         (xs[0 + ((IntKind.i64.wrap ((stackLen : Int) - 1)).toNat)]?).bind fun p5 =>
         (p5.atInt .u64 0).bind fun n5 =>
         bif decide ((0 : Int) ≤ IntKind.i64.wrap ((stackLen : Int) - 1)) && decide (IntKind.i64.wrap ((stackLen : Int) - 1) < (stackLen : Int)) then
          (xs[0 + ((IntKind.i64.wrap ((stackLen : Int) - 1)).toNat)]?).bind fun p6 =>
          L122_1 k n wide state stackLen t12 t13 (IntKind.i64.wrap (t14 + 1)) (xs.set (0 + ((IntKind.i64.wrap ((stackLen : Int) - 1)).toNat)) (PV.int .u64 (IntKind.u64.wrap (1 - n5))))
         else none
        else none
       else
        bif decide ((0 : Int) ≤ IntKind.i64.wrap ((IntKind.i64.wrap ((stackLen : Int) - 1)) - 1)) && decide (IntKind.i64.wrap ((IntKind.i64.wrap ((stackLen : Int) - 1)) - 1) ≤ (stackLen : Int)) then
         bif decide ((0 : Int) ≤ IntKind.i64.wrap ((IntKind.i64.wrap ((stackLen : Int) - 1)) - 1)) && decide (IntKind.i64.wrap ((IntKind.i64.wrap ((stackLen : Int) - 1)) - 1) < (stackLen : Int)) then
          (xs[0 + ((IntKind.i64.wrap ((IntKind.i64.wrap ((stackLen : Int) - 1)) - 1)).toNat)]?).bind fun p7 =>
          (p7.atInt .u64 0).bind fun n6 =>
          bif decide ((0 : Int) ≤ IntKind.i64.wrap ((stackLen : Int) - 1)) && decide (IntKind.i64.wrap ((stackLen : Int) - 1) < (stackLen : Int)) then
           (xs[0 + ((IntKind.i64.wrap ((stackLen : Int) - 1)).toNat)]?).bind fun p8 =>
           (p8.atInt .u64 0).bind fun n7 =>
           R235 (c235 k wide n1 n6 n7) fun v2 =>
           bif decide ((((IntKind.i64.wrap ((IntKind.i64.wrap ((stackLen : Int) - 1)) - 1)).toNat) + 1) * 8 ≤ LIM) && decide (((IntKind.i64.wrap ((IntKind.i64.wrap ((stackLen : Int) - 1)) - 1)).toNat) + 1 ≤ LIM) then
            L122_1 k n wide state (((IntKind.i64.wrap ((IntKind.i64.wrap ((stackLen : Int) - 1)) - 1)).toNat) + 1) t12 t13 (IntKind.i64.wrap (t14 + 1)) ((xs.take ((IntKind.i64.wrap ((IntKind.i64.wrap ((stackLen : Int) - 1)) - 1)).toNat)) ++ [PV.int .u64 v2])
           else none
          else none
         else none
        else none
  else none
 else
  bif decide ((0 : Int) < (stackLen : Int)) then
   (xs[0]?).bind fun p9 =>
   (p9.atInt .u64 0).bind fun n8 =>
   r122 n8
  else none := by kernel_rfl
/-! 128 : spec.l1Cur).among -/
theorem n128 (k : Nat) (list l : List PV) (n1 n11 : Int) : c128 (k + 1) list l n1 n11 =
 R143 (c143 k (list.length : Int) l n1 n11) fun l1 v1 v2 v3 =>
 (lookP list v3).bind fun p1 =>
 (p1.atInt .i64 0).bind fun n2 =>
 r128 l1 v1 v2 n2 := by kernel_rfl
end Go.Proofs.YtclkgblckicabaaGreat
/- Normal forms: printed by nf.py. -/
set_option linter.unusedVariables false
set_option maxRecDepth 100000
namespace Go.Proofs.YtclkgblckicabaaGreat
open Go.Dp
/-! 137 : impl.Program).holds -/
theorem n137 (k : Nat) (p p1 : Int) (p2 p3 t qs : List PV) : c137 (k + 1) p p1 p2 p3 t qs =
 R122 (c122 k p t qs) fun v1 =>
 r137 (v1 == 1) := by kernel_rfl
/-! 143 : spec.l1Cur).pick -/
theorem n143 (k : Nat) (n1 : Int) (l : List PV) (n11 n12 : Int) : c143 (k + 1) n1 l n11 n12 =
 bif decide (n1 ≤ 1) then
  r143 l n11 n12 0
 else
  R250 (c250 k l n11 n12) fun l1 v1 v2 v3 =>
  bif decide (n1 > 200) then
   R250 (c250 k l1 v1 v2) fun l2 v4 v5 v6 =>
   bif !(n1 == 0) then
    r143 l2 v4 v5 ((IntKind.i64.wrap ((IntKind.i64.wrap (v3 * 256)) + v6)).tmod n1)
   else none
  else
   bif !(n1 == 0) then
    r143 l1 v1 v2 (v3.tmod n1)
   else none := by kernel_rfl
/-! 145 : spec.l1Cur).one -/
theorem n145 (k : Nat) (n1 : Int) (l : List PV) (n11 n12 : Int) : c145 (k + 1) n1 l n11 n12 =
 R143 (c143 k n1 l n11 n12) fun l1 v1 v2 v3 =>
 r145 l1 v1 v2 (v3 == 0) := by kernel_rfl
/-! 148 : spec.l1Cur).preds -/
theorem n148 (k : Nat) (p p1 : Int) (p2 p3 : List PV) (most : Int) (l : List PV) (n1 n11 : Int) : c148 (k + 1) p p1 p2 p3 most l n1 n11 =
 R143 (c143 k (IntKind.i64.wrap (most + 1)) l n1 n11) fun l1 v1 v2 v3 =>
 L148_1 k k 0 v3 l1 v1 v2 p p1 p2 p3 [] := by kernel_rfl
theorem sL148_1 (k n : Nat) (lLen : Nat) (n1 : Int) (l : List PV) (n11 n12 n13 n14 : Int) (l1 l2 xs : List PV) : L148_1 k (n + 1) lLen n1 l n11 n12 n13 n14 l1 l2 xs =
 bif decide (n1 > 0) then
  R108 (c108 k n13) fun v1 =>
  R108 (c108 k n14) fun v2 =>
  R143 (c143 k 2 l n11 n12) fun l3 v3 v4 v5 =>
  R107 (c107 k v1 v2 v5 l3 v3 v4) fun l4 v6 v7 l5 =>
  bif decide ((lLen + 1) * 24 ≤ LIM) && decide (lLen + 1 ≤ LIM) then
   L148_1 k n (lLen + 1) (IntKind.i64.wrap (n1 - 1)) l4 v6 v7 n13 n14 l1 l2 ((xs.take lLen) ++ [PV.row 2 0 (l5.take l5.length)])
  else none
 else r148 l n11 n12 (xs.take lLen) := by kernel_rfl
/-! 149 : spec.l1Cur).someOf -/
theorem n149 (k : Nat) (n1 most : Int) (l : List PV) (n11 n12 : Int) : c149 (k + 1) n1 most l n11 n12 =
 R143 (c143 k (IntKind.i64.wrap (most + 1)) l n11 n12) fun l1 v1 v2 v3 =>
 L149_1 k k n1 0 v3 l1 v1 v2 [] := by kernel_rfl
theorem sL149_1 (k n : Nat) (n1 : Int) (lLen : Nat) (k1 : Int) (l : List PV) (n11 n12 : Int) (xs : List PV) : L149_1 k (n + 1) n1 lLen k1 l n11 n12 xs =
 bif decide (k1 > 0) then
  R143 (c143 k n1 l n11 n12) fun l1 v1 v2 v3 =>
  R200 (c200 k (xs.take lLen) v3) fun l2 =>
  L149_1 k n n1 l2.length (IntKind.i64.wrap (k1 - 1)) l1 v1 v2 l2
 else
  R145 (c145 k 40 l n11 n12) fun l3 v4 v5 b1 =>
  bif b1 then
   bif decide ((lLen + 1) * 8 ≤ LIM) && decide (lLen + 1 ≤ LIM) then
    r149 l3 v4 v5 (((xs.take lLen) ++ [PV.int .i64 n1]).take (lLen + 1))
   else none
  else r149 l3 v4 v5 (xs.take lLen) := by kernel_rfl
/-! 150 : impl.areTwoLists -/
theorem n150 (k : Nat) (p p1 : Int) (p2 p3 a b : List PV) : c150 (k + 1) p p1 p2 p3 a b =
 R112 (c112 k p p1 p2 p3) fun b1 =>
 bif b1 then
  R114 (c114 k p p1 p2 p3) fun v1 =>
  R177 (c177 k a v1) fun b2 =>
  bif b2 then
   R114 (c114 k p p1 p2 p3) fun v2 =>
   R177 (c177 k b v2) fun b3 =>
   r150 b3
  else r150 false
 else r150 false := by kernel_rfl
/-! 151 : impl.Node] -/
theorem n151f152 (k : Nat) (qs : List PV) (n1 n11 : Int) (l l1 : List PV) : c151f152 (k + 1) qs n1 n11 l l1 =
 R254f152p (c254f152 k qs n1 n11 l l1) fun v1 =>
 r151f152 (decide (v1 ≥ 0)) := by kernel_rfl
theorem n151f233 (k : Nat) (qs : List PV) (n1 n11 : Int) (l l1 : List PV) : c151f233 (k + 1) qs n1 n11 l l1 =
 R254f233p (c254f233 k qs n1 n11 l l1) fun v1 =>
 r151f233 (decide (v1 ≥ 0)) := by kernel_rfl
theorem n151f258 (k : Nat) (qs l : List PV) : c151f258 (k + 1) qs l =
 R254f258p (c254f258 k qs l) fun v1 =>
 r151f258 (decide (v1 ≥ 0)) := by kernel_rfl
theorem n151f333 (k : Nat) (qs : List PV) (n1 n11 : Int) : c151f333 (k + 1) qs n1 n11 =
 R254f333 (c254f333 k qs n1 n11) fun v1 v2 v3 =>
 r151f333 v1 v2 (decide (v3 ≥ 0)) := by kernel_rfl
/-! 152 : impl.FirstApart$1 -/
theorem n152 (k : Nat) (t : List PV) (n1 n11 : Int) (l l1 : List PV) : c152 (k + 1) t n1 n11 l l1 =
 R153 (c153 k n1 n11 l l1 t) fun b1 =>
 r152 (!b1) := by kernel_rfl
/-! 153 : impl.Program).isCondition -/
theorem n153 (k : Nat) (p p1 : Int) (p2 p3 t : List PV) : c153 (k + 1) p p1 p2 p3 t =
 R255 (c255 k p p1 t 2) fun b1 =>
 r153 b1 := by kernel_rfl
/-! 154 : impl.Program).firstApart -/
theorem n154 (k : Nat) (p p1 : Int) (p2 p3 terms a b : List PV) : c154 (k + 1) p p1 p2 p3 terms a b =
 R254f256p (c254f256 k terms p p1 p2 p3 a b) fun v1 =>
 r154 v1 := by kernel_rfl
/-! 155 : spec.l20States -/
theorem n155 (k : Nat) (p p1 : Int) (p2 p3 l : List PV) : c155 (k + 1) p p1 p2 p3 l =
 R116 (c116 k p p1 p2 p3) fun v1 =>
 R179 (c179 k l 0 (IntKind.i64.wrap (v1 - 1))) fun b1 =>
 r155 b1 := by kernel_rfl
/-! 156 : spec.l20First -/
theorem n156 (k : Nat) (p p1 : Int) (p2 p3 terms a b : List PV) : c156 (k + 1) p p1 p2 p3 terms a b =
 L156_1 k k a b terms (terms.length : Int) 0 p p1 p2 p3 := by kernel_rfl
theorem sL156_1 (k n : Nat) (a b t11 : List PV) (t12 t13 n1 n11 : Int) (l l1 : List PV) : L156_1 k (n + 1) a b t11 t12 t13 n1 n11 l l1 =
 bif decide (t13 < t12) then
  (lookP t11 t13).bind fun p1 =>
  (p1.atRow 2 0).bind fun l2 =>
  R166 (c166 k n1 n11 l l1 l2 a b) fun b1 =>
  bif b1 then
   r156 t13
  else L156_1 k n a b t11 t12 (IntKind.i64.wrap (t13 + 1)) n1 n11 l l1
 else r156 (-1) := by kernel_rfl
/-! 157 : impl.Program).separates -/
theorem n157 (k : Nat) (p p1 : Int) (p2 p3 t a b : List PV) : c157 (k + 1) p p1 p2 p3 t a b =
 R183p (c183 k [PV.row 2 0 t, PV.row 2 0 [PV.agg [.int .i64 19, .int .u64 0]]]) fun l1 =>
 R204 (c204 k p p1 p2 p3 t a) fun b1 =>
 bif b1 then
  R204p (c204 k p p1 p2 p3 (l1.take l1.length) b) fun b2 =>
  bif b2 then
   r157 true
  else
   R204p (c204 k p p1 p2 p3 (l1.take l1.length) a) fun b3 =>
   bif b3 then
    R204 (c204 k p p1 p2 p3 t b) fun b4 =>
    r157 b4
   else r157 false
 else
  R204p (c204 k p p1 p2 p3 (l1.take l1.length) a) fun b5 =>
  bif b5 then
   R204 (c204 k p p1 p2 p3 t b) fun b6 =>
   r157 b6
  else r157 false := by kernel_rfl
/-! 158 : impl.tryTerms -/
theorem n158 (k : Nat) (p p1 : Int) (p2 p3 preds : List PV) : c158 (k + 1) p p1 p2 p3 preds =
 L158_1 k k preds p3 (p3.length : Int) 0 p p1 p2 p3 0 [] := by kernel_rfl
theorem sL158_1 (k n : Nat) (preds t17 : List PV) (t18 t19 n1 n11 : Int) (l l1 : List PV) (Len : Nat) (xs : List PV) : L158_1 k (n + 1) preds t17 t18 t19 n1 n11 l l1 Len xs =
 bif decide (t19 < t18) then
  (lookP t17 t19).bind fun p1 =>
  bif p1.shp 2 then
   (p1.atRow 2 0).bind fun l2 =>
   (p1.atRow 2 1).bind fun l3 =>
   R257 (c257 k l2 (xs.take Len)) fun l4 =>
   L158_1 k n preds t17 t18 (IntKind.i64.wrap (t19 + 1)) n1 n11 l l1 l4.length l4
  else none
 else L158_2 k k preds (preds.length : Int) 0 n1 n11 l l1 Len xs := by kernel_rfl
theorem sL158_2 (k n : Nat) (t28 : List PV) (t29 t30 n1 n11 : Int) (l l1 : List PV) (Len : Nat) (xs : List PV) : L158_2 k (n + 1) t28 t29 t30 n1 n11 l l1 Len xs =
 bif decide (t30 < t29) then
  (lookP t28 t30).bind fun p1 =>
  (p1.atRow 2 0).bind fun l2 =>
  L158_3 k n k l2 t28 t29 t30 (l1.length : Int) 0 n1 n11 l l1 Len xs
 else r158 (xs.take Len) := by kernel_rfl
theorem sL158_3 (k n1 n : Nat) (t t28 : List PV) (t29 t30 t36 t37 n11 n12 : Int) (l l1 : List PV) (Len : Nat) (xs : List PV) : L158_3 k n1 (n + 1) t t28 t29 t30 t36 t37 n11 n12 l l1 Len xs =
 bif decide (t37 < t36) then
  R260 (c260 k n11 n12 l l1 t37 t) fun l2 b1 =>
  bif b1 then
   R257 (c257 k l2 (xs.take Len)) fun l3 =>
   L158_3 k n1 n t t28 t29 t30 t36 (IntKind.i64.wrap (t37 + 1)) n11 n12 l l1 l3.length l3
  else L158_3 k n1 n t t28 t29 t30 t36 (IntKind.i64.wrap (t37 + 1)) n11 n12 l l1 Len xs
 else L158_2 k n1 t28 t29 (IntKind.i64.wrap (t30 + 1)) n11 n12 l l1 Len xs := by kernel_rfl
/-! 159 : spec.l15Preds -/
theorem n159 (k : Nat) (p p1 : Int) (p2 p3 preds : List PV) : c159 (k + 1) p p1 p2 p3 preds =
 bif decide ((preds.length : Int) > 8) then
  r159 false
 else L159_1 k k preds (preds.length : Int) 0 p p1 p2 p3 := by kernel_rfl
theorem sL159_1 (k n : Nat) (t10 : List PV) (t11 t12 n1 n11 : Int) (l l1 : List PV) : L159_1 k (n + 1) t10 t11 t12 n1 n11 l l1 =
 bif decide (t12 < t11) then
  (lookP t10 t12).bind fun p1 =>
  (p1.atRow 2 0).bind fun l2 =>
  R110 (c110 k n1 n11 l l1 l2) fun b1 =>
  bif !b1 then
   r159 false
  else L159_1 k n t10 t11 (IntKind.i64.wrap (t12 + 1)) n1 n11 l l1
 else r159 true := by kernel_rfl
/-! 160 : spec.l20Terms -/
theorem n160 (k : Nat) (p p1 : Int) (p2 p3 preds : List PV) : c160 (k + 1) p p1 p2 p3 preds =
 L160_1 k k preds 0 p3 (p3.length : Int) 0 p p1 p2 p3 [] := by kernel_rfl
theorem sL160_1 (k n : Nat) (preds : List PV) (outLen : Nat) (t14 : List PV) (t15 t16 n1 n11 : Int) (l l1 xs : List PV) : L160_1 k (n + 1) preds outLen t14 t15 t16 n1 n11 l l1 xs =
 bif decide (t16 < t15) then
  (lookP t14 t16).bind fun p1 =>
  bif p1.shp 2 then
   (p1.atRow 2 0).bind fun l2 =>
   (p1.atRow 2 1).bind fun l3 =>
   R261 (c261 k (xs.take outLen) l2) fun l4 =>
   L160_1 k n preds l4.length t14 t15 (IntKind.i64.wrap (t16 + 1)) n1 n11 l l1 l4
  else none
 else L160_2 k k outLen preds (preds.length : Int) 0 n1 n11 l l1 xs := by kernel_rfl
theorem sL160_2 (k n : Nat) (outLen : Nat) (t25 : List PV) (t26 t27 n1 n11 : Int) (l l1 xs : List PV) : L160_2 k (n + 1) outLen t25 t26 t27 n1 n11 l l1 xs =
 bif decide (t27 < t26) then
  (lookP t25 t27).bind fun p1 =>
  (p1.atRow 2 0).bind fun l2 =>
  L160_3 k n k outLen l2 t25 t26 t27 (l1.length : Int) 0 n1 n11 l l1 xs
 else r160 (xs.take outLen) := by kernel_rfl
theorem sL160_3 (k n1 n : Nat) (outLen : Nat) (t t25 : List PV) (t26 t27 t33 t34 n11 n12 : Int) (l l1 xs : List PV) : L160_3 k n1 (n + 1) outLen t t25 t26 t27 t33 t34 n11 n12 l l1 xs =
 bif decide (t34 < t33) then
  R262 (c262 k n11 n12 l l1 t34 t) fun l2 b1 =>
  bif b1 then
   R261 (c261 k (xs.take outLen) l2) fun l3 =>
   L160_3 k n1 n l3.length t t25 t26 t27 t33 (IntKind.i64.wrap (t34 + 1)) n11 n12 l l1 l3
  else L160_3 k n1 n outLen t t25 t26 t27 t33 (IntKind.i64.wrap (t34 + 1)) n11 n12 l l1 xs
 else L160_2 k n1 outLen t25 t26 (IntKind.i64.wrap (t27 + 1)) n11 n12 l l1 xs := by kernel_rfl
/-! 161 : impl.GoodTerm -/
theorem n161 (k : Nat) (wide vars : Int) (t : List PV) : c161 (k + 1) wide vars t =
 R246 (c246 k wide) fun b1 =>
 bif !b1 then
  r161 false
 else
  R242 (c242 k vars) fun b2 =>
  bif !b2 then
   r161 false
  else
   bif decide ((t.length : Int) < 1) then
    r161 false
   else
    bif decide ((t.length : Int) > 48) then
     r161 false
    else L161_1 k k wide vars 0 t (t.length : Int) 0 [] := by kernel_rfl
theorem sL161_1 (k n : Nat) (wide vars : Int) (stackLen : Nat) (t33 : List PV) (t34 t35 : Int) (xs : List PV) : L161_1 k (n + 1) wide vars stackLen t33 t34 t35 xs =
 bif decide (t35 < t34) then
  (lookP t33 t35).bind fun p1 =>
  bif p1.shp 2 then
   (p1.atInt .i64 0).bind fun n1 =>
   (p1.atInt .u64 1).bind fun n2 =>
   R263 (c263 k n1) fun v1 v2 v3 =>
   bif (v3 == 0) then
    r161 false
   else
    R264 (c264 k wide vars n1 n2) fun b1 =>
    bif !b1 then
     r161 false
    else
     bif decide (IntKind.i64.wrap ((stackLen : Int) - v1) < 0) then
      r161 false
     else
      bif decide ((0 : Int) ≤ IntKind.i64.wrap ((stackLen : Int) - v1)) && decide (IntKind.i64.wrap ((stackLen : Int) - v1) ≤ (stackLen : Int)) && decide ((stackLen : Int) ≤ (stackLen : Int)) then
       R187f265p (c187f265 k ((xs.drop (0 + ((IntKind.i64.wrap ((stackLen : Int) - v1)).toNat))).take (stackLen - ((IntKind.i64.wrap ((stackLen : Int) - v1)).toNat))) v2) fun v4 b2 =>
       bif b2 then
        r161 false
       else
        bif decide ((0 : Int) ≤ IntKind.i64.wrap ((stackLen : Int) - v1)) && decide (IntKind.i64.wrap ((stackLen : Int) - v1) ≤ (stackLen : Int)) then
         bif decide ((((IntKind.i64.wrap ((stackLen : Int) - v1)).toNat) + 1) * 8 ≤ LIM) && decide (((IntKind.i64.wrap ((stackLen : Int) - v1)).toNat) + 1 ≤ LIM) then
          L161_1 k n wide vars (((IntKind.i64.wrap ((stackLen : Int) - v1)).toNat) + 1) t33 t34 (IntKind.i64.wrap (t35 + 1)) ((xs.take ((IntKind.i64.wrap ((stackLen : Int) - v1)).toNat)) ++ [PV.int .i64 v3])
         else none
        else none
      else none
  else none
 else r161 ((stackLen : Int) == 1) := by kernel_rfl
/-! 162 : impl.kindOf -/
theorem n162 (k : Nat) (t : List PV) : c162 (k + 1) t =
 (lookP t (IntKind.i64.wrap ((t.length : Int) - 1))).bind fun p1 =>
 (p1.atInt .i64 0).bind fun n1 =>
 R263 (c263 k n1) fun v1 v2 v3 =>
 r162 v3 := by kernel_rfl
/-! 163 : spec.l1Cur).askedOf -/
theorem n163 (k : Nat) (p p1 : Int) (p2 p3 : List PV) (deep : Int) (l : List PV) (n1 n11 : Int) : c163 (k + 1) p p1 p2 p3 deep l n1 n11 =
 R108 (c108 k p) fun v1 =>
 R108 (c108 k p1) fun v2 =>
 R107 (c107 k v1 v2 deep l n1 n11) fun l1 v3 v4 l2 =>
 R145 (c145 k 40 l1 v3 v4) fun l3 v5 v6 b1 =>
 bif b1 then
  bif decide ((0 : Int) ≤ IntKind.i64.wrap ((l2.length : Int) - 1)) && decide (IntKind.i64.wrap ((l2.length : Int) - 1) ≤ (l2.length : Int)) then
   r163 l3 v5 v6 (l2.take ((IntKind.i64.wrap ((l2.length : Int) - 1)).toNat))
  else none
 else r163 l3 v5 v6 (l2.take l2.length) := by kernel_rfl
/-! 164 : spec.l8Those -/
theorem n164 (k : Nat) (p p1 : Int) (p2 p3 t : List PV) : c164 (k + 1) p p1 p2 p3 t =
 L164_1 k k t 0 0 p p1 p2 p3 [] := by kernel_rfl
theorem sL164_1 (k n : Nat) (t : List PV) (outLen : Nat) (no n1 n11 : Int) (l l1 xs : List PV) : L164_1 k (n + 1) t outLen no n1 n11 l l1 xs =
 R116 (c116 k n1 n11 l l1) fun v1 =>
 bif decide (no < v1) then
  R172 (c172 k n1 n11 l l1 no) fun l2 =>
  R171 (c171 k n1 n11 l l1 t l2) fun b1 =>
  bif b1 then
   bif decide ((outLen + 1) * 8 ≤ LIM) && decide (outLen + 1 ≤ LIM) then
    L164_1 k n t (outLen + 1) (IntKind.i64.wrap (no + 1)) n1 n11 l l1 ((xs.take outLen) ++ [PV.int .i64 no])
   else none
  else L164_1 k n t outLen (IntKind.i64.wrap (no + 1)) n1 n11 l l1 xs
 else r164 (xs.take outLen) := by kernel_rfl
/-! 165 : spec.l1Has -/
theorem n165 (k : Nat) (l : List PV) (n1 : Int) : c165 (k + 1) l n1 =
 L165_1 k k n1 l (l.length : Int) 0 := by kernel_rfl
theorem sL165_1 (k n : Nat) (n1 : Int) (t7 : List PV) (t8 t9 : Int) : L165_1 k (n + 1) n1 t7 t8 t9 =
 bif decide (t9 < t8) then
  (lookP t7 t9).bind fun p1 =>
  (p1.atInt .i64 0).bind fun n2 =>
  bif (n2 == n1) then
   r165 true
  else L165_1 k n n1 t7 t8 (IntKind.i64.wrap (t9 + 1))
 else r165 false := by kernel_rfl
/-! 166 : spec.l20Apart -/
theorem n166 (k : Nat) (p p1 : Int) (p2 p3 t a b : List PV) : c166 (k + 1) p p1 p2 p3 t a b =
 R164 (c164 k p p1 p2 p3 t) fun l1 =>
 R206 (c206 k a l1) fun b1 =>
 bif b1 then
  R266 (c266 k b l1) fun b2 =>
  bif !b2 then
   r166 true
  else
   R266 (c266 k a l1) fun b3 =>
   bif !b3 then
    R206 (c206 k b l1) fun b4 =>
    r166 b4
   else r166 false
 else
  R266 (c266 k a l1) fun b5 =>
  bif !b5 then
   R206 (c206 k b l1) fun b6 =>
   r166 b6
  else r166 false := by kernel_rfl
/-! 169 : impl.checkedTerm -/
theorem n169 (k : Nat) (wide vars : Int) (t : List PV) : c169 (k + 1) wide vars t =
 R161 (c161 k wide vars t) fun b1 =>
 bif !b1 then
  r169 [] false
 else r169 t true := by kernel_rfl
/-! 171 : spec.l7Holds -/
theorem n171 (k : Nat) (p p1 : Int) (p2 p3 t qs : List PV) : c171 (k + 1) p p1 p2 p3 t qs =
 R267 (c267 k p t (IntKind.i64.wrap ((t.length : Int) - 1)) qs) fun v1 =>
 r171 (v1 == 1) := by kernel_rfl
/-! 172 : spec.l7Of -/
theorem n172 (k : Nat) (p p1 : Int) (p2 p3 : List PV) (no : Int) : c172 (k + 1) p p1 p2 p3 no =
 L172_1 k k no 0 0 p p1 p2 p3 [] := by kernel_rfl
theorem sL172_1 (k n : Nat) (no : Int) (outLen : Nat) (v n1 n11 : Int) (l l1 xs : List PV) : L172_1 k (n + 1) no outLen v n1 n11 l l1 xs =
 bif decide (v < n11) then
  bif !decide (IntKind.u64.wrap (IntKind.i64.wrap (v * n1)) < 0) then
   bif !decide (IntKind.u64.wrap n1 < 0) then
    bif decide ((outLen + 1) * 8 ≤ LIM) && decide (outLen + 1 ≤ LIM) then
     L172_1 k n no (outLen + 1) (IntKind.i64.wrap (v + 1)) n1 n11 l l1 ((xs.take outLen) ++ [PV.int .u64 (IntKind.u64.wrap (bitsOp .and .i64 (shrI .i64 no (IntKind.u64.wrap (IntKind.i64.wrap (v * n1)))) (IntKind.i64.wrap ((shlI .i64 1 (IntKind.u64.wrap n1)) - 1))))])
    else none
   else none
  else none
 else r172 (xs.take outLen) := by kernel_rfl
/-! 173 : spec.l2Made -/
theorem n173 (k : Nat) (wide vars : Int) (t : List PV) : c173 (k + 1) wide vars t =
 R268 (c268 k wide vars t) fun b1 =>
 bif !b1 then
  r173 [] false
 else r173 t true := by kernel_rfl
/-! 177 : impl.isIncreasing -/
theorem n177 (k : Nat) (list : List PV) (bound : Int) : c177 (k + 1) list bound =
 L177_1 k k list bound list (list.length : Int) 0 := by kernel_rfl
theorem sL177_1 (k n : Nat) (list : List PV) (bound : Int) (t7 : List PV) (t8 t9 : Int) : L177_1 k (n + 1) list bound t7 t8 t9 =
 bif decide (t9 < t8) then
  (lookP t7 t9).bind fun p1 =>
  (p1.atInt .i64 0).bind fun n1 =>
  bif decide (n1 < 0) then
   r177 false
  else
   bif decide (n1 ≥ bound) then
    r177 false
   else
    bif decide (t9 > 0) then
     (lookP list (IntKind.i64.wrap (t9 - 1))).bind fun p2 =>
     (p2.atInt .i64 0).bind fun n2 =>
     bif decide (n2 ≥ n1) then
      r177 false
     else L177_1 k n list bound t7 t8 (IntKind.i64.wrap (t9 + 1))
    else L177_1 k n list bound t7 t8 (IntKind.i64.wrap (t9 + 1))
 else r177 true := by kernel_rfl
/-! 179 : spec.l1Rising -/
theorem n179 (k : Nat) (l : List PV) (lo hi : Int) : c179 (k + 1) l lo hi =
 L179_1 k k l lo hi l (l.length : Int) 0 := by kernel_rfl
theorem sL179_1 (k n : Nat) (l : List PV) (lo hi : Int) (t9 : List PV) (t10 t11 : Int) : L179_1 k (n + 1) l lo hi t9 t10 t11 =
 bif decide (t11 < t10) then
  (lookP t9 t11).bind fun p1 =>
  (p1.atInt .i64 0).bind fun n1 =>
  R117 (c117 k n1 lo hi) fun b1 =>
  bif !b1 then
   r179 false
  else
   bif decide (t11 > 0) then
    (lookP l (IntKind.i64.wrap (t11 - 1))).bind fun p2 =>
    (p2.atInt .i64 0).bind fun n2 =>
    bif decide (n2 ≥ n1) then
     r179 false
    else L179_1 k n l lo hi t9 t10 (IntKind.i64.wrap (t11 + 1))
   else L179_1 k n l lo hi t9 t10 (IntKind.i64.wrap (t11 + 1))
 else r179 true := by kernel_rfl
/-! 183 : impl.Node] -/
theorem n183 (k : Nat) (slices : List PV) : c183 (k + 1) slices =
 L183_1 k k slices 0 slices (slices.length : Int) 0 := by kernel_rfl
theorem sL183_1 (k n : Nat) (slices : List PV) (size : Int) (t9 : List PV) (t10 t11 : Int) : L183_1 k (n + 1) slices size t9 t10 t11 =
 bif decide (t11 < t10) then
  (lookP t9 t11).bind fun p1 =>
  (p1.atRow 2 0).bind fun l1 =>
  bif decide (IntKind.i64.wrap (size + (l1.length : Int)) < 0) then
   none
  else L183_1 k n slices (IntKind.i64.wrap (size + (l1.length : Int))) t9 t10 (IntKind.i64.wrap (t11 + 1))
 else
  R269 (c269 k [] size) fun l2 =>
  L183_2 k k l2.length slices (slices.length : Int) 0 l2 := by kernel_rfl
theorem sL183_2 (k n : Nat) (newsliceLen : Nat) (t25 : List PV) (t26 t27 : Int) (xs : List PV) : L183_2 k (n + 1) newsliceLen t25 t26 t27 xs =
 bif decide (t27 < t26) then
  (lookP t25 t27).bind fun p1 =>
  (p1.atRow 2 0).bind fun l1 =>
  bif decide ((newsliceLen + l1.length) * 16 ≤ LIM) && decide (newsliceLen + l1.length ≤ LIM) then
   L183_2 k n (newsliceLen + l1.length) t25 t26 (IntKind.i64.wrap (t27 + 1)) ((xs.take newsliceLen) ++ l1)
  else none
 else r183 (xs.take newsliceLen) := by kernel_rfl
/-! 187 : slices.ContainsFunc[[]int,int] -/
theorem n187f280 (k : Nat) (qs : List PV) (n1 n11 : Int) (l l1 l2 : List PV) : c187f280 (k + 1) qs n1 n11 l l1 l2 =
 R273f280p (c273f280 k qs n1 n11 l l1 l2) fun v1 =>
 r187f280 (decide (v1 ≥ 0)) := by kernel_rfl
theorem n187f265 (k : Nat) (qs : List PV) (n1 : Int) : c187f265 (k + 1) qs n1 =
 R273f265 (c273f265 k qs n1) fun v1 v2 =>
 r187f265 v1 (decide (v2 ≥ 0)) := by kernel_rfl
/-! 189 : impl.Node] -/
theorem n189 (k : Nat) (qs : List PV) (h1 : qs.length * 16 ≤ LIM) (h2 : qs.length ≤ LIM) : c189 (k + 1) qs = r189 qs := evF_T (by simp [T, cloneT, clones, lk, h1, h2] <;> rfl)
end Go.Proofs.YtclkgblckicabaaGreat
/- Normal forms: printed by nf.py. -/
set_option linter.unusedVariables false
set_option maxRecDepth 100000
namespace Go.Proofs.YtclkgblckicabaaGreat
open Go.Dp
/-! 200 : spec.l1Put -/
theorem n200 (k : Nat) (l : List PV) (n1 : Int) : c200 (k + 1) l n1 =
 L200_1 k k l.length n1 0 l := by kernel_rfl
theorem sL200_1 (k n : Nat) (lLen : Nat) (n1 k1 : Int) (xs : List PV) : L200_1 k (n + 1) lLen n1 k1 xs =
 bif decide (k1 < (lLen : Int)) then
  bif decide ((0 : Int) ≤ k1) && decide (k1 < (lLen : Int)) then
   (xs[0 + k1.toNat]?).bind fun p1 =>
   (p1.atInt .i64 0).bind fun n2 =>
   bif decide (n2 < n1) then
    L200_1 k n lLen n1 (IntKind.i64.wrap (k1 + 1)) xs
   else
    bif decide (k1 < (lLen : Int)) then
     bif decide ((0 : Int) ≤ k1) && decide (k1 < (lLen : Int)) then
      (xs[0 + k1.toNat]?).bind fun p2 =>
      (p2.atInt .i64 0).bind fun n3 =>
      bif (n3 == n1) then
       r200 (xs.take lLen)
      else
       bif decide ((0 : Int) ≤ k1) && decide (k1 ≤ (lLen : Int)) then
        bif decide ((0 + ((xs.take k1.toNat).length)) * 8 ≤ LIM) && decide (0 + ((xs.take k1.toNat).length) ≤ LIM) then
         bif decide (((0 + ((xs.take k1.toNat).length)) + 1) * 8 ≤ LIM) && decide ((0 + ((xs.take k1.toNat).length)) + 1 ≤ LIM) then
          bif decide ((0 : Int) ≤ k1) && decide (k1 ≤ (lLen : Int)) && decide ((lLen : Int) ≤ (lLen : Int)) then
           bif decide ((((0 + ((xs.take k1.toNat).length)) + 1) + (((xs.drop (0 + k1.toNat)).take (lLen - k1.toNat)).length)) * 8 ≤ LIM) && decide (((0 + ((xs.take k1.toNat).length)) + 1) + (((xs.drop (0 + k1.toNat)).take (lLen - k1.toNat)).length) ≤ LIM) then
            r200 (((((([] ++ (xs.take k1.toNat)).take (0 + ((xs.take k1.toNat).length))) ++ [PV.int .i64 n1]).take ((0 + ((xs.take k1.toNat).length)) + 1)) ++ ((xs.drop (0 + k1.toNat)).take (lLen - k1.toNat))).take (((0 + ((xs.take k1.toNat).length)) + 1) + (((xs.drop (0 + k1.toNat)).take (lLen - k1.toNat)).length)))
           else none
          else none
         else none
        else none
       else none
     else none
    else
     bif decide ((0 : Int) ≤ k1) && decide (k1 ≤ (lLen : Int)) then
      bif decide ((0 + ((xs.take k1.toNat).length)) * 8 ≤ LIM) && decide (0 + ((xs.take k1.toNat).length) ≤ LIM) then
       bif decide (((0 + ((xs.take k1.toNat).length)) + 1) * 8 ≤ LIM) && decide ((0 + ((xs.take k1.toNat).length)) + 1 ≤ LIM) then
        bif decide ((0 : Int) ≤ k1) && decide (k1 ≤ (lLen : Int)) && decide ((lLen : Int) ≤ (lLen : Int)) then
         bif decide ((((0 + ((xs.take k1.toNat).length)) + 1) + (((xs.drop (0 + k1.toNat)).take (lLen - k1.toNat)).length)) * 8 ≤ LIM) && decide (((0 + ((xs.take k1.toNat).length)) + 1) + (((xs.drop (0 + k1.toNat)).take (lLen - k1.toNat)).length) ≤ LIM) then
          r200 (((((([] ++ (xs.take k1.toNat)).take (0 + ((xs.take k1.toNat).length))) ++ [PV.int .i64 n1]).take ((0 + ((xs.take k1.toNat).length)) + 1)) ++ ((xs.drop (0 + k1.toNat)).take (lLen - k1.toNat))).take (((0 + ((xs.take k1.toNat).length)) + 1) + (((xs.drop (0 + k1.toNat)).take (lLen - k1.toNat)).length)))
         else none
        else none
       else none
      else none
     else none
  else none
 else
  bif decide (k1 < (lLen : Int)) then
   bif decide ((0 : Int) ≤ k1) && decide (k1 < (lLen : Int)) then
    (xs[0 + k1.toNat]?).bind fun p3 =>
    (p3.atInt .i64 0).bind fun n4 =>
    bif (n4 == n1) then
     r200 (xs.take lLen)
    else
     bif decide ((0 : Int) ≤ k1) && decide (k1 ≤ (lLen : Int)) then
      bif decide ((0 + ((xs.take k1.toNat).length)) * 8 ≤ LIM) && decide (0 + ((xs.take k1.toNat).length) ≤ LIM) then
       bif decide (((0 + ((xs.take k1.toNat).length)) + 1) * 8 ≤ LIM) && decide ((0 + ((xs.take k1.toNat).length)) + 1 ≤ LIM) then
        bif decide ((0 : Int) ≤ k1) && decide (k1 ≤ (lLen : Int)) && decide ((lLen : Int) ≤ (lLen : Int)) then
         bif decide ((((0 + ((xs.take k1.toNat).length)) + 1) + (((xs.drop (0 + k1.toNat)).take (lLen - k1.toNat)).length)) * 8 ≤ LIM) && decide (((0 + ((xs.take k1.toNat).length)) + 1) + (((xs.drop (0 + k1.toNat)).take (lLen - k1.toNat)).length) ≤ LIM) then
          r200 (((((([] ++ (xs.take k1.toNat)).take (0 + ((xs.take k1.toNat).length))) ++ [PV.int .i64 n1]).take ((0 + ((xs.take k1.toNat).length)) + 1)) ++ ((xs.drop (0 + k1.toNat)).take (lLen - k1.toNat))).take (((0 + ((xs.take k1.toNat).length)) + 1) + (((xs.drop (0 + k1.toNat)).take (lLen - k1.toNat)).length)))
         else none
        else none
       else none
      else none
     else none
   else none
  else
   bif decide ((0 : Int) ≤ k1) && decide (k1 ≤ (lLen : Int)) then
    bif decide ((0 + ((xs.take k1.toNat).length)) * 8 ≤ LIM) && decide (0 + ((xs.take k1.toNat).length) ≤ LIM) then
     bif decide (((0 + ((xs.take k1.toNat).length)) + 1) * 8 ≤ LIM) && decide ((0 + ((xs.take k1.toNat).length)) + 1 ≤ LIM) then
      bif decide ((0 : Int) ≤ k1) && decide (k1 ≤ (lLen : Int)) && decide ((lLen : Int) ≤ (lLen : Int)) then
       bif decide ((((0 + ((xs.take k1.toNat).length)) + 1) + (((xs.drop (0 + k1.toNat)).take (lLen - k1.toNat)).length)) * 8 ≤ LIM) && decide (((0 + ((xs.take k1.toNat).length)) + 1) + (((xs.drop (0 + k1.toNat)).take (lLen - k1.toNat)).length) ≤ LIM) then
        r200 (((((([] ++ (xs.take k1.toNat)).take (0 + ((xs.take k1.toNat).length))) ++ [PV.int .i64 n1]).take ((0 + ((xs.take k1.toNat).length)) + 1)) ++ ((xs.drop (0 + k1.toNat)).take (lLen - k1.toNat))).take (((0 + ((xs.take k1.toNat).length)) + 1) + (((xs.drop (0 + k1.toNat)).take (lLen - k1.toNat)).length)))
       else none
      else none
     else none
    else none
   else none := by kernel_rfl
/-! 204 : impl.Program).holdsAll -/
theorem n204 (k : Nat) (p p1 : Int) (p2 p3 t some1 : List PV) : c204 (k + 1) p p1 p2 p3 t some1 =
 R187f280p (c187f280 k some1 p p1 p2 p3 t) fun b1 =>
 r204 (!b1) := by kernel_rfl
/-! 206 : spec.l16Within -/
theorem n206 (k : Nat) (some1 in1 : List PV) : c206 (k + 1) some1 in1 =
 L206_1 k k in1 some1 (some1.length : Int) 0 := by kernel_rfl
theorem sL206_1 (k n : Nat) (in1 t7 : List PV) (t8 t9 : Int) : L206_1 k (n + 1) in1 t7 t8 t9 =
 bif decide (t9 < t8) then
  (lookP t7 t9).bind fun p1 =>
  (p1.atInt .i64 0).bind fun n1 =>
  R165 (c165 k in1 n1) fun b1 =>
  bif !b1 then
   r206 false
  else L206_1 k n in1 t7 t8 (IntKind.i64.wrap (t9 + 1))
 else r206 true := by kernel_rfl
/-! 212 : impl.Command] -/
theorem n212f300 (k : Nat) (qs : List PV) (n1 n11 : Int) (l l1 : List PV) : c212f300 (k + 1) qs n1 n11 l l1 =
 R283f300 (c283f300 k qs n1 n11 l l1) fun v1 v2 l2 l3 v3 =>
 r212f300 v1 v2 l2 l3 (decide (v3 ≥ 0)) := by kernel_rfl
/-! 227 : spec.l1Cur).progOf -/
theorem n227 (k : Nat) (wide vars : Int) (l : List PV) (n1 n11 : Int) : c227 (k + 1) wide vars l n1 n11 =
 R143 (c143 k 2 l n1 n11) fun l1 v1 v2 v3 =>
 R145 (c145 k 3 l1 v1 v2) fun l2 v4 v5 b1 =>
 bif b1 then
  R107 (c107 k wide vars 1 l2 v4 v5) fun l3 v6 v7 l4 =>
  R143 (c143 k 3 l3 v6 v7) fun l5 v8 v9 v10 =>
  L227_1 k k wide vars (IntKind.i64.wrap (1 + v10)) l5 v8 v9 0 0 [] [] wide vars l4.length 0 l4 []
 else
  R143 (c143 k 3 l2 v4 v5) fun l6 v11 v12 v13 =>
  L227_1 k k wide vars (IntKind.i64.wrap (1 + v13)) l6 v11 v12 0 0 [] [] wide vars 3 0 [PV.agg [.int .i64 2, .int .u64 0], PV.agg [.int .i64 1, .int .u64 (IntKind.u64.wrap v3)], PV.agg [.int .i64 14, .int .u64 0]] [] := by kernel_rfl
theorem sL227_1 (k n : Nat) (wide vars n1 : Int) (l : List PV) (n11 n12 n13 n14 : Int) (l1 l2 : List PV) (n15 n16 : Int) (Len Len1 : Nat) (xs xs1 : List PV) : L227_1 k (n + 1) wide vars n1 l n11 n12 n13 n14 l1 l2 n15 n16 Len Len1 xs xs1 =
 bif decide (n1 > 0) then
  R296 (c296 k wide vars l n11 n12) fun l3 v1 v2 l4 l5 =>
  bif decide (l5.length ≤ l5.length) then
   bif (Len1 == xs1.length) && decide ((Len1 + 1) * 48 ≤ LIM) && decide (Len1 + 1 ≤ LIM) then
    L227_1 k n wide vars (IntKind.i64.wrap (n1 - 1)) l3 v1 v2 n13 n14 l1 l2 n15 n16 Len (Len1 + 1) xs (xs1 ++ [PV.agg [.row 2 0 l4, .row 2 0 (l5.take l5.length)]])
   else none
  else none
 else
  bif (Len1 == xs1.length) then
   r227 l n11 n12 n15 n16 (xs.take Len) (xs1.take Len1)
  else none := by kernel_rfl
/-! 228 : spec.l1Cur).number -/
theorem n228 (k : Nat) (wide vars deep : Int) (l : List PV) (n1 n11 : Int) : c228 (k + 1) wide vars deep l n1 n11 =
 bif (deep == 0) then
  R145 (c145 k 2 l n1 n11) fun l1 v1 v2 b1 =>
  bif b1 then
   R143 (c143 k 9 l1 v1 v2) fun l2 v3 v4 v5 =>
   R297 (c297 k wide (IntKind.u64.wrap v5)) fun v6 =>
   r228 l2 v3 v4 [PV.agg [.int .i64 1, .int .u64 v6]]
  else
   R143 (c143 k vars l1 v1 v2) fun l3 v7 v8 v9 =>
   r228 l3 v7 v8 [PV.agg [.int .i64 2, .int .u64 (IntKind.u64.wrap v9)]]
 else
  R145 (c145 k 4 l n1 n11) fun l4 v10 v11 b2 =>
  bif b2 then
   R145 (c145 k 2 l4 v10 v11) fun l5 v12 v13 b3 =>
   bif b3 then
    R143 (c143 k 9 l5 v12 v13) fun l6 v14 v15 v16 =>
    R297 (c297 k wide (IntKind.u64.wrap v16)) fun v17 =>
    r228 l6 v14 v15 [PV.agg [.int .i64 1, .int .u64 v17]]
   else
    R143 (c143 k vars l5 v12 v13) fun l7 v18 v19 v20 =>
    r228 l7 v18 v19 [PV.agg [.int .i64 2, .int .u64 (IntKind.u64.wrap v20)]]
  else
   R145 (c145 k 7 l4 v10 v11) fun l8 v21 v22 b4 =>
   bif b4 then
    R228 (c228 k wide vars (IntKind.i64.wrap (deep - 1)) l8 v21 v22) fun l9 v23 v24 l10 =>
    bif decide ((l10.length + 1) * 16 ≤ LIM) && decide (l10.length + 1 ≤ LIM) then
     r228 l9 v23 v24 (((l10.take l10.length) ++ [PV.agg [.int .i64 13, .int .u64 0]]).take (l10.length + 1))
    else none
   else
    R228 (c228 k wide vars (IntKind.i64.wrap (deep - 1)) l8 v21 v22) fun l11 v25 v26 l12 =>
    R228 (c228 k wide vars (IntKind.i64.wrap (deep - 1)) l11 v25 v26) fun l13 v27 v28 l14 =>
    bif decide ((l12.length + ((l14.take l14.length).length)) * 16 ≤ LIM) && decide (l12.length + ((l14.take l14.length).length) ≤ LIM) then
     R128 (c128 k [PV.int .i64 3, PV.int .i64 3, PV.int .i64 3, PV.int .i64 4, PV.int .i64 4, PV.int .i64 5, PV.int .i64 8, PV.int .i64 9, PV.int .i64 10] l13 v27 v28) fun l15 v29 v30 v31 =>
     R145 (c145 k 6 l15 v29 v30) fun l16 v32 v33 b5 =>
     bif b5 then
      R128 (c128 k [PV.int .i64 6, PV.int .i64 7, PV.int .i64 11, PV.int .i64 12] l16 v32 v33) fun l17 v34 v35 v36 =>
      bif decide (((l12.length + ((l14.take l14.length).length)) + 1) * 16 ≤ LIM) && decide ((l12.length + ((l14.take l14.length).length)) + 1 ≤ LIM) then
       r228 l17 v34 v35 (((((l12.take l12.length) ++ (l14.take l14.length)).take (l12.length + ((l14.take l14.length).length))) ++ [PV.agg [.int .i64 v36, .int .u64 0]]).take ((l12.length + ((l14.take l14.length).length)) + 1))
      else none
     else
      bif decide (((l12.length + ((l14.take l14.length).length)) + 1) * 16 ≤ LIM) && decide ((l12.length + ((l14.take l14.length).length)) + 1 ≤ LIM) then
       r228 l16 v32 v33 (((((l12.take l12.length) ++ (l14.take l14.length)).take (l12.length + ((l14.take l14.length).length))) ++ [PV.agg [.int .i64 v31, .int .u64 0]]).take ((l12.length + ((l14.take l14.length).length)) + 1))
      else none
    else none := by kernel_rfl
/-! 229 : spec.l2Kind -/
theorem n229 (k : Nat) (wide vars : Int) (t : List PV) : c229 (k + 1) wide vars t =
 R298 (c298 k wide) fun b1 =>
 bif !b1 then
  r229 0
 else
  R117 (c117 k vars 1 4) fun b2 =>
  bif !b2 then
   r229 0
  else
   R117 (c117 k (t.length : Int) 1 48) fun b3 =>
   bif !b3 then
    r229 0
   else L229_1 k k wide vars 0 t (t.length : Int) 0 [] := by kernel_rfl
theorem sL229_1 (k n : Nat) (wide vars : Int) (pileLen : Nat) (t27 : List PV) (t28 t29 : Int) (xs : List PV) : L229_1 k (n + 1) wide vars pileLen t27 t28 t29 xs =
 bif decide (t29 < t28) then
  (lookP t27 t29).bind fun p1 =>
  bif p1.shp 2 then
   (p1.atInt .i64 0).bind fun n1 =>
   (p1.atInt .u64 1).bind fun n2 =>
   R281 (c281 k n1) fun v1 v2 v3 =>
   bif (v3 == 0) then
    r229 0
   else
    R299 (c299 k wide vars n1 n2) fun b1 =>
    bif !b1 then
     r229 0
    else
     bif decide ((pileLen : Int) < v1) then
      r229 0
     else L229_2 k n k wide vars pileLen v1 v2 v3 t27 t28 t29 xs
  else none
 else
  bif ((pileLen : Int) != 1) then
   r229 0
  else
   bif decide ((0 : Int) < (pileLen : Int)) then
    (xs[0]?).bind fun p2 =>
    (p2.atInt .i64 0).bind fun n3 =>
    r229 n3
   else none := by kernel_rfl
theorem sL229_2 (k n1 n : Nat) (wide vars : Int) (pileLen : Nat) (many part own : Int) (t27 : List PV) (t28 t29 : Int) (xs : List PV) : L229_2 k n1 (n + 1) wide vars pileLen many part own t27 t28 t29 xs =
 bif decide (many > 0) then
  bif decide ((0 : Int) ≤ IntKind.i64.wrap ((pileLen : Int) - 1)) && decide (IntKind.i64.wrap ((pileLen : Int) - 1) < (pileLen : Int)) then
   (xs[0 + ((IntKind.i64.wrap ((pileLen : Int) - 1)).toNat)]?).bind fun p1 =>
   (p1.atInt .i64 0).bind fun n2 =>
   bif (n2 != part) then
    r229 0
   else
    bif decide ((0 : Int) ≤ IntKind.i64.wrap ((pileLen : Int) - 1)) && decide (IntKind.i64.wrap ((pileLen : Int) - 1) ≤ (pileLen : Int)) then
     L229_2 k n1 n wide vars ((IntKind.i64.wrap ((pileLen : Int) - 1)).toNat) (IntKind.i64.wrap (many - 1)) part own t27 t28 t29 xs
    else none
  else none
 else
  bif decide ((pileLen + 1) * 8 ≤ LIM) && decide (pileLen + 1 ≤ LIM) then
   L229_1 k n1 wide vars (pileLen + 1) t27 t28 (IntKind.i64.wrap (t29 + 1)) ((xs.take pileLen) ++ [PV.int .i64 own])
  else none := by kernel_rfl
/-! 230 : impl.GoodProgram -/
theorem n230 (k : Nat) (p p1 : Int) (p2 p3 : List PV) : c230 (k + 1) p p1 p2 p3 =
 R246 (c246 k p) fun b1 =>
 bif !b1 then
  r230 false
 else
  R242 (c242 k p1) fun b2 =>
  bif !b2 then
   r230 false
  else
   R153 (c153 k p p1 p2 p3 p2) fun b3 =>
   bif !b3 then
    r230 false
   else
    bif decide ((p3.length : Int) < 1) then
     r230 false
    else
     bif decide ((p3.length : Int) > 6) then
      r230 false
     else
      R212f300 (c212f300 k p3 p p1 p2 p3) fun v1 v2 l1 l2 b4 =>
      r230 (!b4) := by kernel_rfl
/-! 231 : spec.GoodProgram -/
theorem n231 (k : Nat) (p p1 : Int) (p2 p3 : List PV) : c231 (k + 1) p p1 p2 p3 =
 R110 (c110 k p p1 p2 p3 p2) fun b1 =>
 bif !b1 then
  r231 false
 else
  R117 (c117 k (p3.length : Int) 1 6) fun b2 =>
  bif !b2 then
   r231 false
  else L231_1 k k p3 (p3.length : Int) 0 p p1 p2 p3 := by kernel_rfl
theorem sL231_1 (k n : Nat) (t18 : List PV) (t19 t20 n1 n11 : Int) (l l1 : List PV) : L231_1 k (n + 1) t18 t19 t20 n1 n11 l l1 =
 bif decide (t20 < t19) then
  (lookP t18 t20).bind fun p1 =>
  bif p1.shp 2 then
   (p1.atRow 2 0).bind fun l2 =>
   (p1.atRow 2 1).bind fun l3 =>
   R302 (c302 k n1 n11 l l1 l2 l3) fun b1 =>
   bif !b1 then
    r231 false
   else L231_1 k n t18 t19 (IntKind.i64.wrap (t20 + 1)) n1 n11 l l1
  else none
 else r231 true := by kernel_rfl
/-! 233 : impl.Program).arePreds$1 -/
theorem n233 (k : Nat) (t : List PV) (n1 n11 : Int) (l l1 : List PV) : c233 (k + 1) t n1 n11 l l1 =
 R153 (c153 k n1 n11 l l1 t) fun b1 =>
 r233 (!b1) := by kernel_rfl
/-! 234 : impl.mask -/
theorem n234 (k : Nat) (wide : Int) : c234 (k + 1) wide =
 bif !decide (IntKind.i64.wrap (64 - wide) < 0) then
  r234 (shrI .u64 18446744073709551615 (IntKind.i64.wrap (64 - wide)))
 else none := by kernel_rfl
/-! 235 : impl.apply -/
theorem n235 (k : Nat) (wide op a b : Int) : c235 (k + 1) wide op a b =
 bif (op == 3) then
  R234 (c234 k wide) fun v1 =>
  r235 (bitsOp .and .u64 (IntKind.u64.wrap (a + b)) v1)
 else
  bif (op == 4) then
   R234 (c234 k wide) fun v2 =>
   r235 (bitsOp .and .u64 (IntKind.u64.wrap (a - b)) v2)
  else
   bif (op == 5) then
    R234 (c234 k wide) fun v3 =>
    r235 (bitsOp .and .u64 (IntKind.u64.wrap (a * b)) v3)
   else
    bif (op == 6) then
     R303 (c303 k wide a b) fun v4 v5 b1 =>
     R234 (c234 k wide) fun v6 =>
     r235 (bitsOp .and .u64 v4 v6)
    else
     bif (op == 7) then
      R303 (c303 k wide a b) fun v7 v8 b2 =>
      R234 (c234 k wide) fun v9 =>
      r235 (bitsOp .and .u64 v8 v9)
     else
      bif (op == 8) then
       R234 (c234 k wide) fun v10 =>
       r235 (bitsOp .and .u64 (bitsOp .and .u64 a b) v10)
      else
       bif (op == 17) then
        R234 (c234 k wide) fun v11 =>
        r235 (bitsOp .and .u64 (bitsOp .and .u64 a b) v11)
       else
        bif (op == 9) then
         R234 (c234 k wide) fun v12 =>
         r235 (bitsOp .and .u64 (bitsOp .or .u64 a b) v12)
        else
         bif (op == 18) then
          R234 (c234 k wide) fun v13 =>
          r235 (bitsOp .and .u64 (bitsOp .or .u64 a b) v13)
         else
          bif (op == 10) then
           R234 (c234 k wide) fun v14 =>
           r235 (bitsOp .and .u64 (bitsOp .xor .u64 a b) v14)
          else
           bif (op == 11) then
            R304 (c304 k wide a b (op == 11)) fun v15 =>
            R234 (c234 k wide) fun v16 =>
            r235 (bitsOp .and .u64 v15 v16)
           else
            bif (op == 12) then
            R304 (c304 k wide a b (op == 11)) fun v17 =>
            R234 (c234 k wide) fun v18 =>
            r235 (bitsOp .and .u64 v17 v18)
            else
            bif (op == 14) then
            R305 (c305 k (a == b)) fun v19 =>
            R234 (c234 k wide) fun v20 =>
            r235 (bitsOp .and .u64 v19 v20)
            else
            bif (op == 15) then
            R305 (c305 k (decide (a < b))) fun v21 =>
            R234 (c234 k wide) fun v22 =>
            r235 (bitsOp .and .u64 v21 v22)
            else
            bif (op == 16) then
            R306 (c306 k wide a) fun v23 =>
            R306 (c306 k wide b) fun v24 =>
            R305 (c305 k (decide (v23 < v24))) fun v25 =>
            R234 (c234 k wide) fun v26 =>
            r235 (bitsOp .and .u64 v25 v26)
            else
            R234 (c234 k wide) fun v27 =>
            r235 (bitsOp .and .u64 0 v27) := by kernel_rfl
/-! 242 : impl.isVars -/
theorem n242 (k : Nat) (n1 : Int) : c242 (k + 1) n1 =
 bif decide (n1 ≥ 1) then
  r242 (decide (n1 ≤ 4))
 else r242 false := by kernel_rfl
/-! 246 : impl.isWide -/
theorem n246 (k : Nat) (n1 : Int) : c246 (k + 1) n1 =
 bif decide (n1 ≥ 1) then
  r246 (decide (n1 ≤ 64))
 else r246 false := by kernel_rfl
/-! 249 : impl.GoodWord -/
theorem n249 (k : Nat) (wide a : Int) : c249 (k + 1) wide a =
 R246 (c246 k wide) fun b1 =>
 bif b1 then
  R234 (c234 k wide) fun v1 =>
  r249 (decide (a ≤ v1))
 else r249 false := by kernel_rfl
/-! 250 : spec.l1Cur).next -/
theorem n250 (k : Nat) (l : List PV) (n1 n11 : Int) : c250 (k + 1) l n1 n11 =
 bif decide (n1 < (l.length : Int)) then
  (lookP l n1).bind fun p1 =>
  (p1.atInt .u8 0).bind fun n2 =>
  bif decide (IntKind.i64.wrap (n1 + 1) ≤ (l.length : Int)) then
   r250 l (IntKind.i64.wrap (n1 + 1)) (IntKind.u64.wrap ((IntKind.u64.wrap ((IntKind.u64.wrap (n11 * 6364136223846793005)) + (IntKind.u64.wrap (IntKind.i64.wrap n2)))) + 1442695040888963407)) (IntKind.i64.wrap n2)
  else r250 l (IntKind.i64.wrap (n1 + 1)) (IntKind.u64.wrap ((IntKind.u64.wrap ((IntKind.u64.wrap (n11 * 6364136223846793005)) + (IntKind.u64.wrap (IntKind.i64.wrap n2)))) + 1442695040888963407)) (IntKind.i64.wrap (bitsOp .and .u64 (shrI .u64 (IntKind.u64.wrap ((IntKind.u64.wrap ((IntKind.u64.wrap (n11 * 6364136223846793005)) + (IntKind.u64.wrap (IntKind.i64.wrap n2)))) + 1442695040888963407)) 40) 255))
 else
  bif decide (IntKind.i64.wrap (n1 + 1) ≤ (l.length : Int)) then
   r250 l (IntKind.i64.wrap (n1 + 1)) (IntKind.u64.wrap ((IntKind.u64.wrap ((IntKind.u64.wrap (n11 * 6364136223846793005)) + 0)) + 1442695040888963407)) 0
  else r250 l (IntKind.i64.wrap (n1 + 1)) (IntKind.u64.wrap ((IntKind.u64.wrap ((IntKind.u64.wrap (n11 * 6364136223846793005)) + 0)) + 1442695040888963407)) (IntKind.i64.wrap (bitsOp .and .u64 (shrI .u64 (IntKind.u64.wrap ((IntKind.u64.wrap ((IntKind.u64.wrap (n11 * 6364136223846793005)) + 0)) + 1442695040888963407)) 40) 255)) := by kernel_rfl
/-! 253 : spec.GoodWord -/
theorem n253 (k : Nat) (wide a : Int) : c253 (k + 1) wide a =
 R298 (c298 k wide) fun b1 =>
 bif b1 then
  R297 (c297 k wide a) fun v1 =>
  r253 (v1 == a)
 else r253 false := by kernel_rfl
/-! 254 : impl.Node] -/
theorem n254f152 (k : Nat) (qs : List PV) (n1 n11 : Int) (l l1 : List PV) : c254f152 (k + 1) qs n1 n11 l l1 =
 L254f152_1 k k qs n1 n11 l l1 (qs.length : Int) 0 := by kernel_rfl
theorem n254f256 (k : Nat) (qs : List PV) (n1 n11 : Int) (l l1 l2 l3 : List PV) : c254f256 (k + 1) qs n1 n11 l l1 l2 l3 =
 L254f256_1 k k qs n1 n11 l l1 l2 l3 (qs.length : Int) 0 := by kernel_rfl
theorem sL254f152_1 (k n : Nat) (qs : List PV) (n1 n11 : Int) (l l1 : List PV) (t7 t8 : Int) : L254f152_1 k (n + 1) qs n1 n11 l l1 t7 t8 =
 bif decide (t8 < t7) then
  (lookP qs t8).bind fun p1 =>
  (p1.atRow 2 0).bind fun l2 =>
  R152 (c152 k l2 n1 n11 l l1) fun b1 =>
  bif b1 then
   r254f152 t8
  else L254f152_1 k n qs n1 n11 l l1 t7 (IntKind.i64.wrap (t8 + 1))
 else r254f152 (-1) := by kernel_rfl
theorem sL254f256_1 (k n : Nat) (qs : List PV) (n1 n11 : Int) (l l1 l2 l3 : List PV) (t7 t8 : Int) : L254f256_1 k (n + 1) qs n1 n11 l l1 l2 l3 t7 t8 =
 bif decide (t8 < t7) then
  (lookP qs t8).bind fun p1 =>
  (p1.atRow 2 0).bind fun l4 =>
  R256 (c256 k l4 n1 n11 l l1 l2 l3) fun b1 =>
  bif b1 then
   r254f256 t8
  else L254f256_1 k n qs n1 n11 l l1 l2 l3 t7 (IntKind.i64.wrap (t8 + 1))
 else r254f256 (-1) := by kernel_rfl
theorem n254f233 (k : Nat) (qs : List PV) (n1 n11 : Int) (l l1 : List PV) : c254f233 (k + 1) qs n1 n11 l l1 =
 L254f233_1 k k qs n1 n11 l l1 (qs.length : Int) 0 := by kernel_rfl
theorem sL254f233_1 (k n : Nat) (qs : List PV) (n1 n11 : Int) (l l1 : List PV) (t7 t8 : Int) : L254f233_1 k (n + 1) qs n1 n11 l l1 t7 t8 =
 bif decide (t8 < t7) then
  (lookP qs t8).bind fun p1 =>
  (p1.atRow 2 0).bind fun l2 =>
  R233 (c233 k l2 n1 n11 l l1) fun b1 =>
  bif b1 then
   r254f233 t8
  else L254f233_1 k n qs n1 n11 l l1 t7 (IntKind.i64.wrap (t8 + 1))
 else r254f233 (-1) := by kernel_rfl
theorem n254f258 (k : Nat) (qs l : List PV) : c254f258 (k + 1) qs l =
 L254f258_1 k k qs l (qs.length : Int) 0 := by kernel_rfl
theorem sL254f258_1 (k n : Nat) (qs l : List PV) (t7 t8 : Int) : L254f258_1 k (n + 1) qs l t7 t8 =
 bif decide (t8 < t7) then
  (lookP qs t8).bind fun p1 =>
  (p1.atRow 2 0).bind fun l1 =>
  R258 (c258 k l1 l) fun b1 =>
  bif b1 then
   r254f258 t8
  else L254f258_1 k n qs l t7 (IntKind.i64.wrap (t8 + 1))
 else r254f258 (-1) := by kernel_rfl
theorem n254f333 (k : Nat) (qs : List PV) (n1 n11 : Int) : c254f333 (k + 1) qs n1 n11 =
 L254f333_1 k k qs (qs.length : Int) 0 n1 n11 := by kernel_rfl
theorem sL254f333_1 (k n : Nat) (qs : List PV) (t7 t8 n1 n11 : Int) : L254f333_1 k (n + 1) qs t7 t8 n1 n11 =
 bif decide (t8 < t7) then
  (lookP qs t8).bind fun p1 =>
  (p1.atRow 2 0).bind fun l1 =>
  R333 (c333 k l1 n1 n11) fun v1 v2 b1 =>
  bif b1 then
   r254f333 v1 v2 t8
  else L254f333_1 k n qs t7 (IntKind.i64.wrap (t8 + 1)) v1 v2
 else r254f333 n1 n11 (-1) := by kernel_rfl
/-! 255 : impl.isTermOf -/
theorem n255 (k : Nat) (wide vars : Int) (t : List PV) (kind : Int) : c255 (k + 1) wide vars t kind =
 R161 (c161 k wide vars t) fun b1 =>
 bif b1 then
  R162 (c162 k t) fun v1 =>
  r255 (v1 == kind)
 else r255 false := by kernel_rfl
/-! 256 : impl.Program).firstApart$1 -/
theorem n256 (k : Nat) (t : List PV) (n1 n11 : Int) (l l1 l2 l3 : List PV) : c256 (k + 1) t n1 n11 l l1 l2 l3 =
 R157 (c157 k n1 n11 l l1 t l2 l3) fun b1 =>
 r256 b1 := by kernel_rfl
/-! 257 : impl.tryTerms$1 -/
theorem n257 (k : Nat) (t l : List PV) : c257 (k + 1) t l =
 bif decide ((l.length : Int) < 40) then
  R151f258p (c151f258 k (l.take l.length) t) fun b1 =>
  bif !b1 then
   R189 (c189 k t) fun l1 =>
   bif decide ((l.length + 1) * 24 ≤ LIM) && decide (l.length + 1 ≤ LIM) then
    r257 (((l.take l.length) ++ [PV.row 2 0 (l1.take l1.length)]).take (l.length + 1))
   else none
  else r257 (l.take l.length)
 else r257 (l.take l.length) := by kernel_rfl
/-! 258 : impl.tryTerms$1$1 -/
theorem n258 (k : Nat) (own l : List PV) : c258 (k + 1) own l =
 R259 (c259 k own l) fun b1 =>
 r258 b1 := by kernel_rfl
/-! 259 : impl.Node] -/
theorem n259 (k : Nat) (qs1 qs2 : List PV) : c259 (k + 1) qs1 qs2 =
 bif ((qs1.length : Int) != (qs2.length : Int)) then
  r259 false
 else L259_1 k k qs1 qs2 (qs1.length : Int) 0 := by kernel_rfl
theorem sL259_1 (k n : Nat) (qs1 qs2 : List PV) (t12 t13 : Int) : L259_1 k (n + 1) qs1 qs2 t12 t13 =
 bif decide (t13 < t12) then
  (lookP qs1 t13).bind fun p1 =>
  bif p1.shp 2 then
   (p1.atInt .i64 0).bind fun n1 =>
   (p1.atInt .u64 1).bind fun n2 =>
   (lookP qs2 t13).bind fun p2 =>
   bif p2.shp 2 then
    (p2.atInt .i64 0).bind fun n3 =>
    (p2.atInt .u64 1).bind fun n4 =>
    bif (!((n1 == n3) && ((n2 == n4) && true))) then
     r259 false
    else L259_1 k n qs1 qs2 t12 (IntKind.i64.wrap (t13 + 1))
   else none
  else none
 else r259 true := by kernel_rfl
end Go.Proofs.YtclkgblckicabaaGreat
/- Normal forms: printed by nf.py. -/
set_option linter.unusedVariables false
set_option maxRecDepth 100000
namespace Go.Proofs.YtclkgblckicabaaGreat
open Go.Dp
/-! 260 : impl.Program).beforeOne -/
theorem n260 (k : Nat) (p p1 : Int) (p2 p3 : List PV) (k1 : Int) (t : List PV) : c260 (k + 1) p p1 p2 p3 k1 t =
 L260_1 k k k1 t 0 p1 0 p p1 p2 p3 [] := by kernel_rfl
theorem sL260_1 (k n : Nat) (k1 : Int) (t : List PV) (byLen : Nat) (t14 t15 n1 n11 : Int) (l l1 xs : List PV) : L260_1 k (n + 1) k1 t byLen t14 t15 n1 n11 l l1 xs =
 bif decide (t15 < t14) then
  bif decide ((byLen + 1) * 24 ≤ LIM) && decide (byLen + 1 ≤ LIM) then
   L260_1 k n k1 t (byLen + 1) t14 (IntKind.i64.wrap (t15 + 1)) n1 n11 l l1 ((xs.take byLen) ++ [PV.row 2 0 [PV.agg [.int .i64 2, .int .u64 (IntKind.u64.wrap t15)]]])
  else none
 else
  (lookP l1 k1).bind fun p1 =>
  (p1.atRow 2 1).bind fun l2 =>
  L260_2 k k t byLen l2 (l2.length : Int) 0 n1 n11 l l1 xs := by kernel_rfl
theorem sL260_2 (k n : Nat) (t : List PV) (byLen : Nat) (t31 : List PV) (t32 t33 n1 n11 : Int) (l l1 xs : List PV) : L260_2 k (n + 1) t byLen t31 t32 t33 n1 n11 l l1 xs =
 bif decide (t33 < t32) then
  (lookP t31 t33).bind fun p1 =>
  bif p1.shp 2 then
   (p1.atInt .i64 0).bind fun n2 =>
   (p1.atRow 2 1).bind fun l2 =>
   bif decide ((0 : Int) ≤ n2) && decide (n2 < (byLen : Int)) then
    (xs[0 + n2.toNat]?).bind fun p2 =>
    L260_2 k n t byLen t31 t32 (IntKind.i64.wrap (t33 + 1)) n1 n11 l l1 (xs.set (0 + n2.toNat) (PV.row 2 0 l2))
   else none
  else none
 else
  R317 (c317 k n1 n11 t (xs.take byLen)) fun l3 b1 =>
  r260 l3 b1 := by kernel_rfl
/-! 261 : spec.l20Add -/
theorem n261 (k : Nat) (l t : List PV) : c261 (k + 1) l t =
 L261_1 k k l.length t l.length (l.length : Int) 0 l := by kernel_rfl
theorem sL261_1 (k n : Nat) (lLen : Nat) (t : List PV) (t7Len : Nat) (t8 t9 : Int) (xs : List PV) : L261_1 k (n + 1) lLen t t7Len t8 t9 xs =
 bif decide (t9 < t8) then
  bif decide ((0 : Int) ≤ t9) && decide (t9 < (t7Len : Int)) then
   (xs[0 + t9.toNat]?).bind fun p1 =>
   (p1.atRow 2 0).bind fun l1 =>
   R318 (c318 k l1 t) fun b1 =>
   bif b1 then
    r261 (xs.take lLen)
   else L261_1 k n lLen t t7Len t8 (IntKind.i64.wrap (t9 + 1)) xs
  else none
 else
  bif ((lLen : Int) == 40) then
   r261 (xs.take lLen)
  else
   bif decide ((0 + t.length) * 16 ≤ LIM) && decide (0 + t.length ≤ LIM) then
    bif decide ((lLen + 1) * 24 ≤ LIM) && decide (lLen + 1 ≤ LIM) then
     r261 (((xs.take lLen) ++ [PV.row 2 0 (([] ++ t).take (0 + t.length))]).take (lLen + 1))
    else none
   else none := by kernel_rfl
/-! 262 : spec.l16One -/
theorem n262 (k : Nat) (p p1 : Int) (p2 p3 : List PV) (k1 : Int) (t : List PV) : c262 (k + 1) p p1 p2 p3 k1 t =
 L262_1 k k k1 t 0 0 p p1 p2 p3 [] := by kernel_rfl
theorem sL262_1 (k n : Nat) (k1 : Int) (t : List PV) (byLen : Nat) (v n1 n11 : Int) (l l1 xs : List PV) : L262_1 k (n + 1) k1 t byLen v n1 n11 l l1 xs =
 bif decide (v < n11) then
  bif decide ((byLen + 1) * 24 ≤ LIM) && decide (byLen + 1 ≤ LIM) then
   L262_1 k n k1 t (byLen + 1) (IntKind.i64.wrap (v + 1)) n1 n11 l l1 ((xs.take byLen) ++ [PV.row 2 0 [PV.agg [.int .i64 2, .int .u64 (IntKind.u64.wrap v)]]])
  else none
 else
  (lookP l1 k1).bind fun p1 =>
  (p1.atRow 2 1).bind fun l2 =>
  L262_2 k k t byLen l2 (l2.length : Int) 0 n1 n11 l l1 xs := by kernel_rfl
theorem sL262_2 (k n : Nat) (t : List PV) (byLen : Nat) (t30 : List PV) (t31 t32 n1 n11 : Int) (l l1 xs : List PV) : L262_2 k (n + 1) t byLen t30 t31 t32 n1 n11 l l1 xs =
 bif decide (t32 < t31) then
  (lookP t30 t32).bind fun p1 =>
  bif p1.shp 2 then
   (p1.atInt .i64 0).bind fun n2 =>
   (p1.atRow 2 1).bind fun l2 =>
   bif decide ((0 : Int) ≤ n2) && decide (n2 < (byLen : Int)) then
    (xs[0 + n2.toNat]?).bind fun p2 =>
    L262_2 k n t byLen t30 t31 (IntKind.i64.wrap (t32 + 1)) n1 n11 l l1 (xs.set (0 + n2.toNat) (PV.row 2 0 l2))
   else none
  else none
 else
  R319 (c319 k n1 n11 t (xs.take byLen)) fun l3 b1 =>
  r262 l3 b1 := by kernel_rfl
/-! 263 : impl.operandsOf -/
theorem n263 (k : Nat) (op : Int) : c263 (k + 1) op =
 bif (op == 1) then
  r263 0 0 1
 else
  bif (op == 2) then
   r263 0 0 1
  else
   bif (op == 20) then
    r263 0 0 2
   else
    bif (op == 13) then
     r263 1 1 1
    else
     bif (op == 19) then
      r263 1 2 2
     else
      bif decide (op ≥ 3) then
       bif decide (op ≤ 12) then
        r263 2 1 1
       else
        bif decide (op ≥ 14) then
         bif decide (op ≤ 16) then
          r263 2 1 2
         else
          bif (op == 17) then
           r263 2 2 2
          else
           bif (op == 18) then
            r263 2 2 2
           else r263 0 0 0
        else
         bif (op == 17) then
          r263 2 2 2
         else
          bif (op == 18) then
           r263 2 2 2
          else r263 0 0 0
      else
       bif decide (op ≥ 14) then
        bif decide (op ≤ 16) then
         r263 2 1 2
        else
         bif (op == 17) then
          r263 2 2 2
         else
          bif (op == 18) then
           r263 2 2 2
          else r263 0 0 0
       else
        bif (op == 17) then
         r263 2 2 2
        else
         bif (op == 18) then
          r263 2 2 2
         else r263 0 0 0 := by kernel_rfl
/-! 264 : impl.isLeafRight -/
theorem n264 (k : Nat) (wide vars x x1 : Int) : c264 (k + 1) wide vars x x1 =
 bif (x == 1) then
  R249 (c249 k wide x1) fun b1 =>
  r264 b1
 else
  bif (x == 2) then
   r264 (decide (x1 < IntKind.u64.wrap vars))
  else
   bif (x == 20) then
    r264 (decide (x1 ≤ 1))
   else r264 (x1 == 0) := by kernel_rfl
/-! 265 : impl.GoodTerm$1 -/
theorem n265 (k : Nat) (own n1 : Int) : c265 (k + 1) own n1 =
 r265 n1 (own != n1) := by kernel_rfl
/-! 266 : spec.l7Meet -/
theorem n266 (k : Nat) (a b : List PV) : c266 (k + 1) a b =
 L266_1 k k b a (a.length : Int) 0 := by kernel_rfl
theorem sL266_1 (k n : Nat) (b t7 : List PV) (t8 t9 : Int) : L266_1 k (n + 1) b t7 t8 t9 =
 bif decide (t9 < t8) then
  (lookP t7 t9).bind fun p1 =>
  (p1.atInt .i64 0).bind fun n1 =>
  R165 (c165 k b n1) fun b1 =>
  bif b1 then
   r266 true
  else L266_1 k n b t7 t8 (IntKind.i64.wrap (t9 + 1))
 else r266 false := by kernel_rfl
/-! 267 : spec.l2Value -/
theorem n267 (k : Nat) (wide : Int) (t : List PV) (k1 : Int) (state : List PV) : c267 (k + 1) wide t k1 state =
 (lookP t k1).bind fun p1 =>
 bif p1.shp 2 then
  (p1.atInt .i64 0).bind fun n1 =>
  (p1.atInt .u64 1).bind fun n2 =>
  R281 (c281 k n1) fun v1 v2 v3 =>
  bif (n1 == 2) then
   (lookP state n2).bind fun p2 =>
   (p2.atInt .u64 0).bind fun n3 =>
   r267 n3
  else
   bif (v1 == 0) then
    r267 n2
   else
    bif (n1 == 13) then
     R267 (c267 k wide t (IntKind.i64.wrap (k1 - 1)) state) fun v4 =>
     R297 (c297 k wide (bitsOp .xor .u64 18446744073709551615 v4)) fun v5 =>
     r267 v5
    else
     bif (n1 == 19) then
      R267 (c267 k wide t (IntKind.i64.wrap (k1 - 1)) state) fun v6 =>
      r267 (IntKind.u64.wrap (1 - v6))
     else
      R308 (c308 k t (IntKind.i64.wrap (k1 - 1))) fun v7 =>
      R267 (c267 k wide t (IntKind.i64.wrap (v7 - 1)) state) fun v8 =>
      R267 (c267 k wide t (IntKind.i64.wrap (k1 - 1)) state) fun v9 =>
      R320 (c320 k wide n1 v8 v9) fun v10 =>
      r267 v10
 else none := by kernel_rfl
/-! 268 : spec.GoodTerm -/
theorem n268 (k : Nat) (wide vars : Int) (t : List PV) : c268 (k + 1) wide vars t =
 R229 (c229 k wide vars t) fun v1 =>
 r268 (decide (v1 > 0)) := by kernel_rfl
/-! 269 : impl.Node] -/
theorem n269 (k : Nat) (qs : List PV) (n1 : Int) : c269 (k + 1) qs n1 =
 bif decide (n1 < 0) then
  none
 else
  bif decide (IntKind.i64.wrap (n1 - (IntKind.i64.wrap (0 - (qs.length : Int)))) > 0) then
   bif decide ((0 : Int) ≤ (qs.length : Int)) then
    bif decide ((0 : Int) < IntKind.i64.wrap (n1 - (IntKind.i64.wrap (0 - (qs.length : Int))))) && decide (((IntKind.i64.wrap (n1 - (IntKind.i64.wrap (0 - (qs.length : Int))))).toNat) * 16 ≤ LIM) && decide ((IntKind.i64.wrap (n1 - (IntKind.i64.wrap (0 - (qs.length : Int))))).toNat ≤ LIM) then
     bif decide ((0 : Int) ≤ (qs.length : Int)) && decide ((qs.length : Int) ≤ ((IntKind.i64.wrap (n1 - (IntKind.i64.wrap (0 - (qs.length : Int))))).toNat : Int)) then
      r269 ((List.replicate ((IntKind.i64.wrap (n1 - (IntKind.i64.wrap (0 - (qs.length : Int))))).toNat) (PV.agg [.int .i64 0, .int .u64 0])).take qs.length)
     else none
    else none
   else none
  else r269 [] := by kernel_rfl
/-! 273 : slices.IndexFunc[[]int,int] -/
theorem n273f280 (k : Nat) (qs : List PV) (n1 n11 : Int) (l l1 l2 : List PV) : c273f280 (k + 1) qs n1 n11 l l1 l2 =
 L273f280_1 k k qs n1 n11 l l1 l2 (qs.length : Int) 0 := by kernel_rfl
theorem sL273f280_1 (k n : Nat) (qs : List PV) (n1 n11 : Int) (l l1 l2 : List PV) (t7 t8 : Int) : L273f280_1 k (n + 1) qs n1 n11 l l1 l2 t7 t8 =
 bif decide (t8 < t7) then
  (lookP qs t8).bind fun p1 =>
  (p1.atInt .i64 0).bind fun n2 =>
  R280 (c280 k n2 n1 n11 l l1 l2) fun b1 =>
  bif b1 then
   r273f280 t8
  else L273f280_1 k n qs n1 n11 l l1 l2 t7 (IntKind.i64.wrap (t8 + 1))
 else r273f280 (-1) := by kernel_rfl
theorem n273f265 (k : Nat) (qs : List PV) (n1 : Int) : c273f265 (k + 1) qs n1 =
 L273f265_1 k k qs (qs.length : Int) 0 n1 := by kernel_rfl
theorem sL273f265_1 (k n : Nat) (qs : List PV) (t7 t8 n1 : Int) : L273f265_1 k (n + 1) qs t7 t8 n1 =
 bif decide (t8 < t7) then
  (lookP qs t8).bind fun p1 =>
  (p1.atInt .i64 0).bind fun n2 =>
  R265 (c265 k n2 n1) fun v1 b1 =>
  bif b1 then
   r273f265 v1 t8
  else L273f265_1 k n qs t7 (IntKind.i64.wrap (t8 + 1)) v1
 else r273f265 n1 (-1) := by kernel_rfl
/-! 280 : impl.Program).holdsAll$1 -/
theorem n280 (k : Nat) (no n1 n11 : Int) (l l1 l2 : List PV) : c280 (k + 1) no n1 n11 l l1 l2 =
 R121 (c121 k n1 n11 l l1 no) fun l3 =>
 R137 (c137 k n1 n11 l l1 l2 l3) fun b1 =>
 r280 (!b1) := by kernel_rfl
/-! 281 : spec.l2Need -/
theorem n281 (k : Nat) (op : Int) : c281 (k + 1) op =
 bif (op == 1) then
  r281 0 1 1
 else
  bif (op == 2) then
   r281 0 1 1
  else
   bif (op == 20) then
    r281 0 2 2
   else
    bif (op == 13) then
     r281 1 1 1
    else
     bif (op == 19) then
      r281 1 2 2
     else
      R117 (c117 k op 3 12) fun b1 =>
      bif b1 then
       r281 2 1 1
      else
       R117 (c117 k op 14 16) fun b2 =>
       bif b2 then
        r281 2 1 2
       else
        bif (op == 17) then
         r281 2 2 2
        else
         bif (op == 18) then
          r281 2 2 2
         else r281 0 0 0 := by kernel_rfl
/-! 283 : impl.Command] -/
theorem n283f300 (k : Nat) (qs : List PV) (n1 n11 : Int) (l l1 : List PV) : c283f300 (k + 1) qs n1 n11 l l1 =
 L283f300_1 k k qs (qs.length : Int) 0 n1 n11 l l1 := by kernel_rfl
theorem sL283f300_1 (k n : Nat) (qs : List PV) (t7 t8 n1 n11 : Int) (l l1 : List PV) : L283f300_1 k (n + 1) qs t7 t8 n1 n11 l l1 =
 bif decide (t8 < t7) then
  (lookP qs t8).bind fun p1 =>
  bif p1.shp 2 then
   (p1.atRow 2 0).bind fun l2 =>
   (p1.atRow 2 1).bind fun l3 =>
   R300 (c300 k l2 l3 n1 n11 l l1) fun v1 v2 l4 l5 b1 =>
   bif b1 then
    r283f300 v1 v2 l4 l5 t8
   else L283f300_1 k n qs t7 (IntKind.i64.wrap (t8 + 1)) v1 v2 l4 l5
  else none
 else r283f300 n1 n11 l l1 (-1) := by kernel_rfl
/-! 296 : spec.l1Cur).command -/
theorem n296 (k : Nat) (wide vars : Int) (l : List PV) (n1 n11 : Int) : c296 (k + 1) wide vars l n1 n11 =
 R143 (c143 k 2 l n1 n11) fun l1 v1 v2 v3 =>
 R107 (c107 k wide vars v3 l1 v1 v2) fun l2 v4 v5 l3 =>
 L296_1 k k wide vars 0 l2 v4 v5 [] [] l3.length 0 l3 [] := by kernel_rfl
theorem sL296_1 (k n : Nat) (wide vars v : Int) (l : List PV) (n1 n11 : Int) (l1 l2 : List PV) (Len Len1 : Nat) (xs xs1 : List PV) : L296_1 k (n + 1) wide vars v l n1 n11 l1 l2 Len Len1 xs xs1 =
 bif decide (v < vars) then
  R145 (c145 k 2 l n1 n11) fun l3 v1 v2 b1 =>
  bif b1 then
   R228 (c228 k wide vars 1 l3 v1 v2) fun l4 v3 v4 l5 =>
   bif decide ((Len1 + 1) * 32 ≤ LIM) && decide (Len1 + 1 ≤ LIM) then
    L296_1 k n wide vars (IntKind.i64.wrap (v + 1)) l4 v3 v4 l1 l2 Len (Len1 + 1) xs ((xs1.take Len1) ++ [PV.agg [.int .i64 v, .row 2 0 (l5.take l5.length)]])
   else none
  else L296_1 k n wide vars (IntKind.i64.wrap (v + 1)) l3 v1 v2 l1 l2 Len Len1 xs xs1
 else r296 l n1 n11 (xs.take Len) (xs1.take Len1) := by kernel_rfl
/-! 297 : spec.l1Cut -/
theorem n297 (k : Nat) (wide a : Int) : c297 (k + 1) wide a =
 L297_1 k k wide a 0 0 := by kernel_rfl
theorem sL297_1 (k n : Nat) (wide a out k1 : Int) : L297_1 k (n + 1) wide a out k1 =
 bif decide (k1 < wide) then
  bif !decide (IntKind.u64.wrap k1 < 0) then
   L297_1 k n wide a (bitsOp .or .u64 out (bitsOp .and .u64 a (shlI .u64 1 (IntKind.u64.wrap k1)))) (IntKind.i64.wrap (k1 + 1))
  else none
 else r297 out := by kernel_rfl
/-! 298 : spec.l1Wide -/
theorem n298 (k : Nat) (wide : Int) : c298 (k + 1) wide =
 R117 (c117 k wide 1 64) fun b1 =>
 r298 b1 := by kernel_rfl
/-! 299 : spec.l2N -/
theorem n299 (k : Nat) (wide vars n1 n11 : Int) : c299 (k + 1) wide vars n1 n11 =
 bif (n1 == 1) then
  R253 (c253 k wide n11) fun b1 =>
  r299 b1
 else
  bif (n1 == 2) then
   r299 (decide (n11 < IntKind.u64.wrap vars))
  else
   bif (n1 == 20) then
    r299 (decide (n11 < 2))
   else r299 (n11 == 0) := by kernel_rfl
/-! 300 : impl.GoodProgram$1 -/
theorem n300 (k : Nat) (qc qc1 : List PV) (n1 n11 : Int) (l l1 : List PV) : c300 (k + 1) qc qc1 n1 n11 l l1 =
 R301 (c301 k n1 n11 l l1 qc qc1) fun b1 =>
 r300 n1 n11 l l1 (!b1) := by kernel_rfl
/-! 301 : impl.Program).isCommand -/
theorem n301 (k : Nat) (p p1 : Int) (p2 p3 qc qc1 : List PV) : c301 (k + 1) p p1 p2 p3 qc qc1 =
 R153 (c153 k p p1 p2 p3 qc) fun b1 =>
 bif !b1 then
  r301 false
 else L301_1 k k qc1 (qc1.length : Int) 0 p p1 p2 p3 qc qc1 := by kernel_rfl
theorem sL301_1 (k n : Nat) (t13 : List PV) (t14 t15 n1 n11 : Int) (l l1 l2 l3 : List PV) : L301_1 k (n + 1) t13 t14 t15 n1 n11 l l1 l2 l3 =
 bif decide (t15 < t14) then
  (lookP t13 t15).bind fun p1 =>
  bif p1.shp 2 then
   (p1.atInt .i64 0).bind fun n2 =>
   (p1.atRow 2 1).bind fun l4 =>
   bif decide (n2 < 0) then
    r301 false
   else
    bif decide (n2 ≥ n11) then
     r301 false
    else
     bif decide (t15 > 0) then
      (lookP l3 (IntKind.i64.wrap (t15 - 1))).bind fun p2 =>
      (p2.atInt .i64 0).bind fun n3 =>
      bif decide (n3 ≥ n2) then
       r301 false
      else
       R255 (c255 k n1 n11 l4 1) fun b1 =>
       bif !b1 then
        r301 false
       else L301_1 k n t13 t14 (IntKind.i64.wrap (t15 + 1)) n1 n11 l l1 l2 l3
     else
      R255 (c255 k n1 n11 l4 1) fun b2 =>
      bif !b2 then
       r301 false
      else L301_1 k n t13 t14 (IntKind.i64.wrap (t15 + 1)) n1 n11 l l1 l2 l3
  else none
 else r301 true := by kernel_rfl
/-! 302 : spec.l7Command -/
theorem n302 (k : Nat) (p p1 : Int) (p2 p3 qc qc1 : List PV) : c302 (k + 1) p p1 p2 p3 qc qc1 =
 R110 (c110 k p p1 p2 p3 qc) fun b1 =>
 bif !b1 then
  r302 false
 else
  bif decide ((qc1.length : Int) > p1) then
   r302 false
  else L302_1 k k qc1 (qc1.length : Int) 0 p p1 p2 p3 qc qc1 := by kernel_rfl
theorem sL302_1 (k n : Nat) (t21 : List PV) (t22 t23 n1 n11 : Int) (l l1 l2 l3 : List PV) : L302_1 k (n + 1) t21 t22 t23 n1 n11 l l1 l2 l3 =
 bif decide (t23 < t22) then
  (lookP t21 t23).bind fun p1 =>
  bif p1.shp 2 then
   (p1.atInt .i64 0).bind fun n2 =>
   (p1.atRow 2 1).bind fun l4 =>
   R117 (c117 k n2 0 (IntKind.i64.wrap (n11 - 1))) fun b1 =>
   bif !b1 then
    r302 false
   else
    bif decide (t23 > 0) then
     (lookP l3 (IntKind.i64.wrap (t23 - 1))).bind fun p2 =>
     (p2.atInt .i64 0).bind fun n3 =>
     bif decide (n3 ≥ n2) then
      r302 false
     else
      R229 (c229 k n1 n11 l4) fun v1 =>
      bif (v1 != 1) then
       r302 false
      else L302_1 k n t21 t22 (IntKind.i64.wrap (t23 + 1)) n1 n11 l l1 l2 l3
    else
     R229 (c229 k n1 n11 l4) fun v2 =>
     bif (v2 != 1) then
      r302 false
     else L302_1 k n t21 t22 (IntKind.i64.wrap (t23 + 1)) n1 n11 l l1 l2 l3
  else none
 else r302 true := by kernel_rfl
/-! 303 : impl.DivWord -/
theorem n303 (k : Nat) (wide a b : Int) : c303 (k + 1) wide a b =
 R326 (c326 k wide a b) fun b1 =>
 bif !b1 then
  r303 0 0 false
 else
  bif (b == 0) then
   R234 (c234 k wide) fun v1 =>
   r303 v1 a true
  else
   R327 (c327 k 0 a b) fun v2 v3 =>
   r303 v2 v3 true := by kernel_rfl
/-! 304 : impl.shift -/
theorem n304 (k : Nat) (wide a by1 : Int) (left : Bool) : c304 (k + 1) wide a by1 left =
 bif decide (by1 ≥ IntKind.u64.wrap wide) then
  r304 0
 else
  bif left then
   bif !decide (by1 < 0) then
    R234 (c234 k wide) fun v1 =>
    r304 (bitsOp .and .u64 (shlI .u64 a by1) v1)
   else none
  else
   bif !decide (by1 < 0) then
    r304 (shrI .u64 a by1)
   else none := by kernel_rfl
/-! 305 : impl.truth -/
theorem n305 (k : Nat) (holds : Bool) : c305 (k + 1) holds =
 bif holds then
  r305 1
 else r305 0 := by kernel_rfl
/-! 306 : impl.signed -/
theorem n306 (k : Nat) (wide a : Int) : c306 (k + 1) wide a =
 bif !decide (IntKind.i64.wrap (64 - wide) < 0) then
  bif !decide (IntKind.i64.wrap (64 - wide) < 0) then
   r306 (shrI .i64 (IntKind.i64.wrap (shlI .u64 a (IntKind.i64.wrap (64 - wide)))) (IntKind.i64.wrap (64 - wide)))
  else none
 else none := by kernel_rfl
/-! 308 : spec.l2From -/
theorem n308 (k : Nat) (t : List PV) (k1 : Int) : c308 (k + 1) t k1 =
 (lookP t k1).bind fun p1 =>
 (p1.atInt .i64 0).bind fun n1 =>
 R281 (c281 k n1) fun v1 v2 v3 =>
 L308_1 k k t v1 k1 := by kernel_rfl
theorem sL308_1 (k n : Nat) (t : List PV) (many from1 : Int) : L308_1 k (n + 1) t many from1 =
 bif decide (many > 0) then
  R308 (c308 k t (IntKind.i64.wrap (from1 - 1))) fun v1 =>
  L308_1 k n t (IntKind.i64.wrap (many - 1)) v1
 else r308 from1 := by kernel_rfl
/-! 316 : spec.l1Both -/
theorem n316 (k : Nat) (wide a b : Int) : c316 (k + 1) wide a b =
 R253 (c253 k wide a) fun b1 =>
 bif b1 then
  R253 (c253 k wide b) fun b2 =>
  r316 b2
 else r316 false := by kernel_rfl
/-! 317 : impl.PutAll -/
theorem n317 (k : Nat) (wide vars : Int) (t by1 : List PV) : c317 (k + 1) wide vars t by1 =
 R161 (c161 k wide vars t) fun b1 =>
 bif !b1 then
  r317 [] false
 else
  bif ((by1.length : Int) != vars) then
   r317 [] false
  else
   R151f333 (c151f333 k by1 wide vars) fun v1 v2 b2 =>
   bif b2 then
    r317 [] false
   else L317_1 k k by1 0 t (t.length : Int) 0 v1 v2 [] := by kernel_rfl
theorem sL317_1 (k n : Nat) (by1 : List PV) (outLen : Nat) (t30 : List PV) (t31 t32 n1 n11 : Int) (xs : List PV) : L317_1 k (n + 1) by1 outLen t30 t31 t32 n1 n11 xs =
 bif decide (t32 < t31) then
  (lookP t30 t32).bind fun p1 =>
  bif p1.shp 2 then
   (p1.atInt .i64 0).bind fun n2 =>
   (p1.atInt .u64 1).bind fun n3 =>
   bif (n2 == 2) then
    (lookP by1 n3).bind fun p2 =>
    (p2.atRow 2 0).bind fun l1 =>
    bif decide ((outLen + l1.length) * 16 ≤ LIM) && decide (outLen + l1.length ≤ LIM) then
     L317_1 k n by1 (outLen + l1.length) t30 t31 (IntKind.i64.wrap (t32 + 1)) n1 n11 ((xs.take outLen) ++ l1)
    else none
   else
    bif decide ((outLen + 1) * 16 ≤ LIM) && decide (outLen + 1 ≤ LIM) then
     L317_1 k n by1 (outLen + 1) t30 t31 (IntKind.i64.wrap (t32 + 1)) n1 n11 ((xs.take outLen) ++ [PV.agg [.int .i64 n2, .int .u64 n3]])
    else none
  else none
 else
  R169 (c169 k n1 n11 (xs.take outLen)) fun l2 b1 =>
  r317 l2 b1 := by kernel_rfl
/-! 318 : spec.l20Same -/
theorem n318 (k : Nat) (a b : List PV) : c318 (k + 1) a b =
 bif ((a.length : Int) != (b.length : Int)) then
  r318 false
 else L318_1 k k a b (a.length : Int) 0 := by kernel_rfl
theorem sL318_1 (k n : Nat) (a b : List PV) (t12 t13 : Int) : L318_1 k (n + 1) a b t12 t13 =
 bif decide (t13 < t12) then
  (lookP a t13).bind fun p1 =>
  bif p1.shp 2 then
   (p1.atInt .i64 0).bind fun n1 =>
   (p1.atInt .u64 1).bind fun n2 =>
   (lookP b t13).bind fun p2 =>
   bif p2.shp 2 then
    (p2.atInt .i64 0).bind fun n3 =>
    (p2.atInt .u64 1).bind fun n4 =>
    bif (!((n1 == n3) && ((n2 == n4) && true))) then
     r318 false
    else L318_1 k n a b t12 (IntKind.i64.wrap (t13 + 1))
   else none
  else none
 else r318 true := by kernel_rfl
/-! 319 : spec.PutAll -/
theorem n319 (k : Nat) (wide vars : Int) (t by1 : List PV) : c319 (k + 1) wide vars t by1 =
 R268 (c268 k wide vars t) fun b1 =>
 bif !b1 then
  r319 [] false
 else
  bif ((by1.length : Int) != vars) then
   r319 [] false
  else L319_1 k k wide vars t by1 by1 (by1.length : Int) 0 := by kernel_rfl
theorem sL319_1 (k n : Nat) (wide vars : Int) (t by1 t26 : List PV) (t27 t28 : Int) : L319_1 k (n + 1) wide vars t by1 t26 t27 t28 =
 bif decide (t28 < t27) then
  (lookP t26 t28).bind fun p1 =>
  (p1.atRow 2 0).bind fun l1 =>
  R229 (c229 k wide vars l1) fun v1 =>
  bif (v1 != 1) then
   r319 [] false
  else L319_1 k n wide vars t by1 t26 t27 (IntKind.i64.wrap (t28 + 1))
 else L319_2 k k wide vars by1 0 t (t.length : Int) 0 [] := by kernel_rfl
theorem sL319_2 (k n : Nat) (wide vars : Int) (by1 : List PV) (outLen : Nat) (t38 : List PV) (t39 t40 : Int) (xs : List PV) : L319_2 k (n + 1) wide vars by1 outLen t38 t39 t40 xs =
 bif decide (t40 < t39) then
  (lookP t38 t40).bind fun p1 =>
  bif p1.shp 2 then
   (p1.atInt .i64 0).bind fun n1 =>
   (p1.atInt .u64 1).bind fun n2 =>
   bif (n1 == 2) then
    (lookP by1 n2).bind fun p2 =>
    (p2.atRow 2 0).bind fun l1 =>
    bif decide ((outLen + l1.length) * 16 ≤ LIM) && decide (outLen + l1.length ≤ LIM) then
     L319_2 k n wide vars by1 (outLen + l1.length) t38 t39 (IntKind.i64.wrap (t40 + 1)) ((xs.take outLen) ++ l1)
    else none
   else
    bif decide ((outLen + 1) * 16 ≤ LIM) && decide (outLen + 1 ≤ LIM) then
     L319_2 k n wide vars by1 (outLen + 1) t38 t39 (IntKind.i64.wrap (t40 + 1)) ((xs.take outLen) ++ [PV.agg [.int .i64 n1, .int .u64 n2]])
    else none
  else none
 else
  R173 (c173 k wide vars (xs.take outLen)) fun l2 b1 =>
  r319 l2 b1 := by kernel_rfl
/-! 320 : spec.l2Do -/
theorem n320 (k : Nat) (wide op a b : Int) : c320 (k + 1) wide op a b =
 R334 (c334 k wide a b) fun v1 v2 b1 =>
 bif (op == 3) then
  R297 (c297 k wide (IntKind.u64.wrap (a + b))) fun v3 =>
  r320 v3
 else
  bif (op == 4) then
   R297 (c297 k wide (IntKind.u64.wrap (a - b))) fun v4 =>
   r320 v4
  else
   bif (op == 5) then
    R297 (c297 k wide (IntKind.u64.wrap (a * b))) fun v5 =>
    r320 v5
   else
    bif (op == 6) then
     r320 v1
    else
     bif (op == 7) then
      r320 v2
     else
      bif (op == 8) then
       r320 (bitsOp .and .u64 a b)
      else
       bif (op == 17) then
        r320 (bitsOp .and .u64 a b)
       else
        bif (op == 9) then
         r320 (bitsOp .or .u64 a b)
        else
         bif (op == 18) then
          r320 (bitsOp .or .u64 a b)
         else
          bif (op == 10) then
           r320 (bitsOp .xor .u64 a b)
          else
           bif (op == 11) then
            R335 (c335 k wide a b true) fun v6 =>
            r320 v6
           else
            bif (op == 12) then
            R335 (c335 k wide a b false) fun v7 =>
            r320 v7
            else
            bif (op == 14) then
            R336 (c336 k (a == b)) fun v8 =>
            r320 v8
            else
            bif (op == 15) then
            R336 (c336 k (decide (a < b))) fun v9 =>
            r320 v9
            else
            bif (op == 16) then
            R337 (c337 k wide a) fun v10 =>
            R337 (c337 k wide b) fun v11 =>
            R336 (c336 k (decide (v10 < v11))) fun v12 =>
            r320 v12
            else r320 0 := by kernel_rfl
/-! 326 : impl.areWords -/
theorem n326 (k : Nat) (wide a b : Int) : c326 (k + 1) wide a b =
 R249 (c249 k wide a) fun b1 =>
 bif b1 then
  R249 (c249 k wide b) fun b2 =>
  r326 b2
 else r326 false := by kernel_rfl
end Go.Proofs.YtclkgblckicabaaGreat
/- Normal forms: printed by nf.py. -/
set_option linter.unusedVariables false
set_option maxRecDepth 100000
namespace Go.Proofs.YtclkgblckicabaaGreat
open Go.Dp
/-! 327 : bits.Div64 -/
theorem n327 (k : Nat) (hi lo y : Int) : c327 (k + 1) hi lo y =
 bif (y == 0) then
  none
 else
  bif decide (y ≤ hi) then
   none
  else
   bif (hi == 0) then
    bif !(y == 0) then
     bif !(y == 0) then
      r327 (IntKind.u64.wrap (lo.tdiv y)) (lo.tmod y)
     else none
    else none
   else
    R351 (c351 k y) fun v1 =>
    bif !decide (IntKind.u64.wrap v1 < 0) then
     bif !decide (IntKind.u64.wrap v1 < 0) then
      bif !decide (IntKind.u64.wrap (64 - (IntKind.u64.wrap v1)) < 0) then
       bif !decide (IntKind.u64.wrap v1 < 0) then
        bif !(shrI .u64 (shlI .u64 y (IntKind.u64.wrap v1)) 32 == 0) then
         L327_1 k k (shlI .u64 y (IntKind.u64.wrap v1)) (IntKind.u64.wrap v1) (shrI .u64 (shlI .u64 y (IntKind.u64.wrap v1)) 32) (bitsOp .and .u64 (shlI .u64 y (IntKind.u64.wrap v1)) 4294967295) (bitsOp .or .u64 (shlI .u64 hi (IntKind.u64.wrap v1)) (shrI .u64 lo (IntKind.u64.wrap (64 - (IntKind.u64.wrap v1))))) (shrI .u64 (shlI .u64 lo (IntKind.u64.wrap v1)) 32) (bitsOp .and .u64 (shlI .u64 lo (IntKind.u64.wrap v1)) 4294967295) (IntKind.u64.wrap ((bitsOp .or .u64 (shlI .u64 hi (IntKind.u64.wrap v1)) (shrI .u64 lo (IntKind.u64.wrap (64 - (IntKind.u64.wrap v1))))).tdiv (shrI .u64 (shlI .u64 y (IntKind.u64.wrap v1)) 32))) (IntKind.u64.wrap ((bitsOp .or .u64 (shlI .u64 hi (IntKind.u64.wrap v1)) (shrI .u64 lo (IntKind.u64.wrap (64 - (IntKind.u64.wrap v1))))) - (IntKind.u64.wrap ((IntKind.u64.wrap ((bitsOp .or .u64 (shlI .u64 hi (IntKind.u64.wrap v1)) (shrI .u64 lo (IntKind.u64.wrap (64 - (IntKind.u64.wrap v1))))).tdiv (shrI .u64 (shlI .u64 y (IntKind.u64.wrap v1)) 32))) * (shrI .u64 (shlI .u64 y (IntKind.u64.wrap v1)) 32)))))
        else none
       else none
      else none
     else none
    else none := by kernel_rfl
theorem sL327_1 (k n : Nat) (y qs yn1 yn0 un32 un1 un0 q1 rhat : Int) : L327_1 k (n + 1) y qs yn1 yn0 un32 un1 un0 q1 rhat =
 bif decide (q1 ≥ 4294967296) then
  bif decide (IntKind.u64.wrap (rhat + yn1) ≥ 4294967296) then
   bif !(yn1 == 0) then
    L327_2 k k y qs yn1 yn0 un0 (IntKind.u64.wrap (q1 - 1)) (IntKind.u64.wrap ((IntKind.u64.wrap ((IntKind.u64.wrap ((IntKind.u64.wrap (un32 * 4294967296)) + un1)) - (IntKind.u64.wrap ((IntKind.u64.wrap (q1 - 1)) * y)))) - (IntKind.u64.wrap ((IntKind.u64.wrap ((IntKind.u64.wrap ((IntKind.u64.wrap ((IntKind.u64.wrap (un32 * 4294967296)) + un1)) - (IntKind.u64.wrap ((IntKind.u64.wrap (q1 - 1)) * y)))).tdiv yn1)) * yn1)))) (IntKind.u64.wrap ((IntKind.u64.wrap ((IntKind.u64.wrap (un32 * 4294967296)) + un1)) - (IntKind.u64.wrap ((IntKind.u64.wrap (q1 - 1)) * y)))) (IntKind.u64.wrap ((IntKind.u64.wrap ((IntKind.u64.wrap ((IntKind.u64.wrap (un32 * 4294967296)) + un1)) - (IntKind.u64.wrap ((IntKind.u64.wrap (q1 - 1)) * y)))).tdiv yn1))
   else none
  else L327_1 k n y qs yn1 yn0 un32 un1 un0 (IntKind.u64.wrap (q1 - 1)) (IntKind.u64.wrap (rhat + yn1))
 else
  bif decide (IntKind.u64.wrap (q1 * yn0) > IntKind.u64.wrap ((IntKind.u64.wrap (4294967296 * rhat)) + un1)) then
   bif decide (IntKind.u64.wrap (rhat + yn1) ≥ 4294967296) then
    bif !(yn1 == 0) then
     L327_2 k k y qs yn1 yn0 un0 (IntKind.u64.wrap (q1 - 1)) (IntKind.u64.wrap ((IntKind.u64.wrap ((IntKind.u64.wrap ((IntKind.u64.wrap (un32 * 4294967296)) + un1)) - (IntKind.u64.wrap ((IntKind.u64.wrap (q1 - 1)) * y)))) - (IntKind.u64.wrap ((IntKind.u64.wrap ((IntKind.u64.wrap ((IntKind.u64.wrap ((IntKind.u64.wrap (un32 * 4294967296)) + un1)) - (IntKind.u64.wrap ((IntKind.u64.wrap (q1 - 1)) * y)))).tdiv yn1)) * yn1)))) (IntKind.u64.wrap ((IntKind.u64.wrap ((IntKind.u64.wrap (un32 * 4294967296)) + un1)) - (IntKind.u64.wrap ((IntKind.u64.wrap (q1 - 1)) * y)))) (IntKind.u64.wrap ((IntKind.u64.wrap ((IntKind.u64.wrap ((IntKind.u64.wrap (un32 * 4294967296)) + un1)) - (IntKind.u64.wrap ((IntKind.u64.wrap (q1 - 1)) * y)))).tdiv yn1))
    else none
   else L327_1 k n y qs yn1 yn0 un32 un1 un0 (IntKind.u64.wrap (q1 - 1)) (IntKind.u64.wrap (rhat + yn1))
  else
   bif !(yn1 == 0) then
    L327_2 k k y qs yn1 yn0 un0 q1 (IntKind.u64.wrap ((IntKind.u64.wrap ((IntKind.u64.wrap ((IntKind.u64.wrap (un32 * 4294967296)) + un1)) - (IntKind.u64.wrap (q1 * y)))) - (IntKind.u64.wrap ((IntKind.u64.wrap ((IntKind.u64.wrap ((IntKind.u64.wrap ((IntKind.u64.wrap (un32 * 4294967296)) + un1)) - (IntKind.u64.wrap (q1 * y)))).tdiv yn1)) * yn1)))) (IntKind.u64.wrap ((IntKind.u64.wrap ((IntKind.u64.wrap (un32 * 4294967296)) + un1)) - (IntKind.u64.wrap (q1 * y)))) (IntKind.u64.wrap ((IntKind.u64.wrap ((IntKind.u64.wrap ((IntKind.u64.wrap (un32 * 4294967296)) + un1)) - (IntKind.u64.wrap (q1 * y)))).tdiv yn1))
   else none := by kernel_rfl
theorem sL327_2 (k n : Nat) (y qs yn1 yn0 un0 q1 rhat un21 q0 : Int) : L327_2 k (n + 1) y qs yn1 yn0 un0 q1 rhat un21 q0 =
 bif decide (q0 ≥ 4294967296) then
  bif decide (IntKind.u64.wrap (rhat + yn1) ≥ 4294967296) then
   bif !decide (qs < 0) then
    r327 (IntKind.u64.wrap ((IntKind.u64.wrap (q1 * 4294967296)) + (IntKind.u64.wrap (q0 - 1)))) (shrI .u64 (IntKind.u64.wrap ((IntKind.u64.wrap ((IntKind.u64.wrap (un21 * 4294967296)) + un0)) - (IntKind.u64.wrap ((IntKind.u64.wrap (q0 - 1)) * y)))) qs)
   else none
  else L327_2 k n y qs yn1 yn0 un0 q1 (IntKind.u64.wrap (rhat + yn1)) un21 (IntKind.u64.wrap (q0 - 1))
 else
  bif decide (IntKind.u64.wrap (q0 * yn0) > IntKind.u64.wrap ((IntKind.u64.wrap (4294967296 * rhat)) + un0)) then
   bif decide (IntKind.u64.wrap (rhat + yn1) ≥ 4294967296) then
    bif !decide (qs < 0) then
     r327 (IntKind.u64.wrap ((IntKind.u64.wrap (q1 * 4294967296)) + (IntKind.u64.wrap (q0 - 1)))) (shrI .u64 (IntKind.u64.wrap ((IntKind.u64.wrap ((IntKind.u64.wrap (un21 * 4294967296)) + un0)) - (IntKind.u64.wrap ((IntKind.u64.wrap (q0 - 1)) * y)))) qs)
    else none
   else L327_2 k n y qs yn1 yn0 un0 q1 (IntKind.u64.wrap (rhat + yn1)) un21 (IntKind.u64.wrap (q0 - 1))
  else
   bif !decide (qs < 0) then
    r327 (IntKind.u64.wrap ((IntKind.u64.wrap (q1 * 4294967296)) + q0)) (shrI .u64 (IntKind.u64.wrap ((IntKind.u64.wrap ((IntKind.u64.wrap (un21 * 4294967296)) + un0)) - (IntKind.u64.wrap (q0 * y)))) qs)
   else none := by kernel_rfl
/-! 333 : impl.PutAll$1 -/
theorem n333 (k : Nat) (own : List PV) (n1 n11 : Int) : c333 (k + 1) own n1 n11 =
 R255 (c255 k n1 n11 own 1) fun b1 =>
 r333 n1 n11 (!b1) := by kernel_rfl
/-! 334 : spec.DivWord -/
theorem n334 (k : Nat) (wide a b : Int) : c334 (k + 1) wide a b =
 R316 (c316 k wide a b) fun b1 =>
 bif !b1 then
  r334 0 0 false
 else
  bif (b == 0) then
   R297 (c297 k wide 18446744073709551615) fun v1 =>
   r334 v1 a true
  else
   bif !(b == 0) then
    bif !(b == 0) then
     r334 (IntKind.u64.wrap (a.tdiv b)) (a.tmod b) true
    else none
   else none := by kernel_rfl
/-! 335 : spec.l1Shift -/
theorem n335 (k : Nat) (wide a by1 : Int) (left : Bool) : c335 (k + 1) wide a by1 left =
 bif decide (by1 ≥ IntKind.u64.wrap wide) then
  r335 0
 else L335_1 k k wide a by1 left := by kernel_rfl
theorem sL335_1 (k n : Nat) (wide a by1 : Int) (left : Bool) : L335_1 k (n + 1) wide a by1 left =
 bif decide (by1 > 0) then
  bif left then
   R297 (c297 k wide (shlI .u64 a 1)) fun v1 =>
   L335_1 k n wide v1 (IntKind.u64.wrap (by1 - 1)) left
  else L335_1 k n wide (shrI .u64 a 1) (IntKind.u64.wrap (by1 - 1)) left
 else r335 a := by kernel_rfl
/-! 336 : spec.l2Bool -/
theorem n336 (k : Nat) (is1 : Bool) : c336 (k + 1) is1 =
 bif is1 then
  r336 1
 else r336 0 := by kernel_rfl
/-! 337 : spec.l1Signed -/
theorem n337 (k : Nat) (wide a : Int) : c337 (k + 1) wide a =
 bif !decide (IntKind.u64.wrap (IntKind.i64.wrap (wide - 1)) < 0) then
  bif (bitsOp .and .u64 (shrI .u64 a (IntKind.u64.wrap (IntKind.i64.wrap (wide - 1)))) 1 == 1) then
   R297 (c297 k wide 18446744073709551615) fun v1 =>
   r337 (IntKind.i64.wrap (bitsOp .or .u64 a (bitsOp .xor .u64 18446744073709551615 v1)))
  else r337 (IntKind.i64.wrap a)
 else none := by kernel_rfl
/-! 348 : bits.Len64 -/
theorem n348 (k : Nat) (x : Int) : c348 (k + 1) x =
 bif decide (x ≥ 4294967296) then
  bif decide (shrI .u64 x 32 ≥ 65536) then
   bif decide (shrI .u64 (shrI .u64 x 32) 16 ≥ 256) then
    (byteAt ⟨#[0, 1, 2, 2, 3, 3, 3, 3, 4, 4, 4, 4, 4, 4, 4, 4, 5, 5, 5, 5, 5, 5, 5, 5, 5, 5, 5, 5, 5, 5, 5, 5, 6, 6, 6, 6, 6, 6, 6, 6, 6, 6, 6, 6, 6, 6, 6, 6, 6, 6, 6, 6, 6, 6, 6, 6, 6, 6, 6, 6, 6, 6, 6, 6, 7, 7, 7, 7, 7, 7, 7, 7, 7, 7, 7, 7, 7, 7, 7, 7, 7, 7, 7, 7, 7, 7, 7, 7, 7, 7, 7, 7, 7, 7, 7, 7, 7, 7, 7, 7, 7, 7, 7, 7, 7, 7, 7, 7, 7, 7, 7, 7, 7, 7, 7, 7, 7, 7, 7, 7, 7, 7, 7, 7, 7, 7, 7, 7, 8, 8, 8, 8, 8, 8, 8, 8, 8, 8, 8, 8, 8, 8, 8, 8, 8, 8, 8, 8, 8, 8, 8, 8, 8, 8, 8, 8, 8, 8, 8, 8, 8, 8, 8, 8, 8, 8, 8, 8, 8, 8, 8, 8, 8, 8, 8, 8, 8, 8, 8, 8, 8, 8, 8, 8, 8, 8, 8, 8, 8, 8, 8, 8, 8, 8, 8, 8, 8, 8, 8, 8, 8, 8, 8, 8, 8, 8, 8, 8, 8, 8, 8, 8, 8, 8, 8, 8, 8, 8, 8, 8, 8, 8, 8, 8, 8, 8, 8, 8, 8, 8, 8, 8, 8, 8, 8, 8, 8, 8, 8, 8, 8, 8, 8, 8, 8, 8, 8, 8, 8, 8, 8, 8, 8, 8, 8, 8]⟩ (IntKind.u8.wrap (shrI .u64 (shrI .u64 (shrI .u64 x 32) 16) 8))).bind fun b1 =>
    r348 (IntKind.i64.wrap (56 + (IntKind.i64.wrap b1)))
   else
    (byteAt ⟨#[0, 1, 2, 2, 3, 3, 3, 3, 4, 4, 4, 4, 4, 4, 4, 4, 5, 5, 5, 5, 5, 5, 5, 5, 5, 5, 5, 5, 5, 5, 5, 5, 6, 6, 6, 6, 6, 6, 6, 6, 6, 6, 6, 6, 6, 6, 6, 6, 6, 6, 6, 6, 6, 6, 6, 6, 6, 6, 6, 6, 6, 6, 6, 6, 7, 7, 7, 7, 7, 7, 7, 7, 7, 7, 7, 7, 7, 7, 7, 7, 7, 7, 7, 7, 7, 7, 7, 7, 7, 7, 7, 7, 7, 7, 7, 7, 7, 7, 7, 7, 7, 7, 7, 7, 7, 7, 7, 7, 7, 7, 7, 7, 7, 7, 7, 7, 7, 7, 7, 7, 7, 7, 7, 7, 7, 7, 7, 7, 8, 8, 8, 8, 8, 8, 8, 8, 8, 8, 8, 8, 8, 8, 8, 8, 8, 8, 8, 8, 8, 8, 8, 8, 8, 8, 8, 8, 8, 8, 8, 8, 8, 8, 8, 8, 8, 8, 8, 8, 8, 8, 8, 8, 8, 8, 8, 8, 8, 8, 8, 8, 8, 8, 8, 8, 8, 8, 8, 8, 8, 8, 8, 8, 8, 8, 8, 8, 8, 8, 8, 8, 8, 8, 8, 8, 8, 8, 8, 8, 8, 8, 8, 8, 8, 8, 8, 8, 8, 8, 8, 8, 8, 8, 8, 8, 8, 8, 8, 8, 8, 8, 8, 8, 8, 8, 8, 8, 8, 8, 8, 8, 8, 8, 8, 8, 8, 8, 8, 8, 8, 8, 8, 8, 8, 8, 8, 8]⟩ (IntKind.u8.wrap (shrI .u64 (shrI .u64 x 32) 16))).bind fun b2 =>
    r348 (IntKind.i64.wrap (48 + (IntKind.i64.wrap b2)))
  else
   bif decide (shrI .u64 x 32 ≥ 256) then
    (byteAt ⟨#[0, 1, 2, 2, 3, 3, 3, 3, 4, 4, 4, 4, 4, 4, 4, 4, 5, 5, 5, 5, 5, 5, 5, 5, 5, 5, 5, 5, 5, 5, 5, 5, 6, 6, 6, 6, 6, 6, 6, 6, 6, 6, 6, 6, 6, 6, 6, 6, 6, 6, 6, 6, 6, 6, 6, 6, 6, 6, 6, 6, 6, 6, 6, 6, 7, 7, 7, 7, 7, 7, 7, 7, 7, 7, 7, 7, 7, 7, 7, 7, 7, 7, 7, 7, 7, 7, 7, 7, 7, 7, 7, 7, 7, 7, 7, 7, 7, 7, 7, 7, 7, 7, 7, 7, 7, 7, 7, 7, 7, 7, 7, 7, 7, 7, 7, 7, 7, 7, 7, 7, 7, 7, 7, 7, 7, 7, 7, 7, 8, 8, 8, 8, 8, 8, 8, 8, 8, 8, 8, 8, 8, 8, 8, 8, 8, 8, 8, 8, 8, 8, 8, 8, 8, 8, 8, 8, 8, 8, 8, 8, 8, 8, 8, 8, 8, 8, 8, 8, 8, 8, 8, 8, 8, 8, 8, 8, 8, 8, 8, 8, 8, 8, 8, 8, 8, 8, 8, 8, 8, 8, 8, 8, 8, 8, 8, 8, 8, 8, 8, 8, 8, 8, 8, 8, 8, 8, 8, 8, 8, 8, 8, 8, 8, 8, 8, 8, 8, 8, 8, 8, 8, 8, 8, 8, 8, 8, 8, 8, 8, 8, 8, 8, 8, 8, 8, 8, 8, 8, 8, 8, 8, 8, 8, 8, 8, 8, 8, 8, 8, 8, 8, 8, 8, 8, 8, 8]⟩ (IntKind.u8.wrap (shrI .u64 (shrI .u64 x 32) 8))).bind fun b3 =>
    r348 (IntKind.i64.wrap (40 + (IntKind.i64.wrap b3)))
   else
    (byteAt ⟨#[0, 1, 2, 2, 3, 3, 3, 3, 4, 4, 4, 4, 4, 4, 4, 4, 5, 5, 5, 5, 5, 5, 5, 5, 5, 5, 5, 5, 5, 5, 5, 5, 6, 6, 6, 6, 6, 6, 6, 6, 6, 6, 6, 6, 6, 6, 6, 6, 6, 6, 6, 6, 6, 6, 6, 6, 6, 6, 6, 6, 6, 6, 6, 6, 7, 7, 7, 7, 7, 7, 7, 7, 7, 7, 7, 7, 7, 7, 7, 7, 7, 7, 7, 7, 7, 7, 7, 7, 7, 7, 7, 7, 7, 7, 7, 7, 7, 7, 7, 7, 7, 7, 7, 7, 7, 7, 7, 7, 7, 7, 7, 7, 7, 7, 7, 7, 7, 7, 7, 7, 7, 7, 7, 7, 7, 7, 7, 7, 8, 8, 8, 8, 8, 8, 8, 8, 8, 8, 8, 8, 8, 8, 8, 8, 8, 8, 8, 8, 8, 8, 8, 8, 8, 8, 8, 8, 8, 8, 8, 8, 8, 8, 8, 8, 8, 8, 8, 8, 8, 8, 8, 8, 8, 8, 8, 8, 8, 8, 8, 8, 8, 8, 8, 8, 8, 8, 8, 8, 8, 8, 8, 8, 8, 8, 8, 8, 8, 8, 8, 8, 8, 8, 8, 8, 8, 8, 8, 8, 8, 8, 8, 8, 8, 8, 8, 8, 8, 8, 8, 8, 8, 8, 8, 8, 8, 8, 8, 8, 8, 8, 8, 8, 8, 8, 8, 8, 8, 8, 8, 8, 8, 8, 8, 8, 8, 8, 8, 8, 8, 8, 8, 8, 8, 8, 8, 8]⟩ (IntKind.u8.wrap (shrI .u64 x 32))).bind fun b4 =>
    r348 (IntKind.i64.wrap (32 + (IntKind.i64.wrap b4)))
 else
  bif decide (x ≥ 65536) then
   bif decide (shrI .u64 x 16 ≥ 256) then
    (byteAt ⟨#[0, 1, 2, 2, 3, 3, 3, 3, 4, 4, 4, 4, 4, 4, 4, 4, 5, 5, 5, 5, 5, 5, 5, 5, 5, 5, 5, 5, 5, 5, 5, 5, 6, 6, 6, 6, 6, 6, 6, 6, 6, 6, 6, 6, 6, 6, 6, 6, 6, 6, 6, 6, 6, 6, 6, 6, 6, 6, 6, 6, 6, 6, 6, 6, 7, 7, 7, 7, 7, 7, 7, 7, 7, 7, 7, 7, 7, 7, 7, 7, 7, 7, 7, 7, 7, 7, 7, 7, 7, 7, 7, 7, 7, 7, 7, 7, 7, 7, 7, 7, 7, 7, 7, 7, 7, 7, 7, 7, 7, 7, 7, 7, 7, 7, 7, 7, 7, 7, 7, 7, 7, 7, 7, 7, 7, 7, 7, 7, 8, 8, 8, 8, 8, 8, 8, 8, 8, 8, 8, 8, 8, 8, 8, 8, 8, 8, 8, 8, 8, 8, 8, 8, 8, 8, 8, 8, 8, 8, 8, 8, 8, 8, 8, 8, 8, 8, 8, 8, 8, 8, 8, 8, 8, 8, 8, 8, 8, 8, 8, 8, 8, 8, 8, 8, 8, 8, 8, 8, 8, 8, 8, 8, 8, 8, 8, 8, 8, 8, 8, 8, 8, 8, 8, 8, 8, 8, 8, 8, 8, 8, 8, 8, 8, 8, 8, 8, 8, 8, 8, 8, 8, 8, 8, 8, 8, 8, 8, 8, 8, 8, 8, 8, 8, 8, 8, 8, 8, 8, 8, 8, 8, 8, 8, 8, 8, 8, 8, 8, 8, 8, 8, 8, 8, 8, 8, 8]⟩ (IntKind.u8.wrap (shrI .u64 (shrI .u64 x 16) 8))).bind fun b5 =>
    r348 (IntKind.i64.wrap (24 + (IntKind.i64.wrap b5)))
   else
    (byteAt ⟨#[0, 1, 2, 2, 3, 3, 3, 3, 4, 4, 4, 4, 4, 4, 4, 4, 5, 5, 5, 5, 5, 5, 5, 5, 5, 5, 5, 5, 5, 5, 5, 5, 6, 6, 6, 6, 6, 6, 6, 6, 6, 6, 6, 6, 6, 6, 6, 6, 6, 6, 6, 6, 6, 6, 6, 6, 6, 6, 6, 6, 6, 6, 6, 6, 7, 7, 7, 7, 7, 7, 7, 7, 7, 7, 7, 7, 7, 7, 7, 7, 7, 7, 7, 7, 7, 7, 7, 7, 7, 7, 7, 7, 7, 7, 7, 7, 7, 7, 7, 7, 7, 7, 7, 7, 7, 7, 7, 7, 7, 7, 7, 7, 7, 7, 7, 7, 7, 7, 7, 7, 7, 7, 7, 7, 7, 7, 7, 7, 8, 8, 8, 8, 8, 8, 8, 8, 8, 8, 8, 8, 8, 8, 8, 8, 8, 8, 8, 8, 8, 8, 8, 8, 8, 8, 8, 8, 8, 8, 8, 8, 8, 8, 8, 8, 8, 8, 8, 8, 8, 8, 8, 8, 8, 8, 8, 8, 8, 8, 8, 8, 8, 8, 8, 8, 8, 8, 8, 8, 8, 8, 8, 8, 8, 8, 8, 8, 8, 8, 8, 8, 8, 8, 8, 8, 8, 8, 8, 8, 8, 8, 8, 8, 8, 8, 8, 8, 8, 8, 8, 8, 8, 8, 8, 8, 8, 8, 8, 8, 8, 8, 8, 8, 8, 8, 8, 8, 8, 8, 8, 8, 8, 8, 8, 8, 8, 8, 8, 8, 8, 8, 8, 8, 8, 8, 8, 8]⟩ (IntKind.u8.wrap (shrI .u64 x 16))).bind fun b6 =>
    r348 (IntKind.i64.wrap (16 + (IntKind.i64.wrap b6)))
  else
   bif decide (x ≥ 256) then
    (byteAt ⟨#[0, 1, 2, 2, 3, 3, 3, 3, 4, 4, 4, 4, 4, 4, 4, 4, 5, 5, 5, 5, 5, 5, 5, 5, 5, 5, 5, 5, 5, 5, 5, 5, 6, 6, 6, 6, 6, 6, 6, 6, 6, 6, 6, 6, 6, 6, 6, 6, 6, 6, 6, 6, 6, 6, 6, 6, 6, 6, 6, 6, 6, 6, 6, 6, 7, 7, 7, 7, 7, 7, 7, 7, 7, 7, 7, 7, 7, 7, 7, 7, 7, 7, 7, 7, 7, 7, 7, 7, 7, 7, 7, 7, 7, 7, 7, 7, 7, 7, 7, 7, 7, 7, 7, 7, 7, 7, 7, 7, 7, 7, 7, 7, 7, 7, 7, 7, 7, 7, 7, 7, 7, 7, 7, 7, 7, 7, 7, 7, 8, 8, 8, 8, 8, 8, 8, 8, 8, 8, 8, 8, 8, 8, 8, 8, 8, 8, 8, 8, 8, 8, 8, 8, 8, 8, 8, 8, 8, 8, 8, 8, 8, 8, 8, 8, 8, 8, 8, 8, 8, 8, 8, 8, 8, 8, 8, 8, 8, 8, 8, 8, 8, 8, 8, 8, 8, 8, 8, 8, 8, 8, 8, 8, 8, 8, 8, 8, 8, 8, 8, 8, 8, 8, 8, 8, 8, 8, 8, 8, 8, 8, 8, 8, 8, 8, 8, 8, 8, 8, 8, 8, 8, 8, 8, 8, 8, 8, 8, 8, 8, 8, 8, 8, 8, 8, 8, 8, 8, 8, 8, 8, 8, 8, 8, 8, 8, 8, 8, 8, 8, 8, 8, 8, 8, 8, 8, 8]⟩ (IntKind.u8.wrap (shrI .u64 x 8))).bind fun b7 =>
    r348 (IntKind.i64.wrap (8 + (IntKind.i64.wrap b7)))
   else
    (byteAt ⟨#[0, 1, 2, 2, 3, 3, 3, 3, 4, 4, 4, 4, 4, 4, 4, 4, 5, 5, 5, 5, 5, 5, 5, 5, 5, 5, 5, 5, 5, 5, 5, 5, 6, 6, 6, 6, 6, 6, 6, 6, 6, 6, 6, 6, 6, 6, 6, 6, 6, 6, 6, 6, 6, 6, 6, 6, 6, 6, 6, 6, 6, 6, 6, 6, 7, 7, 7, 7, 7, 7, 7, 7, 7, 7, 7, 7, 7, 7, 7, 7, 7, 7, 7, 7, 7, 7, 7, 7, 7, 7, 7, 7, 7, 7, 7, 7, 7, 7, 7, 7, 7, 7, 7, 7, 7, 7, 7, 7, 7, 7, 7, 7, 7, 7, 7, 7, 7, 7, 7, 7, 7, 7, 7, 7, 7, 7, 7, 7, 8, 8, 8, 8, 8, 8, 8, 8, 8, 8, 8, 8, 8, 8, 8, 8, 8, 8, 8, 8, 8, 8, 8, 8, 8, 8, 8, 8, 8, 8, 8, 8, 8, 8, 8, 8, 8, 8, 8, 8, 8, 8, 8, 8, 8, 8, 8, 8, 8, 8, 8, 8, 8, 8, 8, 8, 8, 8, 8, 8, 8, 8, 8, 8, 8, 8, 8, 8, 8, 8, 8, 8, 8, 8, 8, 8, 8, 8, 8, 8, 8, 8, 8, 8, 8, 8, 8, 8, 8, 8, 8, 8, 8, 8, 8, 8, 8, 8, 8, 8, 8, 8, 8, 8, 8, 8, 8, 8, 8, 8, 8, 8, 8, 8, 8, 8, 8, 8, 8, 8, 8, 8, 8, 8, 8, 8, 8, 8]⟩ (IntKind.u8.wrap x)).bind fun b8 =>
    r348 (IntKind.i64.wrap (0 + (IntKind.i64.wrap b8))) := by kernel_rfl
/-! 351 : bits.LeadingZeros64 -/
theorem n351 (k : Nat) (x : Int) : c351 (k + 1) x =
 R348 (c348 k x) fun v1 =>
 r351 (IntKind.i64.wrap (64 - v1)) := by kernel_rfl
end Go.Proofs.YtclkgblckicabaaGreat
/- The draws: next, pick, one, among; cutting a word. -/
set_option linter.unusedVariables false
set_option linter.unusedSimpArgs false
set_option maxRecDepth 4000
namespace Go.Proofs.YtclkgblckicabaaGreat
open Go.Dp

structure CodeOK (bs : List Nat) : Prop where
  len : bs.length ≤ 1048576
  lt : ∀ b ∈ bs, b < 256
theorem and255 (x : Int) : 0 ≤ bitsOp .and .u64 x 255 ∧ bitsOp .and .u64 x 255 ≤ 255 := by
  have e : bitsOp .and .u64 x 255 = wi (BitVec.ofInt 64 x &&& 255#64) := by
    show IntKind.u64.wrap (((BitVec.ofInt 64 x) &&& (BitVec.ofInt 64 255)).toNat : Int) = _
    exact wrap_wi _
  rw [e]
  refine ⟨wi_nonneg _, ?_⟩
  unfold wi
  rw [BitVec.toNat_and]
  have := Nat.and_le_right (n := (BitVec.ofInt 64 x).toNat) (m := (255#64).toNat)
  have h2 : (255#64).toNat = 255 := rfl
  omega
theorem next_ok {bs : List Nat} (hc : CodeOK bs) {k : Nat} (hk : 1 ≤ k) {at' : Int} (h0 : 0 ≤ at') (h1 : at' ≤ 1000000000) (s : W) :
    ∃ s2 v, c250 k (encB bs) at' (wi s) = r250 (encB bs) (at' + 1) (wi s2) v ∧ 0 ≤ v ∧ v ≤ 255 := by
  obtain ⟨k, rfl⟩ : ∃ j, k = j + 1 := ⟨k - 1, by omega⟩
  rw [n250, i64_id (n := at' + 1) (by omega) (by omega)]
  simp only [wrapU]
  have hl := hc.len
  cases hd : decide (at' < ((encB bs).length : Int))
  · simp only [cond_false]
    cases hd2 : decide (at' + 1 ≤ ((encB bs).length : Int))
    · simp only [cond_false]
      have h3 := and255 (shrI .u64 (wi (BitVec.ofInt 64 (wi (BitVec.ofInt 64 (wi (BitVec.ofInt 64 (wi s * 6364136223846793005)) + 0)) + 1442695040888963407))) 40)
      exact ⟨_, _, rfl, by rw [i64_id (by omega) (by omega)]; exact h3⟩
    · simp only [cond_true]
      exact ⟨_, _, rfl, by omega, by omega⟩
  · simp only [cond_true]
    simp only [encB_length, decide_eq_true_eq] at hd
    have hlt : at'.toNat < bs.length := by omega
    have hlk : lookP (encB bs) at' = some (.int .u8 (bs[at'.toNat] : Int)) := by
      rw [lookP_int h0, encB_get]
      simp [hlt]
    have hb := hc.lt bs[at'.toNat] (List.getElem_mem hlt)
    rw [hlk]
    simp only [Option.bind_some, int_atInt]
    rw [i64_id (n := (bs[at'.toNat] : Int)) (by omega) (by omega)]
    cases hd2 : decide (at' + 1 ≤ ((encB bs).length : Int))
    · simp only [cond_false]
      have h3 := and255 (shrI .u64 (wi (BitVec.ofInt 64 (wi (BitVec.ofInt 64 (wi (BitVec.ofInt 64 (wi s * 6364136223846793005)) + wi (BitVec.ofInt 64 (bs[at'.toNat] : Int)))) + 1442695040888963407))) 40)
      exact ⟨_, _, rfl, by rw [i64_id (by omega) (by omega)]; exact h3⟩
    · simp only [cond_true]
      exact ⟨_, _, rfl, by omega, by omega⟩
theorem pick_ok {bs : List Nat} (hc : CodeOK bs) {k : Nat} (hk : 2 ≤ k) {at' : Int} (h0 : 0 ≤ at') (h1 : at' ≤ 999999000) (s : W) (n : Int) :
    ∃ a2 s2 v, c143 k n (encB bs) at' (wi s) = r143 (encB bs) a2 (wi s2) v ∧ at' ≤ a2 ∧ a2 ≤ at' + 2 ∧ 0 ≤ v ∧ (1 ≤ n → v < n) ∧ (n ≤ 1 → v = 0) ∧ v ≤ 65535 := by
  obtain ⟨k, rfl⟩ : ∃ j, k = j + 1 := ⟨k - 1, by omega⟩
  rw [n143]
  cases hd : decide (n ≤ 1)
  · simp only [cond_false]
    simp at hd
    obtain ⟨s2, v, h, hv0, hv1⟩ := next_ok hc (k := k) (by omega) h0 (by omega) s
    rw [h]
    simp only [R250_r]
    have hn0 : (n == 0) = false := by simp; omega
    cases hd2 : decide (n > 200)
    · simp only [cond_false, hn0, Bool.not_false, cond_true]
      have h5 := Int.tmod_lt_of_pos v (b := n) (by omega)
      have h6 := Int.tmod_nonneg n hv0
      have h7 : v.tmod n ≤ v := by rw [Int.tmod_eq_emod_of_nonneg hv0]; exact emod_le_self hv0 (by omega)
      exact ⟨_, _, _, rfl, by omega, by omega, h6, fun _ => h5, by omega, by omega⟩
    · simp only [cond_true, hn0, Bool.not_false]
      obtain ⟨s3, v3, h3, hv2, hv3⟩ := next_ok hc (k := k) (by omega) (at' := at' + 1) (by omega) (by omega) s2
      rw [h3]
      simp only [R250_r, cond_true]
      rw [i64_id (n := v * 256) (by omega) (by omega), i64_id (n := v * 256 + v3) (by omega) (by omega)]
      have h5 := Int.tmod_lt_of_pos (v * 256 + v3) (b := n) (by omega)
      have h6 := Int.tmod_nonneg n (a := v * 256 + v3) (by omega)
      have h7 : (v * 256 + v3).tmod n ≤ v * 256 + v3 := by rw [Int.tmod_eq_emod_of_nonneg (by omega)]; exact emod_le_self (by omega) (by omega)
      exact ⟨_, _, _, rfl, by omega, by omega, h6, fun _ => h5, by omega, by omega⟩
  · simp only [cond_true]
    simp at hd
    exact ⟨_, _, _, rfl, by omega, by omega, by omega, by omega, fun _ => rfl, by omega⟩
theorem one_ok {bs : List Nat} (hc : CodeOK bs) {k : Nat} (hk : 3 ≤ k) {at' : Int} (h0 : 0 ≤ at') (h1 : at' ≤ 999999000) (s : W) (n : Int) :
    ∃ a2 s2 b, c145 k n (encB bs) at' (wi s) = r145 (encB bs) a2 (wi s2) b ∧ at' ≤ a2 ∧ a2 ≤ at' + 2 := by
  obtain ⟨k, rfl⟩ : ∃ j, k = j + 1 := ⟨k - 1, by omega⟩
  obtain ⟨a2, s2, v, h, h2, h3, _⟩ := pick_ok hc (k := k) (by omega) h0 h1 s n
  rw [n145, h]
  simp only [R143_r]
  exact ⟨_, _, _, rfl, h2, h3⟩
theorem among_ok {bs : List Nat} (hc : CodeOK bs) {k : Nat} (hk : 3 ≤ k) {at' : Int} (h0 : 0 ≤ at') (h1 : at' ≤ 999999000) (s : W) (L : List Int) (hL : 1 ≤ L.length) :
    ∃ a2 s2 v, c128 k (encZ L) (encB bs) at' (wi s) = r128 (encB bs) a2 (wi s2) v ∧ at' ≤ a2 ∧ a2 ≤ at' + 2 ∧ v ∈ L := by
  obtain ⟨k, rfl⟩ : ∃ j, k = j + 1 := ⟨k - 1, by omega⟩
  obtain ⟨a2, s2, v, h, h2, h3, h4, h5, _⟩ := pick_ok hc (k := k) (by omega) h0 h1 s (L.length : Int)
  rw [n128, encZ_length, h]
  simp only [R143_r]
  have hv := h5 (by omega)
  have hlt : v.toNat < L.length := by omega
  have e : v = (v.toNat : Int) := by omega
  have hlk : lookP (encZ L) v = some (.int .i64 L[v.toNat]) := by
    rw [lookP_int h4, encZ_get]
    simp [hlt]
  rw [hlk]
  simp only [Option.bind_some, int_atInt]
  exact ⟨_, _, _, rfl, h2, h3, List.getElem_mem hlt⟩

/-! ### Cutting a word -/
def maskB (n : Nat) : W := BitVec.allOnes 64 >>> (64 - n)
theorem maskB_lsb {n : Nat} (hn : n ≤ 64) (i : Nat) : (maskB n).getLsbD i = decide (i < n) := by
  unfold maskB
  rw [BitVec.getLsbD_ushiftRight, BitVec.getLsbD_allOnes]
  by_cases h : i < n <;> simp <;> omega
theorem mask_ok {k : Nat} (hk : 1 ≤ k) {wide : Int} (h1 : 0 ≤ wide) (h2 : wide ≤ 64) : c234 k wide = r234 (wi (maskB wide.toNat)) := by
  obtain ⟨k, rfl⟩ : ∃ j, k = j + 1 := ⟨k - 1, by omega⟩
  rw [n234, i64_id (by omega) (by omega)]
  have hd : decide (64 - wide < 0) = false := by simp; omega
  simp only [hd, Bool.not_false, cond_true]
  have e : (18446744073709551615 : Int) = wi (BitVec.allOnes 64) := rfl
  rw [e, shr_wi _ (by omega)]
  have : (64 - wide).toNat = 64 - wide.toNat := by omega
  rw [this]
  rfl
theorem cut_step (a : W) (j : Nat) (hj : j < 64) : (a &&& maskB j) ||| (a &&& (1#64 <<< j)) = a &&& maskB (j + 1) := by
  apply BitVec.eq_of_getLsbD_eq
  intro i hi
  rw [BitVec.getLsbD_or, BitVec.getLsbD_and, BitVec.getLsbD_and, BitVec.getLsbD_and, maskB_lsb (by omega), maskB_lsb (by omega)]
  rw [BitVec.getLsbD_shiftLeft, BitVec.getLsbD_one]
  by_cases h1 : i < j
  · have : i < j + 1 := by omega
    simp [h1, this]
  · by_cases h2 : i = j
    · subst h2; simp; omega
    · have h3 : ¬ i < j + 1 := by omega
      have h4 : ¬ (i - j = 0) := by omega
      simp [h1, h3, h4]
theorem cutloop {wide : Int} (h2 : wide ≤ 64) (a : W) (k : Nat) : ∀ (m n : Nat) (j : Nat), (wide - j).toNat ≤ m → m < n → (j : Int) ≤ wide → L297_1 k n wide (wi a) (wi (a &&& maskB j)) (j : Int) = r297 (wi (a &&& maskB wide.toNat))
  | m, 0, j, hm, hn, hj => by omega
  | m, n + 1, j, hm, hn, hj => by
    rw [sL297_1]
    by_cases h : (j : Int) < wide
    · have hd : decide ((j : Int) < wide) = true := by simpa using h
      rw [u64_id (n := (j : Int)) (by omega) (by omega)]
      have hd2 : decide ((j : Int) < 0) = false := by simp
      have e1 : (1 : Int) = wi (1#64) := rfl
      simp only [hd, hd2, cond_true, Bool.not_false]
      rw [e1, shl_wi _ (by omega), and_wi, or_wi, ← e1, Int.toNat_natCast, cut_step a j (by omega), i64_id (by omega) (by omega)]
      have e2 : (j : Int) + 1 = ((j + 1 : Nat) : Int) := by omega
      rw [e2]
      cases m with
      | zero => omega
      | succ m => exact cutloop h2 a k m n (j + 1) (by omega) (by omega) (by omega)
    · have hd : decide ((j : Int) < wide) = false := by simpa using h
      simp only [hd, cond_false]
      have : wide.toNat = j := by omega
      rw [this]
theorem cut_ok {k : Nat} (hk : 70 ≤ k) {wide : Int} (h1 : 0 ≤ wide) (h2 : wide ≤ 64) (a : W) : c297 k wide (wi a) = r297 (wi (a &&& maskB wide.toNat)) := by
  obtain ⟨k, rfl⟩ : ∃ j, k = j + 1 := ⟨k - 1, by omega⟩
  rw [n297]
  have e0 : (0 : Int) = wi (a &&& maskB 0) := by
    have : maskB 0 = 0#64 := by rfl
    rw [this]; simp [wi]
  have := cutloop h2 a k wide.toNat k 0 (by omega) (by omega) (by omega)
  rw [← e0] at this
  exact this
end Go.Proofs.YtclkgblckicabaaGreat
/- The draws of terms. -/
set_option linter.unusedVariables false
set_option linter.unusedSimpArgs false
set_option maxRecDepth 4000
namespace Go.Proofs.YtclkgblckicabaaGreat
open Go.Dp

theorem number_ok {bs : List Nat} (hc : CodeOK bs) {wide vars : Int} (hw0 : 0 ≤ wide) (hw : wide ≤ 64) (hv : 1 ≤ vars) (hv2 : vars ≤ 100) : ∀ (d : Nat) {k : Nat} (hk : 80 + d ≤ k) (hd : d ≤ 16) {at' : Int} (h0 : 0 ≤ at') (h1 : at' + (20 * 2 ^ d : Nat) ≤ 900000000) (s : W),
    ∃ a2 s2 t, c228 k wide vars (d : Int) (encB bs) at' (wi s) = r228 (encB bs) a2 (wi s2) (encT t) ∧ at' ≤ a2 ∧ a2 ≤ at' + (20 * (2 ^ d : Nat) - 10 : Nat) ∧ 1 ≤ t.length ∧ t.length + 1 ≤ 2 ^ (d + 1)
  | 0, k, hk, hd, at', h0, h1, s => by
    obtain ⟨k, rfl⟩ : ∃ j, k = j + 1 := ⟨k - 1, by omega⟩
    rw [n228]
    have e : (((0 : Nat) : Int) == 0) = true := rfl
    simp only [e, cond_true]
    obtain ⟨a2, s2, b, h, h2, h3⟩ := one_ok hc (k := k) (by omega) h0 (by omega) s 2
    rw [h]
    simp only [R145_r]
    cases b
    · simp only [cond_false]
      obtain ⟨a3, s3, v, h, h4, h5, _⟩ := pick_ok hc (k := k) (by omega) (at' := a2) (by omega) (by omega) s2 vars
      rw [h]
      simp only [R143_r]
      rw [wrapU]
      exact ⟨a3, s3, [(2, BitVec.ofInt 64 v)], rfl, by omega, by (simp; try omega), by simp, by simp⟩
    · simp only [cond_true]
      obtain ⟨a3, s3, v, h, h4, h5, _⟩ := pick_ok hc (k := k) (by omega) (at' := a2) (by omega) (by omega) s2 9
      rw [h]
      simp only [R143_r]
      rw [wrapU, cut_ok (by omega) hw0 hw]
      simp only [R297_r]
      exact ⟨a3, s3, [(1, _)], rfl, by omega, by (simp; try omega), by simp, by simp⟩
  | d + 1, k, hk, hd, at', h0, h1, s => by
    obtain ⟨k, rfl⟩ : ∃ j, k = j + 1 := ⟨k - 1, by omega⟩
    have ih := fun (a : Int) (h0 : 0 ≤ a) (h1 : a + (20 * 2 ^ d : Nat) ≤ 900000000) (s : W) => number_ok hc hw0 hw hv hv2 d (k := k) (by omega) (by omega) h0 h1 s
    have hp : (2 : Nat) ^ d ≤ 65536 := Nat.pow_le_pow_right (n := 2) (by omega) (show d ≤ 16 by omega)
    have hp1 : 1 ≤ (2 : Nat) ^ d := Nat.one_le_two_pow
    have e2 : (2 : Nat) ^ (d + 1) = 2 * 2 ^ d := by rw [Nat.pow_succ]; omega
    have e3 : (2 : Nat) ^ (d + 1 + 1) = 4 * 2 ^ d := by rw [Nat.pow_succ, e2]; omega
    rw [e3]
    rw [e2] at h1 ⊢
    rw [n228]
    have e : (((d + 1 : Nat) : Int) == 0) = false := by (simp; try omega)
    have e1 : IntKind.i64.wrap (((d + 1 : Nat) : Int) - 1) = (d : Int) := by rw [i64_id (by omega) (by omega)]; omega
    simp only [e, cond_false, e1]
    obtain ⟨a2, s2, b, h, h2, h3⟩ := one_ok hc (k := k) (by omega) h0 (by omega) s 4
    rw [h]
    simp only [R145_r]
    cases b
    · simp only [cond_false]
      obtain ⟨a3, s3, b, h, h4, h5⟩ := one_ok hc (k := k) (by omega) (at' := a2) (by omega) (by omega) s2 7
      rw [h]
      simp only [R145_r]
      cases b
      · simp only [cond_false]
        obtain ⟨a4, s4, t, h, h6, h7, h8, h9⟩ := ih a3 (by omega) (by omega) s3
        rw [h]
        simp only [R228_r]
        obtain ⟨a5, s5, u, h, h10, h11, h12, h13⟩ := ih a4 (by omega) (by omega) s4
        rw [h]
        simp only [R228_r]
        rw [lim_ok (by (simp; try omega)) (by omega)]
        simp only [cond_true]
        obtain ⟨a6, s6, v, h, h14, h15, _⟩ := among_ok hc (k := k) (by omega) (at' := a5) (by omega) (by omega) s5 [3, 3, 3, 4, 4, 5, 8, 9, 10] (by simp)
        rw [show ([PV.int .i64 3, PV.int .i64 3, PV.int .i64 3, PV.int .i64 4, PV.int .i64 4, PV.int .i64 5, PV.int .i64 8, PV.int .i64 9, PV.int .i64 10] : List PV) = encZ [3, 3, 3, 4, 4, 5, 8, 9, 10] from rfl, h]
        simp only [R128_r]
        obtain ⟨a7, s7, b, h, h16, h17⟩ := one_ok hc (k := k) (by omega) (at' := a6) (by omega) (by omega) s6 6
        rw [h]
        simp only [R145_r]
        cases b
        · simp only [cond_false]
          rw [lim_ok (by (simp; try omega)) (by omega), take2]
          exact ⟨a7, s7, t ++ u ++ [(v, 0#64)], by simp [encT, encN, wi], by omega, by omega, by (simp; try omega), by (simp; try omega)⟩
        · simp only [cond_true]
          obtain ⟨a8, s8, v2, h, h18, h19, _⟩ := among_ok hc (k := k) (by omega) (at' := a7) (by omega) (by omega) s7 [6, 7, 11, 12] (by simp)
          rw [show ([PV.int .i64 6, PV.int .i64 7, PV.int .i64 11, PV.int .i64 12] : List PV) = encZ [6, 7, 11, 12] from rfl, h]
          simp only [R128_r]
          rw [lim_ok (by (simp; try omega)) (by omega), take2]
          exact ⟨a8, s8, t ++ u ++ [(v2, 0#64)], by simp [encT, encN, wi], by omega, by omega, by (simp; try omega), by (simp; try omega)⟩
      · simp only [cond_true]
        obtain ⟨a4, s4, t, h, h6, h7, h8, h9⟩ := ih a3 (by omega) (by omega) s3
        rw [h]
        simp only [R228_r]
        rw [lim_ok (by (simp; try omega)) (by omega), take1]
        exact ⟨a4, s4, t ++ [(13, 0#64)], by simp [encT, encN, wi], by omega, by omega, by simp, by (simp; try omega)⟩
    · simp only [cond_true]
      obtain ⟨a3, s3, b, h, h4, h5⟩ := one_ok hc (k := k) (by omega) (at' := a2) (by omega) (by omega) s2 2
      rw [h]
      simp only [R145_r]
      cases b
      · simp only [cond_false]
        obtain ⟨a4, s4, v, h, h6, h7, _⟩ := pick_ok hc (k := k) (by omega) (at' := a3) (by omega) (by omega) s3 vars
        rw [h]
        simp only [R143_r]
        rw [wrapU]
        exact ⟨a4, s4, [(2, BitVec.ofInt 64 v)], rfl, by omega, by omega, by simp, by (simp; try omega)⟩
      · simp only [cond_true]
        obtain ⟨a4, s4, v, h, h6, h7, _⟩ := pick_ok hc (k := k) (by omega) (at' := a3) (by omega) (by omega) s3 9
        rw [h]
        simp only [R143_r]
        rw [wrapU, cut_ok (by omega) hw0 hw]
        simp only [R297_r]
        exact ⟨a4, s4, [(1, _)], rfl, by omega, by omega, by simp, by (simp; try omega)⟩
theorem number_int {bs : List Nat} (hc : CodeOK bs) {wide vars : Int} (hw0 : 0 ≤ wide) (hw : wide ≤ 64) (hv : 1 ≤ vars) (hv2 : vars ≤ 100) {d : Int} (hd0 : 0 ≤ d) (hd : d ≤ 3) {k : Nat} (hk : 90 ≤ k) {at' : Int} (h0 : 0 ≤ at') (h1 : at' ≤ 800000000) (s : W) :
    ∃ a2 s2 t, c228 k wide vars d (encB bs) at' (wi s) = r228 (encB bs) a2 (wi s2) (encT t) ∧ at' ≤ a2 ∧ a2 ≤ at' + 150 ∧ 1 ≤ t.length ∧ t.length ≤ 15 ∧ (d ≤ 1 → t.length ≤ 3 ∧ a2 ≤ at' + 30) := by
  have hd2 : d.toNat ≤ 3 := by omega
  have e1 : 1 ≤ (2 : Nat) ^ d.toNat := Nat.one_le_two_pow
  have e2 : (2 : Nat) ^ d.toNat ≤ 2 ^ 3 := Nat.pow_le_pow_right (by omega) hd2
  have e3 : (2 : Nat) ^ (d.toNat + 1) = 2 * 2 ^ d.toNat := by rw [Nat.pow_succ]; omega
  obtain ⟨a2, s2, t, h, h2, h3, h4, h5⟩ := number_ok hc hw0 hw hv hv2 d.toNat (k := k) (by omega) (by omega) (at' := at') h0 (by omega) s
  rw [Int.toNat_of_nonneg hd0] at h
  refine ⟨a2, s2, t, h, h2, by omega, h4, by omega, fun hd3 => ?_⟩
  have e4 : (2 : Nat) ^ d.toNat ≤ 2 ^ 1 := Nat.pow_le_pow_right (by omega) (by omega)
  omega
theorem asked_base {bs : List Nat} (hc : CodeOK bs) {wide vars : Int} (hw0 : 0 ≤ wide) (hw : wide ≤ 64) (hv : 1 ≤ vars) (hv2 : vars ≤ 100) {k : Nat} (hk : 100 ≤ k) {at' : Int} (h0 : 0 ≤ at') (h1 : at' ≤ 700000000) (s : W) :
    ∃ a2 s2 t, (R228 (c228 k wide vars 1 (encB bs) at' (wi s)) fun l12 q19 q20 l13 =>
      R143 (c143 k 2 l12 q19 q20) fun l14 q21 q22 q23 =>
      R228 (c228 k wide vars q23 l14 q21 q22) fun l15 q24 q25 l16 =>
      bif decide ((l13.length + ((l16.take l16.length).length)) * 16 ≤ LIM) && decide (l13.length + ((l16.take l16.length).length) ≤ LIM) then
       R128 (c128 k [PV.int .i64 14, PV.int .i64 15, PV.int .i64 15, PV.int .i64 16] l15 q24 q25) fun l17 q26 q27 q28 =>
       bif decide (((l13.length + ((l16.take l16.length).length)) + 1) * 16 ≤ LIM) && decide ((l13.length + ((l16.take l16.length).length)) + 1 ≤ LIM) then
        r107 l17 q26 q27 (((((l13.take l13.length) ++ (l16.take l16.length)).take (l13.length + ((l16.take l16.length).length))) ++ [PV.agg [.int .i64 q28, .int .u64 0]]).take ((l13.length + ((l16.take l16.length).length)) + 1))
       else none
      else none) = r107 (encB bs) a2 (wi s2) (encT t) ∧ at' ≤ a2 ∧ a2 ≤ at' + 70 ∧ 1 ≤ t.length ∧ t.length ≤ 7 := by
  obtain ⟨a4, s4, t, h, h6, h7, h8, h9, h10⟩ := number_int hc hw0 hw hv hv2 (d := 1) (by omega) (by omega) (k := k) (by omega) h0 (by omega) s
  have h10 := h10 (by omega)
  rw [h]
  simp only [R228_r]
  obtain ⟨a5, s5, v, h, h11, h12, h13, h14, _⟩ := pick_ok hc (k := k) (by omega) (at' := a4) (by omega) (by omega) s4 2
  rw [h]
  simp only [R143_r]
  obtain ⟨a6, s6, u, h, h15, h16, h17, h18, h19⟩ := number_int hc hw0 hw hv hv2 (d := v) (by omega) (by omega) (k := k) (by omega) (at' := a5) (by omega) (by omega) s5
  have h19 := h19 (by omega)
  rw [h]
  simp only [R228_r]
  rw [lim_ok (by (simp; try omega)) (by omega)]
  simp only [cond_true]
  obtain ⟨a7, s7, w, h, h20, h21, _⟩ := among_ok hc (k := k) (by omega) (at' := a6) (by omega) (by omega) s6 [14, 15, 15, 16] (by simp)
  rw [show ([PV.int .i64 14, PV.int .i64 15, PV.int .i64 15, PV.int .i64 16] : List PV) = encZ [14, 15, 15, 16] from rfl, h]
  simp only [R128_r]
  rw [lim_ok (by (simp; try omega)) (by omega), take2]
  exact ⟨a7, s7, t ++ u ++ [(w, 0#64)], by simp [encT, encN, wi], by omega, by omega, by (simp; try omega), by (simp; try omega)⟩
theorem asked_ok {bs : List Nat} (hc : CodeOK bs) {wide vars : Int} (hw0 : 0 ≤ wide) (hw : wide ≤ 64) (hv : 1 ≤ vars) (hv2 : vars ≤ 100) : ∀ (d : Nat) {k : Nat} (hk : 110 + d ≤ k) (hd : d ≤ 16) {at' : Int} (h0 : 0 ≤ at') (h1 : at' + (100 * 2 ^ d : Nat) ≤ 700000000) (s : W),
    ∃ a2 s2 t, c107 k wide vars (d : Int) (encB bs) at' (wi s) = r107 (encB bs) a2 (wi s2) (encT t) ∧ at' ≤ a2 ∧ a2 ≤ at' + (100 * (2 ^ d : Nat) - 20 : Nat) ∧ 1 ≤ t.length ∧ t.length + 1 ≤ 8 * 2 ^ d
  | d, k, hk, hd, at', h0, h1, s => by
    obtain ⟨k, rfl⟩ : ∃ j, k = j + 1 := ⟨k - 1, by omega⟩
    have hp : (2 : Nat) ^ d ≤ 65536 := Nat.pow_le_pow_right (n := 2) (by omega) (show d ≤ 16 by omega)
    have hp1 : 1 ≤ (2 : Nat) ^ d := Nat.one_le_two_pow
    rw [n107]
    obtain ⟨a2, s2, b, h, h2, h3⟩ := one_ok hc (k := k) (by omega) h0 (by omega) s 20
    rw [h]
    simp only [R145_r]
    cases b
    · simp only [cond_false]
      cases d with
      | zero =>
        have e : decide (((0 : Nat) : Int) > 0) = false := rfl
        simp only [e, cond_false]
        obtain ⟨a3, s3, t, h, h4, h5, h6, h7⟩ := asked_base hc hw0 hw hv hv2 (k := k) (by omega) (at' := a2) (by omega) (by omega) s2
        rw [h]
        exact ⟨a3, s3, t, rfl, by omega, by omega, h6, by omega⟩
      | succ d =>
        have e : decide (((d + 1 : Nat) : Int) > 0) = true := by (simp; try omega)
        have e1 : IntKind.i64.wrap (((d + 1 : Nat) : Int) - 1) = (d : Int) := by rw [i64_id (by omega) (by omega)]; omega
        have e2 : (2 : Nat) ^ (d + 1) = 2 * 2 ^ d := by rw [Nat.pow_succ]; omega
        rw [e2] at h1 hp hp1 ⊢
        have ih := fun (a : Int) (h0 : 0 ≤ a) (h1 : a + (100 * 2 ^ d : Nat) ≤ 700000000) (s : W) => asked_ok hc hw0 hw hv hv2 d (k := k) (by omega) (by omega) h0 h1 s
        simp only [e, cond_true, e1]
        obtain ⟨a3, s3, b, h, h4, h5⟩ := one_ok hc (k := k) (by omega) (at' := a2) (by omega) (by omega) s2 4
        rw [h]
        simp only [R145_r]
        cases b
        · simp only [cond_false]
          obtain ⟨a4, s4, b, h, h6, h7⟩ := one_ok hc (k := k) (by omega) (at' := a3) (by omega) (by omega) s3 2
          rw [h]
          simp only [R145_r]
          cases b
          · simp only [cond_false]
            obtain ⟨a5, s5, t, h, h8, h9, h10, h11⟩ := asked_base hc hw0 hw hv hv2 (k := k) (by omega) (at' := a4) (by omega) (by omega) s4
            rw [h]
            exact ⟨a5, s5, t, rfl, by omega, by omega, h10, by omega⟩
          · simp only [cond_true]
            obtain ⟨a5, s5, t, h, h8, h9, h10, h11⟩ := ih a4 (by omega) (by omega) s4
            rw [h]
            simp only [R107_r]
            obtain ⟨a6, s6, u, h, h12, h13, h14, h15⟩ := ih a5 (by omega) (by omega) s5
            rw [h]
            simp only [R107_r]
            rw [lim_ok (by (simp; try omega)) (by omega)]
            simp only [cond_true]
            obtain ⟨a7, s7, w, h, h20, h21, _⟩ := among_ok hc (k := k) (by omega) (at' := a6) (by omega) (by omega) s6 [17, 18] (by simp)
            rw [show ([PV.int .i64 17, PV.int .i64 18] : List PV) = encZ [17, 18] from rfl, h]
            simp only [R128_r]
            rw [lim_ok (by (simp; try omega)) (by omega), take2]
            exact ⟨a7, s7, t ++ u ++ [(w, 0#64)], by simp [encT, encN, wi], by omega, by omega, by (simp; try omega), by (simp; try omega)⟩
        · simp only [cond_true]
          obtain ⟨a5, s5, t, h, h8, h9, h10, h11⟩ := ih a3 (by omega) (by omega) s3
          rw [h]
          simp only [R107_r]
          rw [lim_ok (by (simp; try omega)) (by omega), take1]
          exact ⟨a5, s5, t ++ [(19, 0#64)], by simp [encT, encN, wi], by omega, by omega, by simp, by (simp; try omega)⟩
    · simp only [cond_true]
      obtain ⟨a3, s3, v, h, h4, h5, _⟩ := pick_ok hc (k := k) (by omega) (at' := a2) (by omega) (by omega) s2 2
      rw [h]
      simp only [R143_r]
      rw [wrapU]
      exact ⟨a3, s3, [(20, BitVec.ofInt 64 v)], rfl, by omega, by omega, by simp, by (simp; try omega)⟩
end Go.Proofs.YtclkgblckicabaaGreat
