/- What the evaluator is told of the program's types, loops and functions: printed by nf.py. -/
import Derived.Test.YtocmjgfbcpgaoaaProg
import Derived.Test.YtocmjgfbcpgaoaaDp22
import Derived.Test.YtocmjgfbcpgaoaaSrt
namespace Go.Proofs.Ytocmjgfbcpgaoaa
open Go.Dp
def tabs : Tabs where
  sl := [(22, (5, 0, 1)), (24, (55, 2, 16)), (25, (28, 0, 8)), (34, (3, 0, 8))]
  sh := [(2, 0), (3, 0), (4, 0), (5, 0), (9, 0), (22, 0), (24, 0), (25, 0), (28, 0), (34, 0), (42, 0), (44, 3), (55, 2), (61, 0), (65, 0), (79, 0), (94, 0), (102, 0), (106, 0), (109, 0)]
  fl := [(44, [some (0, 0), some (1, 0), some (2, 0)]), (55, [some (0, 0), some (1, 0)])]
  ik := [(2, .i64), (3, .i64), (5, .u8), (28, .u64), (79, .u64), (94, .i64), (102, .u32), (106, .u64)]
  zr := [(2, [.int .i64 0]), (3, [.int .i64 0]), (4, [.bool false]), (5, [.int .u8 0]), (9, [.str ⟨#[]⟩]), (22, [.row 0 2 []]),
  (24, [.row 0 2 []]), (25, [.row 0 2 []]), (28, [.int .u64 0]), (34, [.row 0 2 []]), (44, [.row 0 2 [], .int .i64 0, .int .u64 0]), (55, [.int .i64 0, .int .u64 0]),
  (79, [.int .u64 0]), (94, [.int .i64 0]), (102, [.int .u32 0]), (106, [.int .u64 0])]
  eqs := [(55, [0, 0])]
  bl := [(4, ())]
  st := [(9, ())]
  flat := [(2, ()), (3, ()), (4, ()), (5, ()), (9, ()), (28, ()), (55, ()), (79, ()), (94, ()), (102, ()), (106, ())]
def tLive : List (Nat × List (Nat × List Nat)) := [(10, [(0, [0, 1, 12, 13])]), (13, [(0, [0, 1, 12, 13])]), (17, [(0, [0, 1, 2, 7, 8])]),
  (19, [(0, [0, 1, 7, 33, 34, 35])]), (20, [(0, [0, 2, 7, 12, 13, 14])]), (22, [(0, [0, 7, 8, 9])]),
  (24, [(0, [0, 1, 7, 8])]), (26, [(0, [3, 7, 8, 9])]), (29, [(0, [3, 6, 7, 8])]),
  (47, [(0, [0, 1, 7, 27, 28, 29]), (2, [0, 1, 7, 10, 11, 12, 27, 28, 29])]), (50, [(0, [0, 1, 5, 6])]), (52, [(0, [0, 5, 8])]),
  (53, [(0, [0, 8, 20, 21])]), (55, [(0, [0, 3]), (2, [0, 3, 4, 5])]), (56, [(0, [0, 1, 5])]),
  (58, [(0, [0, 3, 4])]), (59, [(0, [0, 1, 7, 8])]), (60, [(0, [0, 1, 7, 8])]),
  (69, [(0, [0, 1, 2, 3])]), (72, [(0, [0, 1, 2, 3, 8, 9])]), (75, [(0, [2, 8, 9, 10, 11, 13, 14, 15, 16]), (2, [2, 8, 9, 10, 14, 15, 16, 17, 18])]),
  (77, [(0, [0, 1, 2, 6]), (2, [0, 1, 2, 6, 7])]), (78, [(0, [0, 6, 7, 8, 9]), (2, [0, 6, 7, 10])]), (79, [(0, [0, 1, 6, 7, 8, 9])]),
  (81, [(0, [0, 6, 7])]), (82, [(0, [0, 1, 2, 7, 8]), (2, [0, 1, 2, 7, 8]), (4, [0, 1, 2, 7, 8, 9]), (6, [0, 1, 2, 7, 8, 10])]), (84, [(0, [0, 1, 9, 10]), (2, [0, 1, 9, 10]), (4, [0, 1, 9, 10])]),
  (85, [(0, [0, 1, 10, 11]), (2, [0, 1, 10, 11]), (4, [0, 1, 10, 11]), (6, [0, 1, 10, 11]), (8, [0, 1, 10, 11])]), (89, [(0, [0, 2, 3, 8])])]
def tRk : List (Nat × List RK) := [(3, [.c (.p (.bool))]), (4, [.c (.p (.bool))]), (5, [.c (.p (.int .i64)), .c (.p (.row 2)), .c (.p (.row 0))]), (6, [.c (.p (.int .u64)), .c (.p (.bool))]), (7, [.c (.p (.int .u64)), .c (.p (.bool))]), (8, [.c (.p (.row 2)), .c (.p (.bool))]),
  (9, [.c (.p (.row 2)), .c (.p (.bool))]), (10, [.c (.p (.bool))]), (11, [.c (.p (.row 0)), .c (.p (.bool))]), (12, [.c (.p (.int .i64)), .c (.p (.bool))]), (13, [.c (.p (.bool))]), (14, [.c (.p (.int .i64)), .c (.p (.int .i64)), .c (.p (.row 2))]),
  (15, [.c (.p (.row 0)), .c (.p (.bool))]), (16, [.c (.p (.int .i64)), .c (.p (.int .i64)), .c (.p (.row 2))]), (17, [.c (.own 28 0)]), (18, [.c (.p (.bool))]), (19, [.c (.p (.bool))]), (20, [.c (.p (.int .u64))]),
  (21, [.c (.p (.bool))]), (22, [.c (.p (.bool))]), (23, [.c (.p (.int .u64))]), (24, [.c (.own 55 2)]), (25, [.c (.own 55 2)]), (26, [.c (.own 3 0)]),
  (27, [.c (.p (.int .i64))]), (28, [.c (.p (.int .i64)), .c (.p (.int .i64)), .c (.p (.row 2))]), (29, [.c (.p (.row 0))]), (30, [.c (.p (.int .i64))]), (31, [.c (.p (.int .i64))]), (32, [.c (.own 55 2)]),
  (33, [.c (.p (.bool))]), (34, [.c (.own 55 2)]), (35, [.c (.p (.int .u64))]), (36, [.c (.p (.bool))]), (37, [.c (.p (.bool))]), (38, [.c (.p (.bool))]),
  (39, [.c (.p (.bool))]), (40, [.c (.p (.bool))]), (41, [.c (.p (.int .i64)), .c (.p (.int .i64)), .c (.p (.int .i64))]), (42, [.c (.p (.bool))]), (43, [.c (.p (.bool))]), (44, [.c (.p (.bool))]),
  (45, [.c (.p (.int .u64))]), (46, [.c (.p (.int .u64))]), (47, [.c (.p (.int .i64))]), (48, [.c (.p (.bool))]), (49, [.c (.p (.int .i64)), .c (.p (.int .i64)), .c (.p (.int .i64))]), (50, [.c (.p (.int .u64))]),
  (51, [.c (.p (.int .u64))]), (52, [.c (.p (.int .i64))]), (53, [.c (.p (.int .i64))]), (55, [.c (.p (.row 0))]), (56, [.c (.p (.row 0))]), (57, [.c (.p (.int .i64))]),
  (58, [.c (.p (.int .u64))]), (59, [.c (.p (.int .i64))]), (60, [.c (.p (.int .i64))]), (61, [.c (.p (.int .u64)), .c (.p (.int .u64)), .c (.p (.bool))]), (62, [.c (.p (.int .u64))]), (63, [.c (.p (.int .u64))]),
  (64, [.c (.p (.int .i64))]), (65, [.c (.p (.bool))]), (66, [.c (.p (.bool))]), (67, [.c (.p (.bool))]), (68, [.c (.p (.int .u64)), .c (.p (.int .u64)), .c (.p (.bool))]), (69, [.c (.p (.int .u64))]),
  (70, [.c (.p (.int .u64))]), (71, [.c (.p (.int .i64))]), (73, [.c (.p (.int .i64))]), (74, [.c (.p (.bool))]), (75, [.c (.p (.int .u64)), .c (.p (.int .u64))]), (76, [.c (.p (.bool))]),
  (80, [.c (.p (.int .i64)), .c (.p (.int .i64))]), (82, [.c (.p (.bool))]), (83, [.c (.p (.bool))]), (84, [.c (.p (.int .i64))]), (85, [.c (.p (.int .i64)), .c (.p (.bool))]), (86, [.c (.p (.int .i64))]),
  (87, [.c (.p (.int .i64))]), (88, [.c (.p (.int .i64))]), (90, [.c (.p (.int .u64))]), (91, [.c (.p (.int .u64))]), (92, [.c (.p (.int .i64))]), (93, [.c (.p (.int .i64))]),
  (94, [.c (.p (.bool))]), (95, [.c (.p (.int .i64)), .c (.p (.int .i64))])]
def tBk : List (Nat × List (List Kind)) := [(16, [[.p (.row 0), .p (.int .i64), .p (.int .u64)]]), (17, [[.p (.row 0), .p (.int .i64), .p (.int .u64)]]), (30, [[.p (.row 0), .p (.int .i64), .p (.int .u64)]]), (31, [[.p (.row 0), .p (.int .i64), .p (.int .u64)]]), (32, [[.p (.row 0), .p (.int .i64), .p (.int .u64)]]), (33, [[.p (.row 0), .p (.int .i64), .p (.int .u64)]]),
  (34, [[.p (.row 0), .p (.int .i64), .p (.int .u64)]]), (35, [[.p (.row 0), .p (.int .i64), .p (.int .u64)]]), (38, [[.p (.int .i64)]]), (39, [[.p (.int .i64)]]), (43, [[.p (.int .i64)]]), (44, [[.p (.int .i64)]]),
  (57, [[.p (.row 0), .p (.int .i64), .p (.int .u64)]]), (58, [[.p (.row 0), .p (.int .i64), .p (.int .u64)]]), (59, [[.p (.int .i64)]]), (60, [[.p (.int .i64)]]), (91, [[.p (.int .u64)]]), (92, [[.p (.int .i64)]]),
  (93, [[.p (.int .i64)]]), (95, [[.p (.int .i64)]])]
def tPlain : List (Nat × Unit) := [(3, ()), (4, ()), (6, ()), (7, ()), (10, ()), (12, ()), (13, ()), (18, ()), (19, ()), (20, ()), (21, ()), (22, ()),
  (23, ()), (24, ()), (25, ()), (26, ()), (27, ()), (36, ()), (37, ()), (38, ()), (39, ()), (40, ()), (41, ()), (42, ()),
  (43, ()), (44, ()), (45, ()), (46, ()), (47, ()), (48, ()), (49, ()), (50, ()), (51, ()), (52, ()), (53, ()), (59, ()),
  (60, ()), (61, ()), (62, ()), (63, ()), (64, ()), (65, ()), (66, ()), (67, ()), (68, ()), (69, ()), (70, ()), (71, ()),
  (73, ()), (74, ()), (75, ()), (76, ()), (80, ()), (82, ()), (83, ()), (84, ()), (85, ()), (86, ()), (87, ()), (88, ()),
  (90, ()), (91, ()), (92, ()), (93, ()), (94, ()), (95, ())]
def tCt : List (Nat × CT) := [(2, .one (.int .i64)), (3, .one (.int .i64)), (4, .one (.bool)), (5, .one (.int .u8)), (9, .one (.str)), (22, .one (.row 0)),
  (24, .one (.row 2)), (25, .one (.row 0)), (28, .one (.int .u64)), (34, .one (.row 0)), (44, .agg [.row 0, .int .i64, .int .u64]), (55, .agg [.int .i64, .int .u64]),
  (79, .one (.int .u64)), (94, .one (.int .i64)), (102, .one (.int .u32)), (106, .one (.int .u64))]
def tAk : List (Nat × List CT) := [(3, [.one (.row 0), .one (.row 0)]), (4, [.one (.row 0), .one (.row 0)]), (5, [.one (.row 0)]), (6, [.one (.int .i64), .one (.row 2), .one (.row 0)]), (7, [.one (.int .i64), .one (.row 2), .one (.row 0)]), (8, [.one (.int .i64), .one (.int .i64), .one (.row 2)]),
  (9, [.one (.int .i64), .one (.int .i64), .one (.row 2)]), (10, [.one (.row 2), .one (.row 2)]), (11, [.one (.int .i64), .one (.int .i64), .one (.row 2)]), (12, [.one (.int .i64), .one (.int .i64), .one (.row 2)]), (13, [.one (.row 0), .one (.row 0)]), (14, [.one (.row 0)]),
  (15, [.one (.int .i64), .one (.int .i64), .one (.row 2)]), (16, [.one (.any)]), (17, [.one (.any), .one (.int .i64), .one (.int .i64)]), (18, [.one (.int .i64), .one (.int .i64), .one (.row 0)]), (19, [.one (.int .i64), .one (.int .i64), .one (.row 2)]), (20, [.one (.int .i64), .one (.row 2), .one (.row 0)]),
  (21, [.one (.int .i64), .one (.int .i64), .one (.row 2)]), (22, [.one (.int .i64), .one (.row 0)]), (23, [.one (.int .i64), .one (.row 2), .one (.int .i64), .one (.row 0)]), (24, [.one (.int .i64), .one (.row 2)]), (25, [.one (.int .i64), .one (.row 2), .one (.int .i64)]), (26, [.one (.row 2)]),
  (27, [.one (.row 2)]), (28, [.one (.row 0)]), (29, [.one (.row 2)]), (30, [.one (.any), .one (.row 0)]), (31, [.one (.any), .one (.int .i64)]), (32, [.one (.any), .one (.int .i64), .one (.int .i64), .one (.int .i64)]),
  (33, [.one (.any), .one (.int .i64)]), (34, [.one (.any), .one (.int .i64), .one (.int .i64), .one (.int .i64)]), (35, [.one (.any), .one (.int .i64)]), (36, [.one (.int .i64)]), (37, [.one (.int .i64)]), (38, [.one (.row 0), .one (.any)]),
  (39, [.one (.int .u64)]), (40, [.one (.int .i64), .one (.int .u64)]), (41, [.one (.int .i64)]), (42, [.one (.int .i64), .one (.int .i64), .agg [.int .i64, .int .u64]]), (43, [.one (.row 0), .one (.any)]), (44, [.one (.int .i64)]),
  (45, [.one (.int .i64)]), (46, [.one (.int .i64), .one (.int .i64), .one (.int .u64), .one (.int .u64)]), (47, [.one (.int .i64), .one (.int .i64), .one (.row 2)]), (48, [.one (.int .i64), .one (.int .u64)]), (49, [.one (.int .i64)]), (50, [.one (.int .i64), .one (.int .u64)]),
  (51, [.one (.int .i64), .one (.int .i64), .one (.int .u64), .one (.int .u64)]), (52, [.one (.row 2), .one (.int .i64)]), (53, [.one (.row 2), .one (.int .i64)]), (54, [.one (.row 0)]), (55, [.one (.row 0)]), (56, [.one (.row 0), .one (.int .i64)]),
  (57, [.one (.any)]), (58, [.one (.any)]), (59, [.one (.row 0), .one (.any)]), (60, [.one (.row 0), .one (.any)]), (61, [.one (.int .i64), .one (.int .u64), .one (.int .u64)]), (62, [.one (.int .i64), .one (.int .u64), .one (.int .u64), .one (.bool)]),
  (63, [.one (.bool)]), (64, [.one (.int .i64), .one (.int .u64)]), (65, [.one (.int .i64)]), (66, [.one (.int .i64), .one (.int .i64), .one (.int .i64)]), (67, [.one (.int .i64), .one (.int .i64), .agg [.int .i64, .int .u64]]), (68, [.one (.int .i64), .one (.int .u64), .one (.int .u64)]),
  (69, [.one (.int .i64), .one (.int .u64), .one (.int .u64), .one (.bool)]), (70, [.one (.bool)]), (71, [.one (.int .i64), .one (.int .u64)]), (72, [.one (.row 0), .one (.int .i64), .one (.int .i64), .one (.int .i64)]), (73, [.one (.int .u64)]), (74, [.one (.int .i64), .one (.int .u64), .one (.int .u64)]),
  (75, [.one (.int .u64), .one (.int .u64), .one (.int .u64)]), (76, [.one (.int .i64), .one (.int .u64), .one (.int .u64)]), (77, [.one (.row 0), .one (.int .i64), .one (.int .i64)]), (78, [.one (.row 0), .one (.int .i64), .one (.int .i64)]), (79, [.one (.row 0), .one (.int .i64), .one (.int .i64)]), (80, [.one (.row 0), .one (.int .i64), .one (.int .i64)]),
  (81, [.one (.row 0), .one (.int .i64), .one (.int .i64)]), (82, [.one (.row 0), .one (.int .i64), .one (.int .i64)]), (83, [.one (.int .i64), .one (.int .i64)]), (84, [.one (.row 0), .one (.int .i64), .one (.int .i64), .one (.int .i64)]), (85, [.one (.row 0), .one (.int .i64), .one (.int .i64), .one (.int .i64)]), (86, [.one (.int .u32)]),
  (87, [.one (.int .u64)]), (88, [.one (.int .u64)]), (89, [.one (.row 0), .one (.int .i64), .one (.int .i64), .one (.int .i64)]), (90, [.one (.int .i64)]), (91, [.one (.any)]), (92, [.one (.row 0), .one (.int .i64), .one (.any)]),
  (93, [.one (.row 0), .one (.int .i64), .one (.int .i64), .one (.int .i64), .one (.any)]), (94, [.one (.int .i64)]), (95, [.one (.row 0), .one (.int .i64), .one (.int .i64), .one (.any)])]
def tOwn : List (Nat × List (Nat × List (Option Nat × Nat × Et × Nat))) := [(17, [(0, [(none, 7, 28, 0)])]), (29, [(0, [(none, 3, 3, 0)])]), (47, [(0, [(none, 7, 3, 0)])])]
def tCut : List (Nat × List (Nat × List Nat)) := []
def tNest : List (Nat × Kd) := []
def tSorts : List (Nat × Nat) := [(54, 1), (55, 2)]
theorem sortsOK : ∀ g n, (g, n) ∈ tSorts → SortOK Try.prog n g := by
  intro g n h
  simp only [tSorts, List.mem_cons, Prod.mk.injEq, List.not_mem_nil, or_false] at h
  rcases h with ⟨rfl, rfl⟩ | ⟨rfl, rfl⟩
  · exact sort_ok
  · exact comp_ok
noncomputable def E : Env := tabs.env tLive tRk tBk tPlain tCt tAk tOwn tCut tNest tSorts
theorem envOK : EnvOK Try.prog E := Tabs.sound (by kernel_rfl) sortsOK
noncomputable def pTab : List (Nat × Func) := [(2, Try.f2), (3, Try.f3), (4, Try.f4), (5, Try.f5), (6, Try.f6), (7, Try.f7), (8, Try.f8), (9, Try.f9), (10, Try.f10), (11, Try.f11), (12, Try.f12), (13, Try.f13),
  (14, Try.f14), (15, Try.f15), (16, Try.f16), (17, Try.f17), (18, Try.f18), (19, Try.f19), (20, Try.f20), (21, Try.f21), (22, Try.f22), (23, Try.f23), (24, Try.f24), (25, Try.f25),
  (26, Try.f26), (27, Try.f27), (28, Try.f28), (29, Try.f29), (30, Try.f30), (31, Try.f31), (32, Try.f32), (33, Try.f33), (34, Try.f34), (35, Try.f35), (36, Try.f36), (37, Try.f37),
  (38, Try.f38), (39, Try.f39), (40, Try.f40), (41, Try.f41), (42, Try.f42), (43, Try.f43), (44, Try.f44), (45, Try.f45), (46, Try.f46), (47, Try.f47), (48, Try.f48), (49, Try.f49),
  (50, Try.f50), (51, Try.f51), (52, Try.f52), (53, Try.f53), (54, Try.f54), (55, Try.f55), (56, Try.f56), (57, Try.f57), (58, Try.f58), (59, Try.f59), (60, Try.f60), (61, Try.f61),
  (62, Try.f62), (63, Try.f63), (64, Try.f64), (65, Try.f65), (66, Try.f66), (67, Try.f67), (68, Try.f68), (69, Try.f69), (70, Try.f70), (71, Try.f71), (72, Try.f72), (73, Try.f73),
  (74, Try.f74), (75, Try.f75), (76, Try.f76), (77, Try.f77), (78, Try.f78), (79, Try.f79), (80, Try.f80), (81, Try.f81), (82, Try.f82), (83, Try.f83), (84, Try.f84), (85, Try.f85),
  (86, Try.f86), (87, Try.f87), (88, Try.f88), (89, Try.f89), (90, Try.f90), (91, Try.f91), (92, Try.f92), (93, Try.f93), (94, Try.f94), (95, Try.f95)]
noncomputable def P : FuncId → Option Func := lk pTab
theorem pOK : PfOK Try.prog P := pfOK_of (tab := pTab)
  (pfOK_cons Try.func2 (pfOK_cons Try.func3 (pfOK_cons Try.func4 (pfOK_cons Try.func5 (pfOK_cons Try.func6 (pfOK_cons Try.func7 (pfOK_cons Try.func8 (pfOK_cons Try.func9 
  (pfOK_cons Try.func10 (pfOK_cons Try.func11 (pfOK_cons Try.func12 (pfOK_cons Try.func13 (pfOK_cons Try.func14 (pfOK_cons Try.func15 (pfOK_cons Try.func16 (pfOK_cons Try.func17 
  (pfOK_cons Try.func18 (pfOK_cons Try.func19 (pfOK_cons Try.func20 (pfOK_cons Try.func21 (pfOK_cons Try.func22 (pfOK_cons Try.func23 (pfOK_cons Try.func24 (pfOK_cons Try.func25 
  (pfOK_cons Try.func26 (pfOK_cons Try.func27 (pfOK_cons Try.func28 (pfOK_cons Try.func29 (pfOK_cons Try.func30 (pfOK_cons Try.func31 (pfOK_cons Try.func32 (pfOK_cons Try.func33 
  (pfOK_cons Try.func34 (pfOK_cons Try.func35 (pfOK_cons Try.func36 (pfOK_cons Try.func37 (pfOK_cons Try.func38 (pfOK_cons Try.func39 (pfOK_cons Try.func40 (pfOK_cons Try.func41 
  (pfOK_cons Try.func42 (pfOK_cons Try.func43 (pfOK_cons Try.func44 (pfOK_cons Try.func45 (pfOK_cons Try.func46 (pfOK_cons Try.func47 (pfOK_cons Try.func48 (pfOK_cons Try.func49 
  (pfOK_cons Try.func50 (pfOK_cons Try.func51 (pfOK_cons Try.func52 (pfOK_cons Try.func53 (pfOK_cons Try.func54 (pfOK_cons Try.func55 (pfOK_cons Try.func56 (pfOK_cons Try.func57 
  (pfOK_cons Try.func58 (pfOK_cons Try.func59 (pfOK_cons Try.func60 (pfOK_cons Try.func61 (pfOK_cons Try.func62 (pfOK_cons Try.func63 (pfOK_cons Try.func64 (pfOK_cons Try.func65 
  (pfOK_cons Try.func66 (pfOK_cons Try.func67 (pfOK_cons Try.func68 (pfOK_cons Try.func69 (pfOK_cons Try.func70 (pfOK_cons Try.func71 (pfOK_cons Try.func72 (pfOK_cons Try.func73 
  (pfOK_cons Try.func74 (pfOK_cons Try.func75 (pfOK_cons Try.func76 (pfOK_cons Try.func77 (pfOK_cons Try.func78 (pfOK_cons Try.func79 (pfOK_cons Try.func80 (pfOK_cons Try.func81 
  (pfOK_cons Try.func82 (pfOK_cons Try.func83 (pfOK_cons Try.func84 (pfOK_cons Try.func85 (pfOK_cons Try.func86 (pfOK_cons Try.func87 (pfOK_cons Try.func88 (pfOK_cons Try.func89 
  (pfOK_cons Try.func90 (pfOK_cons Try.func91 (pfOK_cons Try.func92 (pfOK_cons Try.func93 (pfOK_cons Try.func94 (pfOK_cons Try.func95 pfOK_nil))))))))))))))))))))))))))))))))))))))))))))))))))))))))))))))))))))))))))))))))))))))))))))))
  (by kernel_rfl)
def clones : List (Nat × (Nat × Nat × Nat)) := []
theorem hT0 : ∀ f args bs r, cloneT clones f args bs = some r → Contract Try.prog f args bs r := by
  refine cloneT_ok fun f e sh by_ hm xs h1 h2 => ?_
  have h0 : ∀ f args bs r, (fun (_ : FuncId) (_ : List AV) (_ : List (List CV)) => (none : R)) f args bs = some r → Contract Try.prog f args bs r := fun _ _ _ _ h => by cases h
  simp only [clones, List.mem_cons, List.not_mem_nil, or_false, Prod.mk.injEq] at hm
def T : FuncId → List AV → List (List CV) → R := cloneT clones
theorem hT : ∀ f args bs r, T f args bs = some r → Contract Try.prog f args bs r := hT0
end Go.Proofs.Ytocmjgfbcpgaoaa
