/- Env; Cs; Nf0; Nf1; Nf2; Nf3; Nf4; Kb; Kc; Kd; Pa; Ke; Kf; Kg; Kh; Ki: texts put together. -/
import Derived.Test.YtclkgblckicabaaProg
import Derived.Test.YtclkgblckicabaaM2
/- What the evaluator is told of the program's types, loops and functions: printed by nf.py. -/
namespace Go.Proofs.Ytclkgblckicabaa
open Go.Dp
def tabs : Tabs where
  sl := [(22, (5, 0, 1)), (24, (68, 2, 16)), (25, (30, 2, 16)), (34, (28, 0, 8)), (63, (3, 0, 8))]
  sh := [(2, 0), (3, 0), (4, 0), (5, 0), (9, 0), (22, 0), (24, 0), (25, 0), (28, 0), (30, 2), (34, 0), (43, 0), (45, 3), (55, 0), (63, 0), (66, 0), (68, 2), (70, 0), (90, 0)]
  fl := [(30, [some (0, 0), some (1, 0)]), (45, [some (0, 0), some (1, 0), some (2, 0)]), (68, [some (0, 0), some (1, 0)])]
  ik := [(2, .i64), (3, .i64), (5, .u8), (28, .u64), (90, .u64)]
  zr := [(2, [.int .i64 0]), (3, [.int .i64 0]), (4, [.bool false]), (5, [.int .u8 0]), (9, [.str ⟨#[]⟩]), (22, [.row 0 2 []]),
  (24, [.row 0 2 []]), (25, [.row 0 2 []]), (28, [.int .u64 0]), (30, [.int .u64 0, .int .u64 0]), (34, [.row 0 2 []]), (45, [.row 0 2 [], .int .i64 0, .int .u64 0]),
  (63, [.row 0 2 []]), (68, [.int .i64 0, .int .u64 0]), (90, [.int .u64 0])]
  eqs := [(30, [0, 0]), (68, [0, 0])]
  bl := [(4, ())]
  st := [(9, ())]
  flat := [(2, ()), (3, ()), (4, ()), (5, ()), (9, ()), (28, ()), (30, ()), (68, ()), (90, ())]
def tLive : List (Nat × List (Nat × List Nat)) := [(3, [(0, [1, 5, 6, 7, 8, 12, 73, 74, 75])]), (9, [(0, [3, 6, 7, 8])]), (10, [(0, [2, 22, 23, 24])]),
  (18, [(0, [0, 1, 2, 7, 8])]), (20, [(0, [0, 1, 7, 33, 34, 35])]), (21, [(0, [2, 6, 7, 8, 16, 17, 18])]),
  (23, [(0, [0, 11, 12, 13])]), (28, [(0, [0, 2, 7, 12, 13, 14])]), (52, [(0, [0, 1, 7, 27, 28, 29]), (2, [0, 1, 7, 10, 11, 12, 27, 28, 29])]),
  (55, [(0, [0, 1, 5, 6])]), (56, [(0, [0, 5, 8])]), (65, [(0, [0, 1, 7, 8])]),
  (66, [(0, [0, 1, 7, 8])]), (73, [(0, [0, 1, 7, 8])]), (78, [(0, [0, 3, 4])]),
  (83, [(0, [2, 8, 9, 10, 11, 13, 14, 15, 16]), (2, [2, 8, 9, 10, 14, 15, 16, 17, 18])])]
def tRk : List (Nat × List RK) := [(3, [.c (.p (.bool))]), (4, [.c (.p (.bool))]), (5, [.c (.p (.int .i64)), .c (.p (.row 2)), .c (.p (.row 2))]), (6, [.agg [.p (.int .u64), .p (.int .u64)], .c (.p (.bool))]), (7, [.agg [.p (.int .u64), .p (.int .u64)], .c (.p (.bool))]), (8, [.c (.p (.bool))]),
  (9, [.c (.p (.int .i64))]), (10, [.c (.p (.bool)), .c (.p (.bool))]), (11, [.c (.p (.int .u64)), .c (.p (.bool))]), (12, [.c (.p (.int .i64)), .agg [.p (.int .u64), .p (.int .u64)], .agg [.p (.int .u64), .p (.int .u64)]]), (13, [.agg [.p (.int .u64), .p (.int .u64)], .c (.p (.bool))]), (14, [.agg [.p (.int .u64), .p (.int .u64)], .c (.p (.bool))]),
  (15, [.agg [.p (.int .u64), .p (.int .u64)], .c (.p (.bool))]), (16, [.agg [.p (.int .u64), .p (.int .u64)], .c (.p (.bool))]), (17, [.c (.p (.int .i64)), .c (.p (.int .i64)), .c (.p (.row 2))]), (18, [.c (.p (.row 2))]), (19, [.c (.p (.bool))]), (20, [.c (.p (.bool))]),
  (21, [.agg [.p (.int .u64), .p (.int .u64)]]), (22, [.c (.p (.bool))]), (23, [.c (.p (.bool))]), (24, [.agg [.p (.int .u64), .p (.int .u64)]]), (25, [.c (.p (.bool))]), (26, [.c (.p (.bool))]),
  (27, [.c (.p (.bool))]), (28, [.c (.p (.int .u64))]), (29, [.c (.p (.int .i64))]), (30, [.agg [.p (.int .u64), .p (.int .u64)]]), (31, [.agg [.p (.int .u64), .p (.int .u64)]]), (32, [.c (.p (.bool))]),
  (33, [.agg [.p (.int .u64), .p (.int .u64)]]), (34, [.agg [.p (.int .u64), .p (.int .u64)], .c (.p (.bool))]), (35, [.c (.p (.int .u64))]), (36, [.c (.p (.int .u64))]), (37, [.c (.p (.int .i64))]), (38, [.c (.p (.int .i64))]),
  (39, [.c (.own 68 2)]), (40, [.c (.p (.bool))]), (41, [.c (.own 68 2)]), (42, [.c (.p (.bool))]), (43, [.c (.p (.bool))]), (44, [.c (.p (.bool))]),
  (45, [.c (.p (.bool))]), (46, [.c (.p (.int .i64)), .c (.p (.int .i64)), .c (.p (.int .i64))]), (47, [.c (.p (.bool))]), (48, [.c (.p (.bool))]), (49, [.c (.p (.bool))]), (50, [.c (.p (.int .u64))]),
  (51, [.agg [.p (.int .u64), .p (.int .u64)]]), (52, [.c (.p (.int .i64))]), (53, [.c (.p (.bool))]), (54, [.c (.p (.int .i64)), .c (.p (.int .i64)), .c (.p (.int .i64))]), (55, [.c (.p (.int .u64))]), (56, [.c (.p (.int .i64))]),
  (57, [.agg [.p (.int .u64), .p (.int .u64)]]), (58, [.agg [.p (.int .u64), .p (.int .u64)]]), (59, [.c (.p (.bool))]), (60, [.c (.p (.bool))]), (61, [.c (.p (.int .u64))]), (62, [.c (.p (.int .u64))]),
  (63, [.c (.p (.bool))]), (64, [.c (.p (.int .i64))]), (65, [.c (.p (.int .i64))]), (66, [.c (.p (.int .i64))]), (67, [.agg [.p (.int .u64), .p (.int .u64)]]), (68, [.agg [.p (.int .u64), .p (.int .u64)]]),
  (69, [.agg [.p (.int .u64), .p (.int .u64)]]), (70, [.c (.p (.bool))]), (71, [.c (.p (.bool))]), (72, [.c (.p (.bool))]), (73, [.c (.p (.int .i64))]), (74, [.c (.p (.int .u64)), .c (.p (.int .u64)), .c (.p (.bool))]),
  (75, [.c (.p (.int .u64))]), (76, [.c (.p (.int .u64))]), (77, [.c (.p (.int .i64))]), (78, [.c (.p (.int .u64))]), (79, [.c (.p (.bool))]), (81, [.c (.p (.int .u64)), .c (.p (.int .u64))]),
  (82, [.c (.p (.bool))]), (83, [.c (.p (.int .u64)), .c (.p (.int .u64))]), (84, [.c (.p (.int .i64))]), (85, [.c (.p (.int .i64))])]
def tBk : List (Nat × List (List Kind)) := [(17, [[.p (.row 0), .p (.int .i64), .p (.int .u64)]]), (18, [[.p (.row 0), .p (.int .i64), .p (.int .u64)]]), (29, [[.p (.row 0), .p (.int .i64), .p (.int .u64)]]), (30, [[.p (.row 0), .p (.int .i64), .p (.int .u64)]]), (37, [[.p (.row 0), .p (.int .i64), .p (.int .u64)]]), (38, [[.p (.row 0), .p (.int .i64), .p (.int .u64)]]),
  (39, [[.p (.row 0), .p (.int .i64), .p (.int .u64)]]), (40, [[.p (.row 0), .p (.int .i64), .p (.int .u64)]]), (41, [[.p (.row 0), .p (.int .i64), .p (.int .u64)]]), (49, [[.p (.int .i64)]]), (60, [[.p (.int .i64)]]), (62, [[.p (.row 0), .p (.int .i64), .p (.int .u64)]]),
  (64, [[.p (.row 0), .p (.int .i64), .p (.int .u64)]]), (78, [[.p (.row 0), .p (.int .i64), .p (.int .u64)]]), (50048, [[.p (.int .i64)]]), (50066, [[.p (.int .i64)]]), (61059, [[.p (.int .i64)]]), (61073, [[.p (.int .i64)]])]
def tPlain : List (Nat × Unit) := [(3, ()), (4, ()), (6, ()), (7, ()), (8, ()), (9, ()), (10, ()), (11, ()), (12, ()), (13, ()), (14, ()), (15, ()),
  (16, ()), (19, ()), (20, ()), (21, ()), (22, ()), (23, ()), (24, ()), (25, ()), (26, ()), (27, ()), (28, ()), (31, ()),
  (32, ()), (33, ()), (34, ()), (35, ()), (36, ()), (42, ()), (44, ()), (45, ()), (46, ()), (47, ()), (49, ()), (50, ()),
  (51, ()), (52, ()), (53, ()), (54, ()), (55, ()), (56, ()), (57, ()), (58, ()), (60, ()), (61, ()), (63, ()), (67, ()),
  (68, ()), (69, ()), (70, ()), (71, ()), (72, ()), (74, ()), (75, ()), (76, ()), (77, ()), (79, ()), (81, ()), (82, ()),
  (83, ()), (84, ()), (85, ()), (50048, ()), (50066, ()), (61059, ()), (61073, ())]
def tCt : List (Nat × CT) := [(2, .one (.int .i64)), (3, .one (.int .i64)), (4, .one (.bool)), (5, .one (.int .u8)), (9, .one (.str)), (22, .one (.row 0)),
  (24, .one (.row 2)), (25, .one (.row 2)), (28, .one (.int .u64)), (30, .agg [.int .u64, .int .u64]), (34, .one (.row 0)), (45, .agg [.row 0, .int .i64, .int .u64]),
  (63, .one (.row 0)), (68, .agg [.int .i64, .int .u64]), (90, .one (.int .u64))]
def tAk : List (Nat × List CT) := [(3, [.one (.row 0), .one (.row 0)]), (4, [.one (.row 0), .one (.row 0)]), (5, [.one (.row 0)]), (6, [.one (.int .i64), .one (.row 2), .one (.row 2)]), (7, [.one (.int .i64), .one (.row 2), .one (.row 2)]), (8, [.one (.int .i64), .agg [.int .u64, .int .u64]]),
  (9, [.one (.row 0)]), (10, [.one (.int .i64), .one (.row 2), .one (.row 0)]), (11, [.one (.int .i64), .one (.row 2), .one (.row 0)]), (12, [.one (.row 0)]), (13, [.one (.int .i64), .agg [.int .u64, .int .u64], .agg [.int .u64, .int .u64]]), (14, [.one (.int .i64), .agg [.int .u64, .int .u64], .agg [.int .u64, .int .u64]]),
  (15, [.one (.int .i64), .agg [.int .u64, .int .u64], .agg [.int .u64, .int .u64]]), (16, [.one (.int .i64), .agg [.int .u64, .int .u64], .agg [.int .u64, .int .u64]]), (17, [.one (.any)]), (18, [.one (.any), .one (.int .i64), .one (.int .i64)]), (19, [.one (.int .i64), .one (.row 2)]), (20, [.one (.int .i64), .one (.int .i64), .one (.row 2)]),
  (21, [.one (.int .i64), .one (.row 2), .one (.row 2)]), (22, [.one (.int .i64), .one (.int .i64), .one (.row 2)]), (23, [.one (.int .i64), .one (.row 2)]), (24, [.one (.int .i64), .one (.row 2), .one (.int .i64), .one (.row 2)]), (25, [.one (.int .i64), .one (.int .u64)]), (26, [.one (.int .i64), .one (.int .i64), .one (.row 0)]),
  (27, [.agg [.int .u64, .int .u64], .one (.int .u64)]), (28, [.one (.int .i64), .one (.row 2), .one (.row 0)]), (29, [.one (.any)]), (30, [.one (.any), .one (.int .i64)]), (31, [.agg [.int .u64, .int .u64], .agg [.int .u64, .int .u64]]), (32, [.one (.int .i64), .agg [.int .u64, .int .u64]]),
  (33, [.agg [.int .u64, .int .u64], .agg [.int .u64, .int .u64]]), (34, [.agg [.int .u64, .int .u64], .agg [.int .u64, .int .u64]]), (35, [.one (.int .u64), .one (.int .u64)]), (36, [.one (.int .u64), .one (.int .u64)]), (37, [.one (.any), .one (.row 0)]), (38, [.one (.any), .one (.int .i64)]),
  (39, [.one (.any), .one (.int .i64), .one (.int .i64), .one (.int .i64)]), (40, [.one (.any), .one (.int .i64)]), (41, [.one (.any), .one (.int .i64), .one (.int .i64), .one (.int .i64)]), (42, [.one (.int .i64)]), (43, [.one (.row 2), .one (.any)]), (44, [.agg [.int .u64, .int .u64]]),
  (45, [.one (.int .i64)]), (46, [.one (.int .i64)]), (47, [.one (.int .i64), .one (.int .i64), .agg [.int .i64, .int .u64]]), (48, [.one (.row 0), .one (.any)]), (49, [.one (.int .i64)]), (50, [.one (.int .i64)]),
  (51, [.one (.int .i64), .agg [.int .u64, .int .u64], .agg [.int .u64, .int .u64], .agg [.int .u64, .int .u64]]), (52, [.one (.int .i64), .one (.int .i64), .one (.row 2)]), (53, [.one (.int .i64), .one (.int .i64), .one (.int .i64)]), (54, [.one (.int .i64)]), (55, [.one (.int .i64), .one (.int .u64)]), (56, [.one (.row 2), .one (.int .i64)]),
  (57, [.one (.int .i64), .one (.int .i64), .agg [.int .u64, .int .u64], .agg [.int .u64, .int .u64]]), (58, [.one (.int .i64), .agg [.int .u64, .int .u64], .agg [.int .u64, .int .u64]]), (59, [.one (.row 0), .one (.any)]), (60, [.one (.int .u64)]), (61, [.one (.int .i64), .one (.int .i64), .one (.int .u64), .one (.int .u64)]), (62, [.one (.any), .one (.int .i64)]),
  (63, [.one (.int .i64), .one (.int .u64), .one (.int .u64)]), (64, [.one (.any)]), (65, [.one (.row 2), .one (.any)]), (66, [.one (.row 0), .one (.any)]), (67, [.agg [.int .u64, .int .u64], .agg [.int .u64, .int .u64], .agg [.int .u64, .int .u64]]), (68, [.agg [.int .u64, .int .u64], .agg [.int .u64, .int .u64], .agg [.int .u64, .int .u64]]),
  (69, [.one (.bool), .one (.bool)]), (70, [.one (.int .i64)]), (71, [.one (.int .i64), .one (.int .i64), .agg [.int .i64, .int .u64]]), (72, [.one (.int .i64), .one (.int .u64), .one (.int .u64)]), (73, [.one (.row 0), .one (.any)]), (74, [.one (.int .i64), .one (.int .u64), .one (.int .u64)]),
  (75, [.one (.int .i64), .one (.int .u64), .one (.int .u64), .one (.bool)]), (76, [.one (.bool)]), (77, [.one (.int .i64), .one (.int .u64)]), (78, [.one (.any)]), (79, [.one (.int .i64), .one (.int .u64)]), (81, [.one (.int .u64), .one (.int .u64)]),
  (82, [.one (.int .i64), .one (.int .u64), .one (.int .u64)]), (83, [.one (.int .u64), .one (.int .u64), .one (.int .u64)]), (84, [.one (.int .u64)]), (85, [.one (.int .u64)])]
def tOwn : List (Nat × List (Nat × List (Option Nat × Nat × Et × Nat))) := [(3, [(0, [(none, 12, 28, 0)])]), (18, [(0, [(none, 7, 30, 2)])]), (52, [(0, [(none, 7, 3, 0)])])]
def tCut : List (Nat × List (Nat × List Nat)) := []
def tNest : List (Nat × Kd) := []
def tSorts : List (Nat × Nat) := []
theorem sortsOK : ∀ g n, (g, n) ∈ tSorts → SortOK Try.prog n g := by
  intro g n h
  simp [tSorts] at h
def tAo : List (Nat × List (Option (Et × Nat))) := []
def tRo : List (Nat × Unit) := [(45043, ()), (45065, ())]
def tExt : List (Nat × Nat) := [(80, 1)]
theorem extOK : ∀ g n, (g, n) ∈ tExt → ExtOK Try.prog n g := by
  intro g n h
  simp only [tExt, List.mem_cons, Prod.mk.injEq, List.not_mem_nil, or_false] at h
  rcases h with ⟨rfl, rfl⟩
  · exact add64_ok Try.func80 (by kernel_rfl) (by kernel_rfl) (by kernel_rfl) (by kernel_rfl)
noncomputable def E : Env := tabs.env tLive tRk tBk tPlain tCt tAk tOwn tCut tNest tSorts tAo tExt tRo
theorem envOK : EnvOK Try.prog E := Tabs.sound (by kernel_rfl) sortsOK extOK
noncomputable def pTab : List (Nat × Func) := [(3, Try.f3), (4, Try.f4), (5, Try.f5), (6, Try.f6), (7, Try.f7), (8, Try.f8), (9, Try.f9), (10, Try.f10), (11, Try.f11), (12, Try.f12), (13, Try.f13), (14, Try.f14),
  (15, Try.f15), (16, Try.f16), (17, Try.f17), (18, Try.f18), (19, Try.f19), (20, Try.f20), (21, Try.f21), (22, Try.f22), (23, Try.f23), (24, Try.f24), (25, Try.f25), (26, Try.f26),
  (27, Try.f27), (28, Try.f28), (29, Try.f29), (30, Try.f30), (31, Try.f31), (32, Try.f32), (33, Try.f33), (34, Try.f34), (35, Try.f35), (36, Try.f36), (37, Try.f37), (38, Try.f38),
  (39, Try.f39), (40, Try.f40), (41, Try.f41), (42, Try.f42), (43, Try.f43), (44, Try.f44), (45, Try.f45), (46, Try.f46), (47, Try.f47), (48, Try.f48), (49, Try.f49), (50, Try.f50),
  (51, Try.f51), (52, Try.f52), (53, Try.f53), (54, Try.f54), (55, Try.f55), (56, Try.f56), (57, Try.f57), (58, Try.f58), (59, Try.f59), (60, Try.f60), (61, Try.f61), (62, Try.f62),
  (63, Try.f63), (64, Try.f64), (65, Try.f65), (66, Try.f66), (67, Try.f67), (68, Try.f68), (69, Try.f69), (70, Try.f70), (71, Try.f71), (72, Try.f72), (73, Try.f73), (74, Try.f74),
  (75, Try.f75), (76, Try.f76), (77, Try.f77), (78, Try.f78), (79, Try.f79), (81, Try.f81), (82, Try.f82), (83, Try.f83), (84, Try.f84), (85, Try.f85)]
noncomputable def P : FuncId → Option Func := lk pTab
theorem pOK : PfOK Try.prog P := pfOK_of (tab := pTab)
  (pfOK_cons Try.func3 (pfOK_cons Try.func4 (pfOK_cons Try.func5 (pfOK_cons Try.func6 (pfOK_cons Try.func7 (pfOK_cons Try.func8 (pfOK_cons Try.func9 (pfOK_cons Try.func10 
  (pfOK_cons Try.func11 (pfOK_cons Try.func12 (pfOK_cons Try.func13 (pfOK_cons Try.func14 (pfOK_cons Try.func15 (pfOK_cons Try.func16 (pfOK_cons Try.func17 (pfOK_cons Try.func18 
  (pfOK_cons Try.func19 (pfOK_cons Try.func20 (pfOK_cons Try.func21 (pfOK_cons Try.func22 (pfOK_cons Try.func23 (pfOK_cons Try.func24 (pfOK_cons Try.func25 (pfOK_cons Try.func26 
  (pfOK_cons Try.func27 (pfOK_cons Try.func28 (pfOK_cons Try.func29 (pfOK_cons Try.func30 (pfOK_cons Try.func31 (pfOK_cons Try.func32 (pfOK_cons Try.func33 (pfOK_cons Try.func34 
  (pfOK_cons Try.func35 (pfOK_cons Try.func36 (pfOK_cons Try.func37 (pfOK_cons Try.func38 (pfOK_cons Try.func39 (pfOK_cons Try.func40 (pfOK_cons Try.func41 (pfOK_cons Try.func42 
  (pfOK_cons Try.func43 (pfOK_cons Try.func44 (pfOK_cons Try.func45 (pfOK_cons Try.func46 (pfOK_cons Try.func47 (pfOK_cons Try.func48 (pfOK_cons Try.func49 (pfOK_cons Try.func50 
  (pfOK_cons Try.func51 (pfOK_cons Try.func52 (pfOK_cons Try.func53 (pfOK_cons Try.func54 (pfOK_cons Try.func55 (pfOK_cons Try.func56 (pfOK_cons Try.func57 (pfOK_cons Try.func58 
  (pfOK_cons Try.func59 (pfOK_cons Try.func60 (pfOK_cons Try.func61 (pfOK_cons Try.func62 (pfOK_cons Try.func63 (pfOK_cons Try.func64 (pfOK_cons Try.func65 (pfOK_cons Try.func66 
  (pfOK_cons Try.func67 (pfOK_cons Try.func68 (pfOK_cons Try.func69 (pfOK_cons Try.func70 (pfOK_cons Try.func71 (pfOK_cons Try.func72 (pfOK_cons Try.func73 (pfOK_cons Try.func74 
  (pfOK_cons Try.func75 (pfOK_cons Try.func76 (pfOK_cons Try.func77 (pfOK_cons Try.func78 (pfOK_cons Try.func79 (pfOK_cons Try.func81 (pfOK_cons Try.func82 (pfOK_cons Try.func83 
  (pfOK_cons Try.func84 (pfOK_cons Try.func85 pfOK_nil))))))))))))))))))))))))))))))))))))))))))))))))))))))))))))))))))))))))))))))))))
  (by kernel_rfl)
def clones : List (Nat × (Nat × Nat × Nat)) := []
theorem hT0 : ∀ f args bs r, cloneT clones f args bs = some r → Contract Try.prog f args bs r := by
  refine cloneT_ok fun f e sh by_ hm xs h1 h2 => ?_
  have h0 : ∀ f args bs r, (fun (_ : FuncId) (_ : List AV) (_ : List (List CV)) => (none : R)) f args bs = some r → Contract Try.prog f args bs r := fun _ _ _ _ h => by cases h
  simp only [clones, List.mem_cons, List.not_mem_nil, or_false, Prod.mk.injEq] at hm
def T : FuncId → List AV → List (List CV) → R := cloneT clones
theorem hT : ∀ f args bs r, T f args bs = some r → Contract Try.prog f args bs r := hT0
end Go.Proofs.Ytclkgblckicabaa
/- Calls and loops of the program, by shape: printed by nf.py. -/
set_option linter.unusedVariables false
namespace Go.Proofs.Ytclkgblckicabaa
open Go.Dp
noncomputable section
/-! 3 : laws.FnSpanned -/
def c3 (k : Nat) (code more : List PV) : R := evF P E T k 3 [.s (.c (.p (PV.row 0 0 code))), .s (.c (.p (PV.row 0 0 more)))] []
def r3 (b : Bool) : R := some ([.c (.p (PV.bool b))], [])
def R3 (x0 : R) (K0 : Bool → R) : R := x0.bind fun q0 => bif lensB q0.2 [] && lensS q0.1 [.c (.p (.bool))] then (cBool (resAt q0.1 0)).bind fun b => K0 b else none
@[simp] theorem R3_r (b : Bool) (K0 : Bool → R) : R3 (r3 b) K0 = K0 b := by kernel_rfl
def L3_1 (k n : Nat) (more : List PV) (w1 : Int) (t spans : List PV) (stateLen : Nat) (t73 : List PV) (t74 t75 n1 n11 : Int) (xs : List PV) : R := evLoopAt P E T k 3 3 [] [1, 1, 1, 1, 1, 1, 0, 1, 0, 1, 0, 1, 0] [] n ⟨mkT 249 [(1, .s (.c (.p (PV.row 0 0 more)))), (5, .s (.c (.p (PV.int .i64 w1)))), (6, .s (.c (.p (PV.row 2 0 t)))), (7, .s (.c (.p (PV.row 2 0 spans)))), (8, .s (.c (.bptr 0 0))), (12, .s (.c (.loc 1 0 0 0 stateLen))), (73, .s (.c (.p (PV.row 2 0 t73)))), (74, .s (.c (.p (PV.int .i64 t74)))), (75, .s (.c (.p (PV.int .i64 t75))))], [.box [.p (PV.int .u64 n1), .p (PV.int .u64 n11)], .arr 28 0 0 false xs]⟩
/-! 4 : laws.big -/
def c4 (k : Nat) (code more : List PV) : R := evF P E T k 4 [.s (.c (.p (PV.row 0 0 code))), .s (.c (.p (PV.row 0 0 more)))] []
def r4 (b : Bool) : R := some ([.c (.p (PV.bool b))], [])
def R4 (x0 : R) (K0 : Bool → R) : R := x0.bind fun q0 => bif lensB q0.2 [] && lensS q0.1 [.c (.p (.bool))] then (cBool (resAt q0.1 0)).bind fun b => K0 b else none
@[simp] theorem R4_r (b : Bool) (K0 : Bool → R) : R4 (r4 b) K0 = K0 b := by kernel_rfl
/-! 5 : spec.DrawSpanOf -/
def c5 (k : Nat) (code : List PV) : R := evF P E T k 5 [.s (.c (.p (PV.row 0 0 code)))] []
def r5 (qr : Int) (l l1 : List PV) : R := some ([.c (.p (PV.int .i64 qr)), .c (.p (PV.row 2 0 l)), .c (.p (PV.row 2 0 l1))], [])
def R5 (x0 : R) (K0 : Int → List PV → List PV → R) : R := x0.bind fun q0 => bif lensB q0.2 [] && lensS q0.1 [.c (.p (.int .i64)), .c (.p (.row 2)), .c (.p (.row 2))] then (cInt (resAt q0.1 0) .i64).bind fun qr => (cRow (resAt q0.1 1) 2).bind fun l => (cRow (resAt q0.1 2) 2).bind fun l1 => K0 qr l l1 else none
@[simp] theorem R5_r (qr : Int) (l l1 : List PV) (K0 : Int → List PV → List PV → R) : R5 (r5 qr l l1) K0 = K0 qr l l1 := by kernel_rfl
/-! 6 : impl.SpanOf -/
def c6 (k : Nat) (wide : Int) (t spans : List PV) : R := evF P E T k 6 [.s (.c (.p (PV.int .i64 wide))), .s (.c (.p (PV.row 2 0 t))), .s (.c (.p (PV.row 2 0 spans)))] []
def r6 (qr qr1 : Int) (b : Bool) : R := some ([.agg [.p (PV.int .u64 qr), .p (PV.int .u64 qr1)], .c (.p (PV.bool b))], [])
def R6 (x0 : R) (K0 : Int → Int → Bool → R) : R := x0.bind fun q0 => bif lensB q0.2 [] && lensS q0.1 [.agg [.p (.int .u64), .p (.int .u64)], .c (.p (.bool))] then (cInt (Dp.partAt q0.1 0 0) .u64).bind fun qr => (cInt (Dp.partAt q0.1 0 1) .u64).bind fun qr1 => (cBool (resAt q0.1 1)).bind fun b => K0 qr qr1 b else none
@[simp] theorem R6_r (qr qr1 : Int) (b : Bool) (K0 : Int → Int → Bool → R) : R6 (r6 qr qr1 b) K0 = K0 qr qr1 b := by kernel_rfl
/-! 7 : spec.SpanOf -/
def c7 (k : Nat) (wide : Int) (t spans : List PV) : R := evF P E T k 7 [.s (.c (.p (PV.int .i64 wide))), .s (.c (.p (PV.row 2 0 t))), .s (.c (.p (PV.row 2 0 spans)))] []
def r7 (qr qr1 : Int) (b : Bool) : R := some ([.agg [.p (PV.int .u64 qr), .p (PV.int .u64 qr1)], .c (.p (PV.bool b))], [])
def R7 (x0 : R) (K0 : Int → Int → Bool → R) : R := x0.bind fun q0 => bif lensB q0.2 [] && lensS q0.1 [.agg [.p (.int .u64), .p (.int .u64)], .c (.p (.bool))] then (cInt (Dp.partAt q0.1 0 0) .u64).bind fun qr => (cInt (Dp.partAt q0.1 0 1) .u64).bind fun qr1 => (cBool (resAt q0.1 1)).bind fun b => K0 qr qr1 b else none
@[simp] theorem R7_r (qr qr1 : Int) (b : Bool) (K0 : Int → Int → Bool → R) : R7 (r7 qr qr1 b) K0 = K0 qr qr1 b := by kernel_rfl
/-! 8 : impl.GoodSpan -/
def c8 (k : Nat) (wide qs qs1 : Int) : R := evF P E T k 8 [.s (.c (.p (PV.int .i64 wide))), .s (.c (.p (PV.agg [.int .u64 qs, .int .u64 qs1])))] []
def r8 (b : Bool) : R := some ([.c (.p (PV.bool b))], [])
def R8 (x0 : R) (K0 : Bool → R) : R := x0.bind fun q0 => bif lensB q0.2 [] && lensS q0.1 [.c (.p (.bool))] then (cBool (resAt q0.1 0)).bind fun b => K0 b else none
@[simp] theorem R8_r (b : Bool) (K0 : Bool → R) : R8 (r8 b) K0 = K0 b := by kernel_rfl
/-! 9 : laws.numberOf -/
def c9 (k : Nat) (b : List PV) : R := evF P E T k 9 [.s (.c (.p (PV.row 0 0 b)))] []
def r9 (qr : Int) : R := some ([.c (.p (PV.int .i64 qr))], [])
def R9 (x0 : R) (K0 : Int → R) : R := x0.bind fun q0 => bif lensB q0.2 [] && lensS q0.1 [.c (.p (.int .i64))] then (cInt (resAt q0.1 0) .i64).bind fun qr => K0 qr else none
@[simp] theorem R9_r (qr : Int) (K0 : Int → R) : R9 (r9 qr) K0 = K0 qr := by kernel_rfl
def L9_1 (k n : Nat) (n1 : Int) (t6 : List PV) (t7 t8 : Int) : R := evLoopAt P E T k 9 9 [] [1, 1, 0, 1, 0] [] n ⟨mkT 20 [(3, .s (.c (.p (PV.int .i64 n1)))), (6, .s (.c (.p (PV.row 0 0 t6)))), (7, .s (.c (.p (PV.int .i64 t7)))), (8, .s (.c (.p (PV.int .i64 t8))))], []⟩
/-! 10 : impl.InSpans -/
def c10 (k : Nat) (wide : Int) (spans state : List PV) : R := evF P E T k 10 [.s (.c (.p (PV.int .i64 wide))), .s (.c (.p (PV.row 2 0 spans))), .s (.c (.p (PV.row 0 0 state)))] []
def r10 (b b1 : Bool) : R := some ([.c (.p (PV.bool b)), .c (.p (PV.bool b1))], [])
def R10 (x0 : R) (K0 : Bool → Bool → R) : R := x0.bind fun q0 => bif lensB q0.2 [] && lensS q0.1 [.c (.p (.bool)), .c (.p (.bool))] then (cBool (resAt q0.1 0)).bind fun b => (cBool (resAt q0.1 1)).bind fun b1 => K0 b b1 else none
@[simp] theorem R10_r (b b1 : Bool) (K0 : Bool → Bool → R) : R10 (r10 b b1) K0 = K0 b b1 := by kernel_rfl
def R10p (x0 : R) (K0 : Bool → Bool → R) : R := x0.bind fun q0 => bif q0.1.all plainS && q0.2.all (fun cs => cs.all plainC) then (bif lensB q0.2 [] && lensS q0.1 [.c (.p (.bool)), .c (.p (.bool))] then (cBool (resAt q0.1 0)).bind fun b => (cBool (resAt q0.1 1)).bind fun b1 => K0 b b1 else none) else none
@[simp] theorem R10p_r (b b1 : Bool) (K0 : Bool → Bool → R) : R10p (r10 b b1) K0 = K0 b b1 := by kernel_rfl
def L10_1 (k n : Nat) (state t22 : List PV) (t23 t24 : Int) : R := evLoopAt P E T k 10 10 [] [1, 1, 0, 1, 0] [] n ⟨mkT 37 [(2, .s (.c (.p (PV.row 0 0 state)))), (22, .s (.c (.p (PV.row 2 0 t22)))), (23, .s (.c (.p (PV.int .i64 t23)))), (24, .s (.c (.p (PV.int .i64 t24))))], []⟩
/-! 11 : impl.ValueOf -/
def c11 (k : Nat) (wide : Int) (t state : List PV) : R := evF P E T k 11 [.s (.c (.p (PV.int .i64 wide))), .s (.c (.p (PV.row 2 0 t))), .s (.c (.p (PV.row 0 0 state)))] []
def r11 (qr : Int) (b : Bool) : R := some ([.c (.p (PV.int .u64 qr)), .c (.p (PV.bool b))], [])
def R11 (x0 : R) (K0 : Int → Bool → R) : R := x0.bind fun q0 => bif lensB q0.2 [] && lensS q0.1 [.c (.p (.int .u64)), .c (.p (.bool))] then (cInt (resAt q0.1 0) .u64).bind fun qr => (cBool (resAt q0.1 1)).bind fun b => K0 qr b else none
@[simp] theorem R11_r (qr : Int) (b : Bool) (K0 : Int → Bool → R) : R11 (r11 qr b) K0 = K0 qr b := by kernel_rfl
def R11p (x0 : R) (K0 : Int → Bool → R) : R := x0.bind fun q0 => bif q0.1.all plainS && q0.2.all (fun cs => cs.all plainC) then (bif lensB q0.2 [] && lensS q0.1 [.c (.p (.int .u64)), .c (.p (.bool))] then (cInt (resAt q0.1 0) .u64).bind fun qr => (cBool (resAt q0.1 1)).bind fun b => K0 qr b else none) else none
@[simp] theorem R11p_r (qr : Int) (b : Bool) (K0 : Int → Bool → R) : R11p (r11 qr b) K0 = K0 qr b := by kernel_rfl
/-! 12 : spec.DrawJoinSpans -/
def c12 (k : Nat) (code : List PV) : R := evF P E T k 12 [.s (.c (.p (PV.row 0 0 code)))] []
def r12 (qr qr1 qr2 qr3 qr4 : Int) : R := some ([.c (.p (PV.int .i64 qr)), .agg [.p (PV.int .u64 qr1), .p (PV.int .u64 qr2)], .agg [.p (PV.int .u64 qr3), .p (PV.int .u64 qr4)]], [])
def R12 (x0 : R) (K0 : Int → Int → Int → Int → Int → R) : R := x0.bind fun q0 => bif lensB q0.2 [] && lensS q0.1 [.c (.p (.int .i64)), .agg [.p (.int .u64), .p (.int .u64)], .agg [.p (.int .u64), .p (.int .u64)]] then (cInt (resAt q0.1 0) .i64).bind fun qr => (cInt (Dp.partAt q0.1 1 0) .u64).bind fun qr1 => (cInt (Dp.partAt q0.1 1 1) .u64).bind fun qr2 => (cInt (Dp.partAt q0.1 2 0) .u64).bind fun qr3 => (cInt (Dp.partAt q0.1 2 1) .u64).bind fun qr4 => K0 qr qr1 qr2 qr3 qr4 else none
@[simp] theorem R12_r (qr qr1 qr2 qr3 qr4 : Int) (K0 : Int → Int → Int → Int → Int → R) : R12 (r12 qr qr1 qr2 qr3 qr4) K0 = K0 qr qr1 qr2 qr3 qr4 := by kernel_rfl
/-! 13 : impl.JoinSpans -/
def c13 (k : Nat) (wide a a1 b b1 : Int) : R := evF P E T k 13 [.s (.c (.p (PV.int .i64 wide))), .s (.c (.p (PV.agg [.int .u64 a, .int .u64 a1]))), .s (.c (.p (PV.agg [.int .u64 b, .int .u64 b1])))] []
def r13 (qr qr1 : Int) (b : Bool) : R := some ([.agg [.p (PV.int .u64 qr), .p (PV.int .u64 qr1)], .c (.p (PV.bool b))], [])
def R13 (x0 : R) (K0 : Int → Int → Bool → R) : R := x0.bind fun q0 => bif lensB q0.2 [] && lensS q0.1 [.agg [.p (.int .u64), .p (.int .u64)], .c (.p (.bool))] then (cInt (Dp.partAt q0.1 0 0) .u64).bind fun qr => (cInt (Dp.partAt q0.1 0 1) .u64).bind fun qr1 => (cBool (resAt q0.1 1)).bind fun b => K0 qr qr1 b else none
@[simp] theorem R13_r (qr qr1 : Int) (b : Bool) (K0 : Int → Int → Bool → R) : R13 (r13 qr qr1 b) K0 = K0 qr qr1 b := by kernel_rfl
/-! 14 : spec.JoinSpans -/
def c14 (k : Nat) (wide a a1 b b1 : Int) : R := evF P E T k 14 [.s (.c (.p (PV.int .i64 wide))), .s (.c (.p (PV.agg [.int .u64 a, .int .u64 a1]))), .s (.c (.p (PV.agg [.int .u64 b, .int .u64 b1])))] []
def r14 (qr qr1 : Int) (b : Bool) : R := some ([.agg [.p (PV.int .u64 qr), .p (PV.int .u64 qr1)], .c (.p (PV.bool b))], [])
def R14 (x0 : R) (K0 : Int → Int → Bool → R) : R := x0.bind fun q0 => bif lensB q0.2 [] && lensS q0.1 [.agg [.p (.int .u64), .p (.int .u64)], .c (.p (.bool))] then (cInt (Dp.partAt q0.1 0 0) .u64).bind fun qr => (cInt (Dp.partAt q0.1 0 1) .u64).bind fun qr1 => (cBool (resAt q0.1 1)).bind fun b => K0 qr qr1 b else none
@[simp] theorem R14_r (qr qr1 : Int) (b : Bool) (K0 : Int → Int → Bool → R) : R14 (r14 qr qr1 b) K0 = K0 qr qr1 b := by kernel_rfl
/-! 15 : impl.MeetSpans -/
def c15 (k : Nat) (wide a a1 b b1 : Int) : R := evF P E T k 15 [.s (.c (.p (PV.int .i64 wide))), .s (.c (.p (PV.agg [.int .u64 a, .int .u64 a1]))), .s (.c (.p (PV.agg [.int .u64 b, .int .u64 b1])))] []
def r15 (qr qr1 : Int) (b : Bool) : R := some ([.agg [.p (PV.int .u64 qr), .p (PV.int .u64 qr1)], .c (.p (PV.bool b))], [])
def R15 (x0 : R) (K0 : Int → Int → Bool → R) : R := x0.bind fun q0 => bif lensB q0.2 [] && lensS q0.1 [.agg [.p (.int .u64), .p (.int .u64)], .c (.p (.bool))] then (cInt (Dp.partAt q0.1 0 0) .u64).bind fun qr => (cInt (Dp.partAt q0.1 0 1) .u64).bind fun qr1 => (cBool (resAt q0.1 1)).bind fun b => K0 qr qr1 b else none
@[simp] theorem R15_r (qr qr1 : Int) (b : Bool) (K0 : Int → Int → Bool → R) : R15 (r15 qr qr1 b) K0 = K0 qr qr1 b := by kernel_rfl
/-! 16 : spec.MeetSpans -/
def c16 (k : Nat) (wide a a1 b b1 : Int) : R := evF P E T k 16 [.s (.c (.p (PV.int .i64 wide))), .s (.c (.p (PV.agg [.int .u64 a, .int .u64 a1]))), .s (.c (.p (PV.agg [.int .u64 b, .int .u64 b1])))] []
def r16 (qr qr1 : Int) (b : Bool) : R := some ([.agg [.p (PV.int .u64 qr), .p (PV.int .u64 qr1)], .c (.p (PV.bool b))], [])
def R16 (x0 : R) (K0 : Int → Int → Bool → R) : R := x0.bind fun q0 => bif lensB q0.2 [] && lensS q0.1 [.agg [.p (.int .u64), .p (.int .u64)], .c (.p (.bool))] then (cInt (Dp.partAt q0.1 0 0) .u64).bind fun qr => (cInt (Dp.partAt q0.1 0 1) .u64).bind fun qr1 => (cBool (resAt q0.1 1)).bind fun b => K0 qr qr1 b else none
@[simp] theorem R16_r (qr qr1 : Int) (b : Bool) (K0 : Int → Int → Bool → R) : R16 (r16 qr qr1 b) K0 = K0 qr qr1 b := by kernel_rfl
/-! 17 : spec.l1Cur).term -/
def c17 (k : Nat) (l : List PV) (n1 n11 : Int) : R := evF P E T k 17 [.s (.c (.bptr 0 0))] [[.p (PV.row 0 0 l), .p (PV.int .i64 n1), .p (PV.int .u64 n11)]]
def r17 (l : List PV) (qr qr1 qr2 qr3 : Int) (l1 : List PV) : R := some ([.c (.p (PV.int .i64 qr2)), .c (.p (PV.int .i64 qr3)), .c (.p (PV.row 2 0 l1))], [[.p (PV.row 0 0 l), .p (PV.int .i64 qr), .p (PV.int .u64 qr1)]])
def R17 (x0 : R) (K0 : List PV → Int → Int → Int → Int → List PV → R) : R := x0.bind fun q0 => bif lensB q0.2 [[.p (.row 0), .p (.int .i64), .p (.int .u64)]] && lensS q0.1 [.c (.p (.int .i64)), .c (.p (.int .i64)), .c (.p (.row 2))] then (cRow (cellAt q0.2 0 0) 0).bind fun l => (cInt (cellAt q0.2 0 1) .i64).bind fun qr => (cInt (cellAt q0.2 0 2) .u64).bind fun qr1 => (cInt (resAt q0.1 0) .i64).bind fun qr2 => (cInt (resAt q0.1 1) .i64).bind fun qr3 => (cRow (resAt q0.1 2) 2).bind fun l1 => K0 l qr qr1 qr2 qr3 l1 else none
@[simp] theorem R17_r (l : List PV) (qr qr1 qr2 qr3 : Int) (l1 : List PV) (K0 : List PV → Int → Int → Int → Int → List PV → R) : R17 (r17 l qr qr1 qr2 qr3 l1) K0 = K0 l qr qr1 qr2 qr3 l1 := by kernel_rfl
/-! 18 : spec.l1Cur).spans -/
def c18 (k : Nat) (wide vars : Int) (l : List PV) (n1 n11 : Int) : R := evF P E T k 18 [.s (.c (.bptr 0 0)), .s (.c (.p (PV.int .i64 wide))), .s (.c (.p (PV.int .i64 vars)))] [[.p (PV.row 0 0 l), .p (PV.int .i64 n1), .p (PV.int .u64 n11)]]
def r18 (l : List PV) (qr qr1 : Int) (l1 : List PV) : R := some ([.c (.p (PV.row 2 0 l1))], [[.p (PV.row 0 0 l), .p (PV.int .i64 qr), .p (PV.int .u64 qr1)]])
def R18 (x0 : R) (K0 : List PV → Int → Int → List PV → R) : R := x0.bind fun q0 => bif lensB q0.2 [[.p (.row 0), .p (.int .i64), .p (.int .u64)]] && lensS q0.1 [.c (.p (.row 2))] then (cRow (cellAt q0.2 0 0) 0).bind fun l => (cInt (cellAt q0.2 0 1) .i64).bind fun qr => (cInt (cellAt q0.2 0 2) .u64).bind fun qr1 => (cRow (resAt q0.1 0) 2).bind fun l1 => K0 l qr qr1 l1 else none
@[simp] theorem R18_r (l : List PV) (qr qr1 : Int) (l1 : List PV) (K0 : List PV → Int → Int → List PV → R) : R18 (r18 l qr qr1 l1) K0 = K0 l qr qr1 l1 := by kernel_rfl
def L18_1 (k n : Nat) (wide vars : Int) (lLen : Nat) (k1 : Int) (l : List PV) (n1 n11 : Int) (xs : List PV) : R := evLoopAt P E T k 18 18 [3] [1, 1, 0, 1, 0] [] n ⟨mkT 21 [(0, .s (.c (.bptr 0 0))), (1, .s (.c (.p (PV.int .i64 wide)))), (2, .s (.c (.p (PV.int .i64 vars)))), (7, .s (.c (.loc 1 0 2 0 lLen))), (8, .s (.c (.p (PV.int .i64 k1))))], [.box [.p (PV.row 0 0 l), .p (PV.int .i64 n1), .p (PV.int .u64 n11)], .arr 30 2 0 false xs]⟩
/-! 19 : impl.areSpans -/
def c19 (k : Nat) (wide : Int) (spans : List PV) : R := evF P E T k 19 [.s (.c (.p (PV.int .i64 wide))), .s (.c (.p (PV.row 2 0 spans)))] []
def r19 (b : Bool) : R := some ([.c (.p (PV.bool b))], [])
def R19 (x0 : R) (K0 : Bool → R) : R := x0.bind fun q0 => bif lensB q0.2 [] && lensS q0.1 [.c (.p (.bool))] then (cBool (resAt q0.1 0)).bind fun b => K0 b else none
@[simp] theorem R19_r (b : Bool) (K0 : Bool → R) : R19 (r19 b) K0 = K0 b := by kernel_rfl
/-! 20 : impl.GoodTerm -/
def c20 (k : Nat) (wide vars : Int) (t : List PV) : R := evF P E T k 20 [.s (.c (.p (PV.int .i64 wide))), .s (.c (.p (PV.int .i64 vars))), .s (.c (.p (PV.row 2 0 t)))] []
def r20 (b : Bool) : R := some ([.c (.p (PV.bool b))], [])
def R20 (x0 : R) (K0 : Bool → R) : R := x0.bind fun q0 => bif lensB q0.2 [] && lensS q0.1 [.c (.p (.bool))] then (cBool (resAt q0.1 0)).bind fun b => K0 b else none
@[simp] theorem R20_r (b : Bool) (K0 : Bool → R) : R20 (r20 b) K0 = K0 b := by kernel_rfl
def L20_1 (k n : Nat) (wide vars : Int) (stackLen : Nat) (t33 : List PV) (t34 t35 : Int) (xs : List PV) : R := evLoopAt P E T k 20 20 [] [1, 1, 1, 0, 1, 0] [] n ⟨mkT 80 [(0, .s (.c (.p (PV.int .i64 wide)))), (1, .s (.c (.p (PV.int .i64 vars)))), (7, .s (.c (.loc 0 0 0 0 stackLen))), (33, .s (.c (.p (PV.row 2 0 t33)))), (34, .s (.c (.p (PV.int .i64 t34)))), (35, .s (.c (.p (PV.int .i64 t35))))], [.arr 3 0 0 false xs]⟩
/-! 21 : impl.spanOf -/
def c21 (k : Nat) (wide : Int) (t spans : List PV) : R := evF P E T k 21 [.s (.c (.p (PV.int .i64 wide))), .s (.c (.p (PV.row 2 0 t))), .s (.c (.p (PV.row 2 0 spans)))] []
def r21 (qr qr1 : Int) : R := some ([.agg [.p (PV.int .u64 qr), .p (PV.int .u64 qr1)]], [])
def R21 (x0 : R) (K0 : Int → Int → R) : R := x0.bind fun q0 => bif lensB q0.2 [] && lensS q0.1 [.agg [.p (.int .u64), .p (.int .u64)]] then (cInt (Dp.partAt q0.1 0 0) .u64).bind fun qr => (cInt (Dp.partAt q0.1 0 1) .u64).bind fun qr1 => K0 qr qr1 else none
@[simp] theorem R21_r (qr qr1 : Int) (K0 : Int → Int → R) : R21 (r21 qr qr1) K0 = K0 qr qr1 := by kernel_rfl
def L21_1 (k n : Nat) (spans : List PV) (stackLen : Nat) (t16 : List PV) (t17 t18 n1 n11 n12 n13 : Int) (xs : List PV) : R := evLoopAt P E T k 21 21 [] [1, 1, 0, 1, 0] [] n ⟨mkT 111 [(2, .s (.c (.p (PV.row 2 0 spans)))), (6, .s (.c (.bptr 0 0))), (7, .s (.c (.bptr 1 0))), (8, .s (.c (.loc 2 0 2 0 stackLen))), (16, .s (.c (.p (PV.row 2 0 t16)))), (17, .s (.c (.p (PV.int .i64 t17)))), (18, .s (.c (.p (PV.int .i64 t18))))], [.box [.p (PV.int .u64 n1), .p (PV.int .u64 n11)], .box [.p (PV.int .u64 n12), .p (PV.int .u64 n13)], .arr 30 2 0 false xs]⟩
/-! 22 : spec.GoodTerm -/
def c22 (k : Nat) (wide vars : Int) (t : List PV) : R := evF P E T k 22 [.s (.c (.p (PV.int .i64 wide))), .s (.c (.p (PV.int .i64 vars))), .s (.c (.p (PV.row 2 0 t)))] []
def r22 (b : Bool) : R := some ([.c (.p (PV.bool b))], [])
def R22 (x0 : R) (K0 : Bool → R) : R := x0.bind fun q0 => bif lensB q0.2 [] && lensS q0.1 [.c (.p (.bool))] then (cBool (resAt q0.1 0)).bind fun b => K0 b else none
@[simp] theorem R22_r (b : Bool) (K0 : Bool → R) : R22 (r22 b) K0 = K0 b := by kernel_rfl
/-! 23 : spec.l18Spans -/
def c23 (k : Nat) (wide : Int) (spans : List PV) : R := evF P E T k 23 [.s (.c (.p (PV.int .i64 wide))), .s (.c (.p (PV.row 2 0 spans)))] []
def r23 (b : Bool) : R := some ([.c (.p (PV.bool b))], [])
def R23 (x0 : R) (K0 : Bool → R) : R := x0.bind fun q0 => bif lensB q0.2 [] && lensS q0.1 [.c (.p (.bool))] then (cBool (resAt q0.1 0)).bind fun b => K0 b else none
@[simp] theorem R23_r (b : Bool) (K0 : Bool → R) : R23 (r23 b) K0 = K0 b := by kernel_rfl
def L23_1 (k n : Nat) (wide : Int) (t11 : List PV) (t12 t13 : Int) : R := evLoopAt P E T k 23 23 [] [1, 1, 0, 1, 0] [] n ⟨mkT 22 [(0, .s (.c (.p (PV.int .i64 wide)))), (11, .s (.c (.p (PV.row 2 0 t11)))), (12, .s (.c (.p (PV.int .i64 t12)))), (13, .s (.c (.p (PV.int .i64 t13))))], []⟩
/-! 24 : spec.l18Of -/
def c24 (k : Nat) (wide : Int) (t : List PV) (k1 : Int) (spans : List PV) : R := evF P E T k 24 [.s (.c (.p (PV.int .i64 wide))), .s (.c (.p (PV.row 2 0 t))), .s (.c (.p (PV.int .i64 k1))), .s (.c (.p (PV.row 2 0 spans)))] []
def r24 (qr qr1 : Int) : R := some ([.agg [.p (PV.int .u64 qr), .p (PV.int .u64 qr1)]], [])
def R24 (x0 : R) (K0 : Int → Int → R) : R := x0.bind fun q0 => bif lensB q0.2 [] && lensS q0.1 [.agg [.p (.int .u64), .p (.int .u64)]] then (cInt (Dp.partAt q0.1 0 0) .u64).bind fun qr => (cInt (Dp.partAt q0.1 0 1) .u64).bind fun qr1 => K0 qr qr1 else none
@[simp] theorem R24_r (qr qr1 : Int) (K0 : Int → Int → R) : R24 (r24 qr qr1) K0 = K0 qr qr1 := by kernel_rfl
/-! 25 : impl.GoodWord -/
def c25 (k : Nat) (wide a : Int) : R := evF P E T k 25 [.s (.c (.p (PV.int .i64 wide))), .s (.c (.p (PV.int .u64 a)))] []
def r25 (b : Bool) : R := some ([.c (.p (PV.bool b))], [])
def R25 (x0 : R) (K0 : Bool → R) : R := x0.bind fun q0 => bif lensB q0.2 [] && lensS q0.1 [.c (.p (.bool))] then (cBool (resAt q0.1 0)).bind fun b => K0 b else none
@[simp] theorem R25_r (b : Bool) (K0 : Bool → R) : R25 (r25 b) K0 = K0 b := by kernel_rfl
/-! 26 : impl.isState -/
def c26 (k : Nat) (wide vars : Int) (state : List PV) : R := evF P E T k 26 [.s (.c (.p (PV.int .i64 wide))), .s (.c (.p (PV.int .i64 vars))), .s (.c (.p (PV.row 0 0 state)))] []
def r26 (b : Bool) : R := some ([.c (.p (PV.bool b))], [])
def R26 (x0 : R) (K0 : Bool → R) : R := x0.bind fun q0 => bif lensB q0.2 [] && lensS q0.1 [.c (.p (.bool))] then (cBool (resAt q0.1 0)).bind fun b => K0 b else none
@[simp] theorem R26_r (b : Bool) (K0 : Bool → R) : R26 (r26 b) K0 = K0 b := by kernel_rfl
/-! 27 : impl.Span).has -/
def c27 (k : Nat) (qs qs1 a : Int) : R := evF P E T k 27 [.s (.c (.p (PV.agg [.int .u64 qs, .int .u64 qs1]))), .s (.c (.p (PV.int .u64 a)))] []
def r27 (b : Bool) : R := some ([.c (.p (PV.bool b))], [])
def R27 (x0 : R) (K0 : Bool → R) : R := x0.bind fun q0 => bif lensB q0.2 [] && lensS q0.1 [.c (.p (.bool))] then (cBool (resAt q0.1 0)).bind fun b => K0 b else none
@[simp] theorem R27_r (b : Bool) (K0 : Bool → R) : R27 (r27 b) K0 = K0 b := by kernel_rfl
/-! 28 : impl.valueOf -/
def c28 (k : Nat) (wide : Int) (t state : List PV) : R := evF P E T k 28 [.s (.c (.p (PV.int .i64 wide))), .s (.c (.p (PV.row 2 0 t))), .s (.c (.p (PV.row 0 0 state)))] []
def r28 (qr : Int) : R := some ([.c (.p (PV.int .u64 qr))], [])
def R28 (x0 : R) (K0 : Int → R) : R := x0.bind fun q0 => bif lensB q0.2 [] && lensS q0.1 [.c (.p (.int .u64))] then (cInt (resAt q0.1 0) .u64).bind fun qr => K0 qr else none
@[simp] theorem R28_r (qr : Int) (K0 : Int → R) : R28 (r28 qr) K0 = K0 qr := by kernel_rfl
def L28_1 (k n : Nat) (wide : Int) (state : List PV) (stackLen : Nat) (t12 : List PV) (t13 t14 : Int) (xs : List PV) : R := evLoopAt P E T k 28 28 [] [1, 1, 0, 1, 0] [] n ⟨mkT 87 [(0, .s (.c (.p (PV.int .i64 wide)))), (2, .s (.c (.p (PV.row 0 0 state)))), (7, .s (.c (.loc 0 0 0 0 stackLen))), (12, .s (.c (.p (PV.row 2 0 t12)))), (13, .s (.c (.p (PV.int .i64 t13)))), (14, .s (.c (.p (PV.int .i64 t14))))], [.arr 28 0 0 false xs]⟩
/-! 29 : spec.l1Cur).width -/
def c29 (k : Nat) (l : List PV) (n1 n11 : Int) : R := evF P E T k 29 [.s (.c (.bptr 0 0))] [[.p (PV.row 0 0 l), .p (PV.int .i64 n1), .p (PV.int .u64 n11)]]
def r29 (l : List PV) (qr qr1 qr2 : Int) : R := some ([.c (.p (PV.int .i64 qr2))], [[.p (PV.row 0 0 l), .p (PV.int .i64 qr), .p (PV.int .u64 qr1)]])
def R29 (x0 : R) (K0 : List PV → Int → Int → Int → R) : R := x0.bind fun q0 => bif lensB q0.2 [[.p (.row 0), .p (.int .i64), .p (.int .u64)]] && lensS q0.1 [.c (.p (.int .i64))] then (cRow (cellAt q0.2 0 0) 0).bind fun l => (cInt (cellAt q0.2 0 1) .i64).bind fun qr => (cInt (cellAt q0.2 0 2) .u64).bind fun qr1 => (cInt (resAt q0.1 0) .i64).bind fun qr2 => K0 l qr qr1 qr2 else none
@[simp] theorem R29_r (l : List PV) (qr qr1 qr2 : Int) (K0 : List PV → Int → Int → Int → R) : R29 (r29 l qr qr1 qr2) K0 = K0 l qr qr1 qr2 := by kernel_rfl
/-! 30 : spec.l1Cur).span -/
def c30 (k : Nat) (wide : Int) (l : List PV) (n1 n11 : Int) : R := evF P E T k 30 [.s (.c (.bptr 0 0)), .s (.c (.p (PV.int .i64 wide)))] [[.p (PV.row 0 0 l), .p (PV.int .i64 n1), .p (PV.int .u64 n11)]]
def r30 (l : List PV) (qr qr1 qr2 qr3 : Int) : R := some ([.agg [.p (PV.int .u64 qr2), .p (PV.int .u64 qr3)]], [[.p (PV.row 0 0 l), .p (PV.int .i64 qr), .p (PV.int .u64 qr1)]])
def R30 (x0 : R) (K0 : List PV → Int → Int → Int → Int → R) : R := x0.bind fun q0 => bif lensB q0.2 [[.p (.row 0), .p (.int .i64), .p (.int .u64)]] && lensS q0.1 [.agg [.p (.int .u64), .p (.int .u64)]] then (cRow (cellAt q0.2 0 0) 0).bind fun l => (cInt (cellAt q0.2 0 1) .i64).bind fun qr => (cInt (cellAt q0.2 0 2) .u64).bind fun qr1 => (cInt (Dp.partAt q0.1 0 0) .u64).bind fun qr2 => (cInt (Dp.partAt q0.1 0 1) .u64).bind fun qr3 => K0 l qr qr1 qr2 qr3 else none
@[simp] theorem R30_r (l : List PV) (qr qr1 qr2 qr3 : Int) (K0 : List PV → Int → Int → Int → Int → R) : R30 (r30 l qr qr1 qr2 qr3) K0 = K0 l qr qr1 qr2 qr3 := by kernel_rfl
/-! 31 : impl.join -/
def c31 (k : Nat) (a a1 b b1 : Int) : R := evF P E T k 31 [.s (.c (.p (PV.agg [.int .u64 a, .int .u64 a1]))), .s (.c (.p (PV.agg [.int .u64 b, .int .u64 b1])))] []
def r31 (qr qr1 : Int) : R := some ([.agg [.p (PV.int .u64 qr), .p (PV.int .u64 qr1)]], [])
def R31 (x0 : R) (K0 : Int → Int → R) : R := x0.bind fun q0 => bif lensB q0.2 [] && lensS q0.1 [.agg [.p (.int .u64), .p (.int .u64)]] then (cInt (Dp.partAt q0.1 0 0) .u64).bind fun qr => (cInt (Dp.partAt q0.1 0 1) .u64).bind fun qr1 => K0 qr qr1 else none
@[simp] theorem R31_r (qr qr1 : Int) (K0 : Int → Int → R) : R31 (r31 qr qr1) K0 = K0 qr qr1 := by kernel_rfl
/-! 32 : spec.GoodSpan -/
def c32 (k : Nat) (wide qs qs1 : Int) : R := evF P E T k 32 [.s (.c (.p (PV.int .i64 wide))), .s (.c (.p (PV.agg [.int .u64 qs, .int .u64 qs1])))] []
def r32 (b : Bool) : R := some ([.c (.p (PV.bool b))], [])
def R32 (x0 : R) (K0 : Bool → R) : R := x0.bind fun q0 => bif lensB q0.2 [] && lensS q0.1 [.c (.p (.bool))] then (cBool (resAt q0.1 0)).bind fun b => K0 b else none
@[simp] theorem R32_r (b : Bool) (K0 : Bool → R) : R32 (r32 b) K0 = K0 b := by kernel_rfl
/-! 33 : spec.l18Join -/
def c33 (k : Nat) (a a1 b b1 : Int) : R := evF P E T k 33 [.s (.c (.p (PV.agg [.int .u64 a, .int .u64 a1]))), .s (.c (.p (PV.agg [.int .u64 b, .int .u64 b1])))] []
def r33 (qr qr1 : Int) : R := some ([.agg [.p (PV.int .u64 qr), .p (PV.int .u64 qr1)]], [])
def R33 (x0 : R) (K0 : Int → Int → R) : R := x0.bind fun q0 => bif lensB q0.2 [] && lensS q0.1 [.agg [.p (.int .u64), .p (.int .u64)]] then (cInt (Dp.partAt q0.1 0 0) .u64).bind fun qr => (cInt (Dp.partAt q0.1 0 1) .u64).bind fun qr1 => K0 qr qr1 else none
@[simp] theorem R33_r (qr qr1 : Int) (K0 : Int → Int → R) : R33 (r33 qr qr1) K0 = K0 qr qr1 := by kernel_rfl
/-! 34 : impl.meetSpans -/
def c34 (k : Nat) (a a1 b b1 : Int) : R := evF P E T k 34 [.s (.c (.p (PV.agg [.int .u64 a, .int .u64 a1]))), .s (.c (.p (PV.agg [.int .u64 b, .int .u64 b1])))] []
def r34 (qr qr1 : Int) (b : Bool) : R := some ([.agg [.p (PV.int .u64 qr), .p (PV.int .u64 qr1)], .c (.p (PV.bool b))], [])
def R34 (x0 : R) (K0 : Int → Int → Bool → R) : R := x0.bind fun q0 => bif lensB q0.2 [] && lensS q0.1 [.agg [.p (.int .u64), .p (.int .u64)], .c (.p (.bool))] then (cInt (Dp.partAt q0.1 0 0) .u64).bind fun qr => (cInt (Dp.partAt q0.1 0 1) .u64).bind fun qr1 => (cBool (resAt q0.1 1)).bind fun b => K0 qr qr1 b else none
@[simp] theorem R34_r (qr qr1 : Int) (b : Bool) (K0 : Int → Int → Bool → R) : R34 (r34 qr qr1 b) K0 = K0 qr qr1 b := by kernel_rfl
/-! 35 : spec.l18Most -/
def c35 (k : Nat) (a b : Int) : R := evF P E T k 35 [.s (.c (.p (PV.int .u64 a))), .s (.c (.p (PV.int .u64 b)))] []
def r35 (qr : Int) : R := some ([.c (.p (PV.int .u64 qr))], [])
def R35 (x0 : R) (K0 : Int → R) : R := x0.bind fun q0 => bif lensB q0.2 [] && lensS q0.1 [.c (.p (.int .u64))] then (cInt (resAt q0.1 0) .u64).bind fun qr => K0 qr else none
@[simp] theorem R35_r (qr : Int) (K0 : Int → R) : R35 (r35 qr) K0 = K0 qr := by kernel_rfl
/-! 36 : spec.l18Least -/
def c36 (k : Nat) (a b : Int) : R := evF P E T k 36 [.s (.c (.p (PV.int .u64 a))), .s (.c (.p (PV.int .u64 b)))] []
def r36 (qr : Int) : R := some ([.c (.p (PV.int .u64 qr))], [])
def R36 (x0 : R) (K0 : Int → R) : R := x0.bind fun q0 => bif lensB q0.2 [] && lensS q0.1 [.c (.p (.int .u64))] then (cInt (resAt q0.1 0) .u64).bind fun qr => K0 qr else none
@[simp] theorem R36_r (qr : Int) (K0 : Int → R) : R36 (r36 qr) K0 = K0 qr := by kernel_rfl
/-! 37 : spec.l1Cur).among -/
def c37 (k : Nat) (list l : List PV) (n1 n11 : Int) : R := evF P E T k 37 [.s (.c (.bptr 0 0)), .s (.c (.p (PV.row 0 0 list)))] [[.p (PV.row 0 0 l), .p (PV.int .i64 n1), .p (PV.int .u64 n11)]]
def r37 (l : List PV) (qr qr1 qr2 : Int) : R := some ([.c (.p (PV.int .i64 qr2))], [[.p (PV.row 0 0 l), .p (PV.int .i64 qr), .p (PV.int .u64 qr1)]])
def R37 (x0 : R) (K0 : List PV → Int → Int → Int → R) : R := x0.bind fun q0 => bif lensB q0.2 [[.p (.row 0), .p (.int .i64), .p (.int .u64)]] && lensS q0.1 [.c (.p (.int .i64))] then (cRow (cellAt q0.2 0 0) 0).bind fun l => (cInt (cellAt q0.2 0 1) .i64).bind fun qr => (cInt (cellAt q0.2 0 2) .u64).bind fun qr1 => (cInt (resAt q0.1 0) .i64).bind fun qr2 => K0 l qr qr1 qr2 else none
@[simp] theorem R37_r (l : List PV) (qr qr1 qr2 : Int) (K0 : List PV → Int → Int → Int → R) : R37 (r37 l qr qr1 qr2) K0 = K0 l qr qr1 qr2 := by kernel_rfl
/-! 38 : spec.l1Cur).pick -/
def c38 (k : Nat) (n1 : Int) (l : List PV) (n11 n12 : Int) : R := evF P E T k 38 [.s (.c (.bptr 0 0)), .s (.c (.p (PV.int .i64 n1)))] [[.p (PV.row 0 0 l), .p (PV.int .i64 n11), .p (PV.int .u64 n12)]]
def r38 (l : List PV) (qr qr1 qr2 : Int) : R := some ([.c (.p (PV.int .i64 qr2))], [[.p (PV.row 0 0 l), .p (PV.int .i64 qr), .p (PV.int .u64 qr1)]])
def R38 (x0 : R) (K0 : List PV → Int → Int → Int → R) : R := x0.bind fun q0 => bif lensB q0.2 [[.p (.row 0), .p (.int .i64), .p (.int .u64)]] && lensS q0.1 [.c (.p (.int .i64))] then (cRow (cellAt q0.2 0 0) 0).bind fun l => (cInt (cellAt q0.2 0 1) .i64).bind fun qr => (cInt (cellAt q0.2 0 2) .u64).bind fun qr1 => (cInt (resAt q0.1 0) .i64).bind fun qr2 => K0 l qr qr1 qr2 else none
@[simp] theorem R38_r (l : List PV) (qr qr1 qr2 : Int) (K0 : List PV → Int → Int → Int → R) : R38 (r38 l qr qr1 qr2) K0 = K0 l qr qr1 qr2 := by kernel_rfl
/-! 39 : spec.l1Cur).asked -/
def c39 (k : Nat) (wide vars deep : Int) (l : List PV) (n1 n11 : Int) : R := evF P E T k 39 [.s (.c (.bptr 0 0)), .s (.c (.p (PV.int .i64 wide))), .s (.c (.p (PV.int .i64 vars))), .s (.c (.p (PV.int .i64 deep)))] [[.p (PV.row 0 0 l), .p (PV.int .i64 n1), .p (PV.int .u64 n11)]]
def r39 (l : List PV) (qr qr1 : Int) (l1 : List PV) : R := some ([.c (.own 68 2 l1)], [[.p (PV.row 0 0 l), .p (PV.int .i64 qr), .p (PV.int .u64 qr1)]])
def R39 (x0 : R) (K0 : List PV → Int → Int → List PV → R) : R := x0.bind fun q0 => bif lensB q0.2 [[.p (.row 0), .p (.int .i64), .p (.int .u64)]] && lensS q0.1 [.c (.own 68 2)] then (cRow (cellAt q0.2 0 0) 0).bind fun l => (cInt (cellAt q0.2 0 1) .i64).bind fun qr => (cInt (cellAt q0.2 0 2) .u64).bind fun qr1 => (asOwn 68 2 (resAt q0.1 0)).bind fun l1 => K0 l qr qr1 l1 else none
@[simp] theorem R39_r (l : List PV) (qr qr1 : Int) (l1 : List PV) (K0 : List PV → Int → Int → List PV → R) : R39 (r39 l qr qr1 l1) K0 = K0 l qr qr1 l1 := by kernel_rfl
/-! 40 : spec.l1Cur).one -/
def c40 (k : Nat) (n1 : Int) (l : List PV) (n11 n12 : Int) : R := evF P E T k 40 [.s (.c (.bptr 0 0)), .s (.c (.p (PV.int .i64 n1)))] [[.p (PV.row 0 0 l), .p (PV.int .i64 n11), .p (PV.int .u64 n12)]]
def r40 (l : List PV) (qr qr1 : Int) (b : Bool) : R := some ([.c (.p (PV.bool b))], [[.p (PV.row 0 0 l), .p (PV.int .i64 qr), .p (PV.int .u64 qr1)]])
def R40 (x0 : R) (K0 : List PV → Int → Int → Bool → R) : R := x0.bind fun q0 => bif lensB q0.2 [[.p (.row 0), .p (.int .i64), .p (.int .u64)]] && lensS q0.1 [.c (.p (.bool))] then (cRow (cellAt q0.2 0 0) 0).bind fun l => (cInt (cellAt q0.2 0 1) .i64).bind fun qr => (cInt (cellAt q0.2 0 2) .u64).bind fun qr1 => (cBool (resAt q0.1 0)).bind fun b => K0 l qr qr1 b else none
@[simp] theorem R40_r (l : List PV) (qr qr1 : Int) (b : Bool) (K0 : List PV → Int → Int → Bool → R) : R40 (r40 l qr qr1 b) K0 = K0 l qr qr1 b := by kernel_rfl
/-! 41 : spec.l1Cur).number -/
def c41 (k : Nat) (wide vars deep : Int) (l : List PV) (n1 n11 : Int) : R := evF P E T k 41 [.s (.c (.bptr 0 0)), .s (.c (.p (PV.int .i64 wide))), .s (.c (.p (PV.int .i64 vars))), .s (.c (.p (PV.int .i64 deep)))] [[.p (PV.row 0 0 l), .p (PV.int .i64 n1), .p (PV.int .u64 n11)]]
def r41 (l : List PV) (qr qr1 : Int) (l1 : List PV) : R := some ([.c (.own 68 2 l1)], [[.p (PV.row 0 0 l), .p (PV.int .i64 qr), .p (PV.int .u64 qr1)]])
def R41 (x0 : R) (K0 : List PV → Int → Int → List PV → R) : R := x0.bind fun q0 => bif lensB q0.2 [[.p (.row 0), .p (.int .i64), .p (.int .u64)]] && lensS q0.1 [.c (.own 68 2)] then (cRow (cellAt q0.2 0 0) 0).bind fun l => (cInt (cellAt q0.2 0 1) .i64).bind fun qr => (cInt (cellAt q0.2 0 2) .u64).bind fun qr1 => (asOwn 68 2 (resAt q0.1 0)).bind fun l1 => K0 l qr qr1 l1 else none
@[simp] theorem R41_r (l : List PV) (qr qr1 : Int) (l1 : List PV) (K0 : List PV → Int → Int → List PV → R) : R41 (r41 l qr qr1 l1) K0 = K0 l qr qr1 l1 := by kernel_rfl
/-! 42 : impl.isVars -/
def c42 (k : Nat) (n1 : Int) : R := evF P E T k 42 [.s (.c (.p (PV.int .i64 n1)))] []
def r42 (b : Bool) : R := some ([.c (.p (PV.bool b))], [])
def R42 (x0 : R) (K0 : Bool → R) : R := x0.bind fun q0 => bif lensB q0.2 [] && lensS q0.1 [.c (.p (.bool))] then (cBool (resAt q0.1 0)).bind fun b => K0 b else none
@[simp] theorem R42_r (b : Bool) (K0 : Bool → R) : R42 (r42 b) K0 = K0 b := by kernel_rfl
/-! 43f44 : impl.Span] -/
def c43f44 (k : Nat) (qs : List PV) (n1 : Int) : R := evF P E T k 43 [.s (.c (.p (PV.row 2 0 qs))), .s (.c (.cfn 44 [PV.agg [.int .i64 n1]]))] []
def r43f44 (b : Bool) : R := some ([.c (.p (PV.bool b))], [])
def R43f44 (x0 : R) (K0 : Bool → R) : R := x0.bind fun q0 => bif lensB q0.2 [] && lensS q0.1 [.c (.p (.bool))] then (cBool (resAt q0.1 0)).bind fun b => K0 b else none
@[simp] theorem R43f44_r (b : Bool) (K0 : Bool → R) : R43f44 (r43f44 b) K0 = K0 b := by kernel_rfl
def R43f44p (x0 : R) (K0 : Bool → R) : R := x0.bind fun q0 => bif q0.1.all plainS && q0.2.all (fun cs => cs.all plainC) then (bif lensB q0.2 [] && lensS q0.1 [.c (.p (.bool))] then (cBool (resAt q0.1 0)).bind fun b => K0 b else none) else none
@[simp] theorem R43f44p_r (b : Bool) (K0 : Bool → R) : R43f44p (r43f44 b) K0 = K0 b := by kernel_rfl
/-! 44 : impl.areSpans$1 -/
def c44 (k : Nat) (qs qs1 n1 : Int) : R := evF P E T k 44 [.s (.c (.p (PV.agg [.int .u64 qs, .int .u64 qs1]))), .s (.c (.eptr (PV.agg [.int .i64 n1]) 1 0))] []
def r44 (b : Bool) : R := some ([.c (.p (PV.bool b))], [])
def R44 (x0 : R) (K0 : Bool → R) : R := x0.bind fun q0 => bif lensB q0.2 [] && lensS q0.1 [.c (.p (.bool))] then (cBool (resAt q0.1 0)).bind fun b => K0 b else none
@[simp] theorem R44_r (b : Bool) (K0 : Bool → R) : R44 (r44 b) K0 = K0 b := by kernel_rfl
/-! 45 : impl.isWide -/
def c45 (k : Nat) (n1 : Int) : R := evF P E T k 45 [.s (.c (.p (PV.int .i64 n1)))] []
def r45 (b : Bool) : R := some ([.c (.p (PV.bool b))], [])
def R45 (x0 : R) (K0 : Bool → R) : R := x0.bind fun q0 => bif lensB q0.2 [] && lensS q0.1 [.c (.p (.bool))] then (cBool (resAt q0.1 0)).bind fun b => K0 b else none
@[simp] theorem R45_r (b : Bool) (K0 : Bool → R) : R45 (r45 b) K0 = K0 b := by kernel_rfl
/-! 46 : impl.operandsOf -/
def c46 (k : Nat) (op : Int) : R := evF P E T k 46 [.s (.c (.p (PV.int .i64 op)))] []
def r46 (qr qr1 qr2 : Int) : R := some ([.c (.p (PV.int .i64 qr)), .c (.p (PV.int .i64 qr1)), .c (.p (PV.int .i64 qr2))], [])
def R46 (x0 : R) (K0 : Int → Int → Int → R) : R := x0.bind fun q0 => bif lensB q0.2 [] && lensS q0.1 [.c (.p (.int .i64)), .c (.p (.int .i64)), .c (.p (.int .i64))] then (cInt (resAt q0.1 0) .i64).bind fun qr => (cInt (resAt q0.1 1) .i64).bind fun qr1 => (cInt (resAt q0.1 2) .i64).bind fun qr2 => K0 qr qr1 qr2 else none
@[simp] theorem R46_r (qr qr1 qr2 : Int) (K0 : Int → Int → Int → R) : R46 (r46 qr qr1 qr2) K0 = K0 qr qr1 qr2 := by kernel_rfl
/-! 47 : impl.isLeafRight -/
def c47 (k : Nat) (wide vars x x1 : Int) : R := evF P E T k 47 [.s (.c (.p (PV.int .i64 wide))), .s (.c (.p (PV.int .i64 vars))), .s (.c (.p (PV.agg [.int .i64 x, .int .u64 x1])))] []
def r47 (b : Bool) : R := some ([.c (.p (PV.bool b))], [])
def R47 (x0 : R) (K0 : Bool → R) : R := x0.bind fun q0 => bif lensB q0.2 [] && lensS q0.1 [.c (.p (.bool))] then (cBool (resAt q0.1 0)).bind fun b => K0 b else none
@[simp] theorem R47_r (b : Bool) (K0 : Bool → R) : R47 (r47 b) K0 = K0 b := by kernel_rfl
/-! 48f49 : slices.ContainsFunc[[]int,int] -/
def c48f49 (k : Nat) (qs : List PV) (n1 : Int) : R := evF P E T k 48 [.s (.c (.p (PV.row 0 0 qs))), .s (.c (.fn 49 [0]))] [[.p (PV.int .i64 n1)]]
def r48f49 (qr : Int) (b : Bool) : R := some ([.c (.p (PV.bool b))], [[.p (PV.int .i64 qr)]])
def R48f49 (x0 : R) (K0 : Int → Bool → R) : R := x0.bind fun q0 => bif lensB q0.2 [[.p (.int .i64)]] && lensS q0.1 [.c (.p (.bool))] then (cInt (cellAt q0.2 0 0) .i64).bind fun qr => (cBool (resAt q0.1 0)).bind fun b => K0 qr b else none
@[simp] theorem R48f49_r (qr : Int) (b : Bool) (K0 : Int → Bool → R) : R48f49 (r48f49 qr b) K0 = K0 qr b := by kernel_rfl
def R48f49p (x0 : R) (K0 : Int → Bool → R) : R := x0.bind fun q0 => bif q0.1.all plainS && q0.2.all (fun cs => cs.all plainC) then (bif lensB q0.2 [[.p (.int .i64)]] && lensS q0.1 [.c (.p (.bool))] then (cInt (cellAt q0.2 0 0) .i64).bind fun qr => (cBool (resAt q0.1 0)).bind fun b => K0 qr b else none) else none
@[simp] theorem R48f49p_r (qr : Int) (b : Bool) (K0 : Int → Bool → R) : R48f49p (r48f49 qr b) K0 = K0 qr b := by kernel_rfl
/-! 49 : impl.GoodTerm$1 -/
def c49 (k : Nat) (own n1 : Int) : R := evF P E T k 49 [.s (.c (.p (PV.int .i64 own))), .s (.c (.bptr 0 0))] [[.p (PV.int .i64 n1)]]
def r49 (qr : Int) (b : Bool) : R := some ([.c (.p (PV.bool b))], [[.p (PV.int .i64 qr)]])
def R49 (x0 : R) (K0 : Int → Bool → R) : R := x0.bind fun q0 => bif lensB q0.2 [[.p (.int .i64)]] && lensS q0.1 [.c (.p (.bool))] then (cInt (cellAt q0.2 0 0) .i64).bind fun qr => (cBool (resAt q0.1 0)).bind fun b => K0 qr b else none
@[simp] theorem R49_r (qr : Int) (b : Bool) (K0 : Int → Bool → R) : R49 (r49 qr b) K0 = K0 qr b := by kernel_rfl
/-! 50 : impl.mask -/
def c50 (k : Nat) (wide : Int) : R := evF P E T k 50 [.s (.c (.p (PV.int .i64 wide)))] []
def r50 (qr : Int) : R := some ([.c (.p (PV.int .u64 qr))], [])
def R50 (x0 : R) (K0 : Int → R) : R := x0.bind fun q0 => bif lensB q0.2 [] && lensS q0.1 [.c (.p (.int .u64))] then (cInt (resAt q0.1 0) .u64).bind fun qr => K0 qr else none
@[simp] theorem R50_r (qr : Int) (K0 : Int → R) : R50 (r50 qr) K0 = K0 qr := by kernel_rfl
/-! 51 : impl.spanOfTwo -/
def c51 (k : Nat) (op all all1 a a1 b b1 : Int) : R := evF P E T k 51 [.s (.c (.p (PV.int .i64 op))), .s (.c (.p (PV.agg [.int .u64 all, .int .u64 all1]))), .s (.c (.p (PV.agg [.int .u64 a, .int .u64 a1]))), .s (.c (.p (PV.agg [.int .u64 b, .int .u64 b1])))] []
def r51 (qr qr1 : Int) : R := some ([.agg [.p (PV.int .u64 qr), .p (PV.int .u64 qr1)]], [])
def R51 (x0 : R) (K0 : Int → Int → R) : R := x0.bind fun q0 => bif lensB q0.2 [] && lensS q0.1 [.agg [.p (.int .u64), .p (.int .u64)]] then (cInt (Dp.partAt q0.1 0 0) .u64).bind fun qr => (cInt (Dp.partAt q0.1 0 1) .u64).bind fun qr1 => K0 qr qr1 else none
@[simp] theorem R51_r (qr qr1 : Int) (K0 : Int → Int → R) : R51 (r51 qr qr1) K0 = K0 qr qr1 := by kernel_rfl
/-! 52 : spec.l2Kind -/
def c52 (k : Nat) (wide vars : Int) (t : List PV) : R := evF P E T k 52 [.s (.c (.p (PV.int .i64 wide))), .s (.c (.p (PV.int .i64 vars))), .s (.c (.p (PV.row 2 0 t)))] []
def r52 (qr : Int) : R := some ([.c (.p (PV.int .i64 qr))], [])
def R52 (x0 : R) (K0 : Int → R) : R := x0.bind fun q0 => bif lensB q0.2 [] && lensS q0.1 [.c (.p (.int .i64))] then (cInt (resAt q0.1 0) .i64).bind fun qr => K0 qr else none
@[simp] theorem R52_r (qr : Int) (K0 : Int → R) : R52 (r52 qr) K0 = K0 qr := by kernel_rfl
def L52_1 (k n : Nat) (wide vars : Int) (pileLen : Nat) (t27 : List PV) (t28 t29 : Int) (xs : List PV) : R := evLoopAt P E T k 52 52 [] [1, 1, 1, 0, 1, 0] [] n ⟨mkT 83 [(0, .s (.c (.p (PV.int .i64 wide)))), (1, .s (.c (.p (PV.int .i64 vars)))), (7, .s (.c (.loc 0 0 0 0 pileLen))), (27, .s (.c (.p (PV.row 2 0 t27)))), (28, .s (.c (.p (PV.int .i64 t28)))), (29, .s (.c (.p (PV.int .i64 t29))))], [.arr 3 0 0 false xs]⟩
def L52_2 (k n1 n : Nat) (wide vars : Int) (pileLen : Nat) (many part own : Int) (t27 : List PV) (t28 t29 : Int) (xs : List PV) : R := evLoopAt P E T k 52 52 [] [1, 1, 1, 0, 1, 0, 0, 1, 1, 0, 0, 1, 1, 1, 0, 0] [n1] n ⟨mkT 83 [(0, .s (.c (.p (PV.int .i64 wide)))), (1, .s (.c (.p (PV.int .i64 vars)))), (7, .s (.c (.loc 0 0 0 0 pileLen))), (10, .s (.c (.p (PV.int .i64 many)))), (11, .s (.c (.p (PV.int .i64 part)))), (12, .s (.c (.p (PV.int .i64 own)))), (27, .s (.c (.p (PV.row 2 0 t27)))), (28, .s (.c (.p (PV.int .i64 t28)))), (29, .s (.c (.p (PV.int .i64 t29))))], [.arr 3 0 0 false xs]⟩
/-! 53 : spec.l1In -/
def c53 (k : Nat) (n1 lo hi : Int) : R := evF P E T k 53 [.s (.c (.p (PV.int .i64 n1))), .s (.c (.p (PV.int .i64 lo))), .s (.c (.p (PV.int .i64 hi)))] []
def r53 (b : Bool) : R := some ([.c (.p (PV.bool b))], [])
def R53 (x0 : R) (K0 : Bool → R) : R := x0.bind fun q0 => bif lensB q0.2 [] && lensS q0.1 [.c (.p (.bool))] then (cBool (resAt q0.1 0)).bind fun b => K0 b else none
@[simp] theorem R53_r (b : Bool) (K0 : Bool → R) : R53 (r53 b) K0 = K0 b := by kernel_rfl
/-! 54 : spec.l2Need -/
def c54 (k : Nat) (op : Int) : R := evF P E T k 54 [.s (.c (.p (PV.int .i64 op)))] []
def r54 (qr qr1 qr2 : Int) : R := some ([.c (.p (PV.int .i64 qr)), .c (.p (PV.int .i64 qr1)), .c (.p (PV.int .i64 qr2))], [])
def R54 (x0 : R) (K0 : Int → Int → Int → R) : R := x0.bind fun q0 => bif lensB q0.2 [] && lensS q0.1 [.c (.p (.int .i64)), .c (.p (.int .i64)), .c (.p (.int .i64))] then (cInt (resAt q0.1 0) .i64).bind fun qr => (cInt (resAt q0.1 1) .i64).bind fun qr1 => (cInt (resAt q0.1 2) .i64).bind fun qr2 => K0 qr qr1 qr2 else none
@[simp] theorem R54_r (qr qr1 qr2 : Int) (K0 : Int → Int → Int → R) : R54 (r54 qr qr1 qr2) K0 = K0 qr qr1 qr2 := by kernel_rfl
/-! 55 : spec.l1Cut -/
def c55 (k : Nat) (wide a : Int) : R := evF P E T k 55 [.s (.c (.p (PV.int .i64 wide))), .s (.c (.p (PV.int .u64 a)))] []
def r55 (qr : Int) : R := some ([.c (.p (PV.int .u64 qr))], [])
def R55 (x0 : R) (K0 : Int → R) : R := x0.bind fun q0 => bif lensB q0.2 [] && lensS q0.1 [.c (.p (.int .u64))] then (cInt (resAt q0.1 0) .u64).bind fun qr => K0 qr else none
@[simp] theorem R55_r (qr : Int) (K0 : Int → R) : R55 (r55 qr) K0 = K0 qr := by kernel_rfl
def L55_1 (k n : Nat) (wide a out k1 : Int) : R := evLoopAt P E T k 55 55 [] [1, 1, 0, 1, 0] [] n ⟨mkT 20 [(0, .s (.c (.p (PV.int .i64 wide)))), (1, .s (.c (.p (PV.int .u64 a)))), (5, .s (.c (.p (PV.int .u64 out)))), (6, .s (.c (.p (PV.int .i64 k1))))], []⟩
/-! 56 : spec.l2From -/
def c56 (k : Nat) (t : List PV) (k1 : Int) : R := evF P E T k 56 [.s (.c (.p (PV.row 2 0 t))), .s (.c (.p (PV.int .i64 k1)))] []
def r56 (qr : Int) : R := some ([.c (.p (PV.int .i64 qr))], [])
def R56 (x0 : R) (K0 : Int → R) : R := x0.bind fun q0 => bif lensB q0.2 [] && lensS q0.1 [.c (.p (.int .i64))] then (cInt (resAt q0.1 0) .i64).bind fun qr => K0 qr else none
@[simp] theorem R56_r (qr : Int) (K0 : Int → R) : R56 (r56 qr) K0 = K0 qr := by kernel_rfl
def L56_1 (k n : Nat) (t : List PV) (many from1 : Int) : R := evLoopAt P E T k 56 56 [] [1, 1, 1, 0, 0] [] n ⟨mkT 29 [(0, .s (.c (.p (PV.row 2 0 t)))), (5, .s (.c (.p (PV.int .i64 many)))), (8, .s (.c (.p (PV.int .i64 from1))))], []⟩
/-! 57 : spec.l18Num -/
def c57 (k : Nat) (wide op a a1 b b1 : Int) : R := evF P E T k 57 [.s (.c (.p (PV.int .i64 wide))), .s (.c (.p (PV.int .i64 op))), .s (.c (.p (PV.agg [.int .u64 a, .int .u64 a1]))), .s (.c (.p (PV.agg [.int .u64 b, .int .u64 b1])))] []
def r57 (qr qr1 : Int) : R := some ([.agg [.p (PV.int .u64 qr), .p (PV.int .u64 qr1)]], [])
def R57 (x0 : R) (K0 : Int → Int → R) : R := x0.bind fun q0 => bif lensB q0.2 [] && lensS q0.1 [.agg [.p (.int .u64), .p (.int .u64)]] then (cInt (Dp.partAt q0.1 0 0) .u64).bind fun qr => (cInt (Dp.partAt q0.1 0 1) .u64).bind fun qr1 => K0 qr qr1 else none
@[simp] theorem R57_r (qr qr1 : Int) (K0 : Int → Int → R) : R57 (r57 qr qr1) K0 = K0 qr qr1 := by kernel_rfl
/-! 58 : spec.l18Ask -/
def c58 (k : Nat) (op a a1 b b1 : Int) : R := evF P E T k 58 [.s (.c (.p (PV.int .i64 op))), .s (.c (.p (PV.agg [.int .u64 a, .int .u64 a1]))), .s (.c (.p (PV.agg [.int .u64 b, .int .u64 b1])))] []
def r58 (qr qr1 : Int) : R := some ([.agg [.p (PV.int .u64 qr), .p (PV.int .u64 qr1)]], [])
def R58 (x0 : R) (K0 : Int → Int → R) : R := x0.bind fun q0 => bif lensB q0.2 [] && lensS q0.1 [.agg [.p (.int .u64), .p (.int .u64)]] then (cInt (Dp.partAt q0.1 0 0) .u64).bind fun qr => (cInt (Dp.partAt q0.1 0 1) .u64).bind fun qr1 => K0 qr qr1 else none
@[simp] theorem R58_r (qr qr1 : Int) (K0 : Int → Int → R) : R58 (r58 qr qr1) K0 = K0 qr qr1 := by kernel_rfl
/-! 59f60 : slices.ContainsFunc[[]uint64,uint64] -/
def c59f60 (k : Nat) (qs : List PV) (n1 : Int) : R := evF P E T k 59 [.s (.c (.p (PV.row 0 0 qs))), .s (.c (.fn 60 [0]))] [[.p (PV.int .i64 n1)]]
def r59f60 (qr : Int) (b : Bool) : R := some ([.c (.p (PV.bool b))], [[.p (PV.int .i64 qr)]])
def R59f60 (x0 : R) (K0 : Int → Bool → R) : R := x0.bind fun q0 => bif lensB q0.2 [[.p (.int .i64)]] && lensS q0.1 [.c (.p (.bool))] then (cInt (cellAt q0.2 0 0) .i64).bind fun qr => (cBool (resAt q0.1 0)).bind fun b => K0 qr b else none
@[simp] theorem R59f60_r (qr : Int) (b : Bool) (K0 : Int → Bool → R) : R59f60 (r59f60 qr b) K0 = K0 qr b := by kernel_rfl
/-! 60 : impl.isState$1 -/
def c60 (k : Nat) (a n1 : Int) : R := evF P E T k 60 [.s (.c (.p (PV.int .u64 a))), .s (.c (.bptr 0 0))] [[.p (PV.int .i64 n1)]]
def r60 (qr : Int) (b : Bool) : R := some ([.c (.p (PV.bool b))], [[.p (PV.int .i64 qr)]])
def R60 (x0 : R) (K0 : Int → Bool → R) : R := x0.bind fun q0 => bif lensB q0.2 [[.p (.int .i64)]] && lensS q0.1 [.c (.p (.bool))] then (cInt (cellAt q0.2 0 0) .i64).bind fun qr => (cBool (resAt q0.1 0)).bind fun b => K0 qr b else none
@[simp] theorem R60_r (qr : Int) (b : Bool) (K0 : Int → Bool → R) : R60 (r60 qr b) K0 = K0 qr b := by kernel_rfl
/-! 61 : impl.apply -/
def c61 (k : Nat) (wide op a b : Int) : R := evF P E T k 61 [.s (.c (.p (PV.int .i64 wide))), .s (.c (.p (PV.int .i64 op))), .s (.c (.p (PV.int .u64 a))), .s (.c (.p (PV.int .u64 b)))] []
def r61 (qr : Int) : R := some ([.c (.p (PV.int .u64 qr))], [])
def R61 (x0 : R) (K0 : Int → R) : R := x0.bind fun q0 => bif lensB q0.2 [] && lensS q0.1 [.c (.p (.int .u64))] then (cInt (resAt q0.1 0) .u64).bind fun qr => K0 qr else none
@[simp] theorem R61_r (qr : Int) (K0 : Int → R) : R61 (r61 qr) K0 = K0 qr := by kernel_rfl
/-! 62 : spec.l1Cur).word -/
def c62 (k : Nat) (wide : Int) (l : List PV) (n1 n11 : Int) : R := evF P E T k 62 [.s (.c (.bptr 0 0)), .s (.c (.p (PV.int .i64 wide)))] [[.p (PV.row 0 0 l), .p (PV.int .i64 n1), .p (PV.int .u64 n11)]]
def r62 (l : List PV) (qr qr1 qr2 : Int) : R := some ([.c (.p (PV.int .u64 qr2))], [[.p (PV.row 0 0 l), .p (PV.int .i64 qr), .p (PV.int .u64 qr1)]])
def R62 (x0 : R) (K0 : List PV → Int → Int → Int → R) : R := x0.bind fun q0 => bif lensB q0.2 [[.p (.row 0), .p (.int .i64), .p (.int .u64)]] && lensS q0.1 [.c (.p (.int .u64))] then (cRow (cellAt q0.2 0 0) 0).bind fun l => (cInt (cellAt q0.2 0 1) .i64).bind fun qr => (cInt (cellAt q0.2 0 2) .u64).bind fun qr1 => (cInt (resAt q0.1 0) .u64).bind fun qr2 => K0 l qr qr1 qr2 else none
@[simp] theorem R62_r (l : List PV) (qr qr1 qr2 : Int) (K0 : List PV → Int → Int → Int → R) : R62 (r62 l qr qr1 qr2) K0 = K0 l qr qr1 qr2 := by kernel_rfl
/-! 63 : spec.l1Both -/
def c63 (k : Nat) (wide a b : Int) : R := evF P E T k 63 [.s (.c (.p (PV.int .i64 wide))), .s (.c (.p (PV.int .u64 a))), .s (.c (.p (PV.int .u64 b)))] []
def r63 (b : Bool) : R := some ([.c (.p (PV.bool b))], [])
def R63 (x0 : R) (K0 : Bool → R) : R := x0.bind fun q0 => bif lensB q0.2 [] && lensS q0.1 [.c (.p (.bool))] then (cBool (resAt q0.1 0)).bind fun b => K0 b else none
@[simp] theorem R63_r (b : Bool) (K0 : Bool → R) : R63 (r63 b) K0 = K0 b := by kernel_rfl
/-! 64 : spec.l1Cur).next -/
def c64 (k : Nat) (l : List PV) (n1 n11 : Int) : R := evF P E T k 64 [.s (.c (.bptr 0 0))] [[.p (PV.row 0 0 l), .p (PV.int .i64 n1), .p (PV.int .u64 n11)]]
def r64 (l : List PV) (qr qr1 qr2 : Int) : R := some ([.c (.p (PV.int .i64 qr2))], [[.p (PV.row 0 0 l), .p (PV.int .i64 qr), .p (PV.int .u64 qr1)]])
def R64 (x0 : R) (K0 : List PV → Int → Int → Int → R) : R := x0.bind fun q0 => bif lensB q0.2 [[.p (.row 0), .p (.int .i64), .p (.int .u64)]] && lensS q0.1 [.c (.p (.int .i64))] then (cRow (cellAt q0.2 0 0) 0).bind fun l => (cInt (cellAt q0.2 0 1) .i64).bind fun qr => (cInt (cellAt q0.2 0 2) .u64).bind fun qr1 => (cInt (resAt q0.1 0) .i64).bind fun qr2 => K0 l qr qr1 qr2 else none
@[simp] theorem R64_r (l : List PV) (qr qr1 qr2 : Int) (K0 : List PV → Int → Int → Int → R) : R64 (r64 l qr qr1 qr2) K0 = K0 l qr qr1 qr2 := by kernel_rfl
/-! 65f44 : impl.Span] -/
def c65f44 (k : Nat) (qs : List PV) (n1 : Int) : R := evF P E T k 65 [.s (.c (.p (PV.row 2 0 qs))), .s (.c (.cfn 44 [PV.agg [.int .i64 n1]]))] []
def r65f44 (qr : Int) : R := some ([.c (.p (PV.int .i64 qr))], [])
def R65f44 (x0 : R) (K0 : Int → R) : R := x0.bind fun q0 => bif lensB q0.2 [] && lensS q0.1 [.c (.p (.int .i64))] then (cInt (resAt q0.1 0) .i64).bind fun qr => K0 qr else none
@[simp] theorem R65f44_r (qr : Int) (K0 : Int → R) : R65f44 (r65f44 qr) K0 = K0 qr := by kernel_rfl
def R65f44p (x0 : R) (K0 : Int → R) : R := x0.bind fun q0 => bif q0.1.all plainS && q0.2.all (fun cs => cs.all plainC) then (bif lensB q0.2 [] && lensS q0.1 [.c (.p (.int .i64))] then (cInt (resAt q0.1 0) .i64).bind fun qr => K0 qr else none) else none
@[simp] theorem R65f44p_r (qr : Int) (K0 : Int → R) : R65f44p (r65f44 qr) K0 = K0 qr := by kernel_rfl
def L65f44_1 (k n : Nat) (qs : List PV) (n1 t7 t8 : Int) : R := evLoopAt P E T k 65 45065 [] [1, 0, 1, 0] [] n ⟨mkT 19 [(0, .s (.c (.p (PV.row 2 0 qs)))), (1, .s (.c (.cfn 44 [PV.agg [.int .i64 n1]]))), (7, .s (.c (.p (PV.int .i64 t7)))), (8, .s (.c (.p (PV.int .i64 t8))))], []⟩
/-! 66f49 : slices.IndexFunc[[]int,int] -/
def c66f49 (k : Nat) (qs : List PV) (n1 : Int) : R := evF P E T k 66 [.s (.c (.p (PV.row 0 0 qs))), .s (.c (.fn 49 [0]))] [[.p (PV.int .i64 n1)]]
def r66f49 (qr qr1 : Int) : R := some ([.c (.p (PV.int .i64 qr1))], [[.p (PV.int .i64 qr)]])
def R66f49 (x0 : R) (K0 : Int → Int → R) : R := x0.bind fun q0 => bif lensB q0.2 [[.p (.int .i64)]] && lensS q0.1 [.c (.p (.int .i64))] then (cInt (cellAt q0.2 0 0) .i64).bind fun qr => (cInt (resAt q0.1 0) .i64).bind fun qr1 => K0 qr qr1 else none
@[simp] theorem R66f49_r (qr qr1 : Int) (K0 : Int → Int → R) : R66f49 (r66f49 qr qr1) K0 = K0 qr qr1 := by kernel_rfl
def L66f49_1 (k n : Nat) (qs : List PV) (t7 t8 n1 : Int) : R := evLoopAt P E T k 66 50066 [1] [1, 0, 1, 0] [] n ⟨mkT 19 [(0, .s (.c (.p (PV.row 0 0 qs)))), (1, .s (.c (.fn 49 [0]))), (7, .s (.c (.p (PV.int .i64 t7)))), (8, .s (.c (.p (PV.int .i64 t8))))], [.box [.p (PV.int .i64 n1)]]⟩
/-! 67 : impl.sumSpan -/
def c67 (k : Nat) (all all1 a a1 b b1 : Int) : R := evF P E T k 67 [.s (.c (.p (PV.agg [.int .u64 all, .int .u64 all1]))), .s (.c (.p (PV.agg [.int .u64 a, .int .u64 a1]))), .s (.c (.p (PV.agg [.int .u64 b, .int .u64 b1])))] []
def r67 (qr qr1 : Int) : R := some ([.agg [.p (PV.int .u64 qr), .p (PV.int .u64 qr1)]], [])
def R67 (x0 : R) (K0 : Int → Int → R) : R := x0.bind fun q0 => bif lensB q0.2 [] && lensS q0.1 [.agg [.p (.int .u64), .p (.int .u64)]] then (cInt (Dp.partAt q0.1 0 0) .u64).bind fun qr => (cInt (Dp.partAt q0.1 0 1) .u64).bind fun qr1 => K0 qr qr1 else none
@[simp] theorem R67_r (qr qr1 : Int) (K0 : Int → Int → R) : R67 (r67 qr qr1) K0 = K0 qr qr1 := by kernel_rfl
/-! 68 : impl.productSpan -/
def c68 (k : Nat) (all all1 a a1 b b1 : Int) : R := evF P E T k 68 [.s (.c (.p (PV.agg [.int .u64 all, .int .u64 all1]))), .s (.c (.p (PV.agg [.int .u64 a, .int .u64 a1]))), .s (.c (.p (PV.agg [.int .u64 b, .int .u64 b1])))] []
def r68 (qr qr1 : Int) : R := some ([.agg [.p (PV.int .u64 qr), .p (PV.int .u64 qr1)]], [])
def R68 (x0 : R) (K0 : Int → Int → R) : R := x0.bind fun q0 => bif lensB q0.2 [] && lensS q0.1 [.agg [.p (.int .u64), .p (.int .u64)]] then (cInt (Dp.partAt q0.1 0 0) .u64).bind fun qr => (cInt (Dp.partAt q0.1 0 1) .u64).bind fun qr1 => K0 qr qr1 else none
@[simp] theorem R68_r (qr qr1 : Int) (K0 : Int → Int → R) : R68 (r68 qr qr1) K0 = K0 qr qr1 := by kernel_rfl
/-! 69 : impl.comparison -/
def c69 (k : Nat) (yes no : Bool) : R := evF P E T k 69 [.s (.c (.p (PV.bool yes))), .s (.c (.p (PV.bool no)))] []
def r69 (qr qr1 : Int) : R := some ([.agg [.p (PV.int .u64 qr), .p (PV.int .u64 qr1)]], [])
def R69 (x0 : R) (K0 : Int → Int → R) : R := x0.bind fun q0 => bif lensB q0.2 [] && lensS q0.1 [.agg [.p (.int .u64), .p (.int .u64)]] then (cInt (Dp.partAt q0.1 0 0) .u64).bind fun qr => (cInt (Dp.partAt q0.1 0 1) .u64).bind fun qr1 => K0 qr qr1 else none
@[simp] theorem R69_r (qr qr1 : Int) (K0 : Int → Int → R) : R69 (r69 qr qr1) K0 = K0 qr qr1 := by kernel_rfl
/-! 70 : spec.l1Wide -/
def c70 (k : Nat) (wide : Int) : R := evF P E T k 70 [.s (.c (.p (PV.int .i64 wide)))] []
def r70 (b : Bool) : R := some ([.c (.p (PV.bool b))], [])
def R70 (x0 : R) (K0 : Bool → R) : R := x0.bind fun q0 => bif lensB q0.2 [] && lensS q0.1 [.c (.p (.bool))] then (cBool (resAt q0.1 0)).bind fun b => K0 b else none
@[simp] theorem R70_r (b : Bool) (K0 : Bool → R) : R70 (r70 b) K0 = K0 b := by kernel_rfl
/-! 71 : spec.l2N -/
def c71 (k : Nat) (wide vars n1 n11 : Int) : R := evF P E T k 71 [.s (.c (.p (PV.int .i64 wide))), .s (.c (.p (PV.int .i64 vars))), .s (.c (.p (PV.agg [.int .i64 n1, .int .u64 n11])))] []
def r71 (b : Bool) : R := some ([.c (.p (PV.bool b))], [])
def R71 (x0 : R) (K0 : Bool → R) : R := x0.bind fun q0 => bif lensB q0.2 [] && lensS q0.1 [.c (.p (.bool))] then (cBool (resAt q0.1 0)).bind fun b => K0 b else none
@[simp] theorem R71_r (b : Bool) (K0 : Bool → R) : R71 (r71 b) K0 = K0 b := by kernel_rfl
/-! 72 : spec.l18Fits -/
def c72 (k : Nat) (wide a b : Int) : R := evF P E T k 72 [.s (.c (.p (PV.int .i64 wide))), .s (.c (.p (PV.int .u64 a))), .s (.c (.p (PV.int .u64 b)))] []
def r72 (b : Bool) : R := some ([.c (.p (PV.bool b))], [])
def R72 (x0 : R) (K0 : Bool → R) : R := x0.bind fun q0 => bif lensB q0.2 [] && lensS q0.1 [.c (.p (.bool))] then (cBool (resAt q0.1 0)).bind fun b => K0 b else none
@[simp] theorem R72_r (b : Bool) (K0 : Bool → R) : R72 (r72 b) K0 = K0 b := by kernel_rfl
/-! 73f60 : slices.IndexFunc[[]uint64,uint64] -/
def c73f60 (k : Nat) (qs : List PV) (n1 : Int) : R := evF P E T k 73 [.s (.c (.p (PV.row 0 0 qs))), .s (.c (.fn 60 [0]))] [[.p (PV.int .i64 n1)]]
def r73f60 (qr qr1 : Int) : R := some ([.c (.p (PV.int .i64 qr1))], [[.p (PV.int .i64 qr)]])
def R73f60 (x0 : R) (K0 : Int → Int → R) : R := x0.bind fun q0 => bif lensB q0.2 [[.p (.int .i64)]] && lensS q0.1 [.c (.p (.int .i64))] then (cInt (cellAt q0.2 0 0) .i64).bind fun qr => (cInt (resAt q0.1 0) .i64).bind fun qr1 => K0 qr qr1 else none
@[simp] theorem R73f60_r (qr qr1 : Int) (K0 : Int → Int → R) : R73f60 (r73f60 qr qr1) K0 = K0 qr qr1 := by kernel_rfl
def L73f60_1 (k n : Nat) (qs : List PV) (t7 t8 n1 : Int) : R := evLoopAt P E T k 73 61073 [1] [1, 0, 1, 0] [] n ⟨mkT 19 [(0, .s (.c (.p (PV.row 0 0 qs)))), (1, .s (.c (.fn 60 [0]))), (7, .s (.c (.p (PV.int .i64 t7)))), (8, .s (.c (.p (PV.int .i64 t8))))], [.box [.p (PV.int .i64 n1)]]⟩
/-! 74 : impl.DivWord -/
def c74 (k : Nat) (wide a b : Int) : R := evF P E T k 74 [.s (.c (.p (PV.int .i64 wide))), .s (.c (.p (PV.int .u64 a))), .s (.c (.p (PV.int .u64 b)))] []
def r74 (qr qr1 : Int) (b : Bool) : R := some ([.c (.p (PV.int .u64 qr)), .c (.p (PV.int .u64 qr1)), .c (.p (PV.bool b))], [])
def R74 (x0 : R) (K0 : Int → Int → Bool → R) : R := x0.bind fun q0 => bif lensB q0.2 [] && lensS q0.1 [.c (.p (.int .u64)), .c (.p (.int .u64)), .c (.p (.bool))] then (cInt (resAt q0.1 0) .u64).bind fun qr => (cInt (resAt q0.1 1) .u64).bind fun qr1 => (cBool (resAt q0.1 2)).bind fun b => K0 qr qr1 b else none
@[simp] theorem R74_r (qr qr1 : Int) (b : Bool) (K0 : Int → Int → Bool → R) : R74 (r74 qr qr1 b) K0 = K0 qr qr1 b := by kernel_rfl
/-! 75 : impl.shift -/
def c75 (k : Nat) (wide a by1 : Int) (left : Bool) : R := evF P E T k 75 [.s (.c (.p (PV.int .i64 wide))), .s (.c (.p (PV.int .u64 a))), .s (.c (.p (PV.int .u64 by1))), .s (.c (.p (PV.bool left)))] []
def r75 (qr : Int) : R := some ([.c (.p (PV.int .u64 qr))], [])
def R75 (x0 : R) (K0 : Int → R) : R := x0.bind fun q0 => bif lensB q0.2 [] && lensS q0.1 [.c (.p (.int .u64))] then (cInt (resAt q0.1 0) .u64).bind fun qr => K0 qr else none
@[simp] theorem R75_r (qr : Int) (K0 : Int → R) : R75 (r75 qr) K0 = K0 qr := by kernel_rfl
/-! 76 : impl.truth -/
def c76 (k : Nat) (holds : Bool) : R := evF P E T k 76 [.s (.c (.p (PV.bool holds)))] []
def r76 (qr : Int) : R := some ([.c (.p (PV.int .u64 qr))], [])
def R76 (x0 : R) (K0 : Int → R) : R := x0.bind fun q0 => bif lensB q0.2 [] && lensS q0.1 [.c (.p (.int .u64))] then (cInt (resAt q0.1 0) .u64).bind fun qr => K0 qr else none
@[simp] theorem R76_r (qr : Int) (K0 : Int → R) : R76 (r76 qr) K0 = K0 qr := by kernel_rfl
/-! 77 : impl.signed -/
def c77 (k : Nat) (wide a : Int) : R := evF P E T k 77 [.s (.c (.p (PV.int .i64 wide))), .s (.c (.p (PV.int .u64 a)))] []
def r77 (qr : Int) : R := some ([.c (.p (PV.int .i64 qr))], [])
def R77 (x0 : R) (K0 : Int → R) : R := x0.bind fun q0 => bif lensB q0.2 [] && lensS q0.1 [.c (.p (.int .i64))] then (cInt (resAt q0.1 0) .i64).bind fun qr => K0 qr else none
@[simp] theorem R77_r (qr : Int) (K0 : Int → R) : R77 (r77 qr) K0 = K0 qr := by kernel_rfl
/-! 78 : spec.l1Cur).long -/
def c78 (k : Nat) (l : List PV) (n1 n11 : Int) : R := evF P E T k 78 [.s (.c (.bptr 0 0))] [[.p (PV.row 0 0 l), .p (PV.int .i64 n1), .p (PV.int .u64 n11)]]
def r78 (l : List PV) (qr qr1 qr2 : Int) : R := some ([.c (.p (PV.int .u64 qr2))], [[.p (PV.row 0 0 l), .p (PV.int .i64 qr), .p (PV.int .u64 qr1)]])
def R78 (x0 : R) (K0 : List PV → Int → Int → Int → R) : R := x0.bind fun q0 => bif lensB q0.2 [[.p (.row 0), .p (.int .i64), .p (.int .u64)]] && lensS q0.1 [.c (.p (.int .u64))] then (cRow (cellAt q0.2 0 0) 0).bind fun l => (cInt (cellAt q0.2 0 1) .i64).bind fun qr => (cInt (cellAt q0.2 0 2) .u64).bind fun qr1 => (cInt (resAt q0.1 0) .u64).bind fun qr2 => K0 l qr qr1 qr2 else none
@[simp] theorem R78_r (l : List PV) (qr qr1 qr2 : Int) (K0 : List PV → Int → Int → Int → R) : R78 (r78 l qr qr1 qr2) K0 = K0 l qr qr1 qr2 := by kernel_rfl
def L78_1 (k n : Nat) (n1 i : Int) (l : List PV) (n11 n12 : Int) : R := evLoopAt P E T k 78 78 [3] [1, 1, 0, 1, 0] [] n ⟨mkT 16 [(0, .s (.c (.bptr 0 0))), (3, .s (.c (.p (PV.int .u64 n1)))), (4, .s (.c (.p (PV.int .i64 i))))], [.box [.p (PV.row 0 0 l), .p (PV.int .i64 n11), .p (PV.int .u64 n12)]]⟩
/-! 79 : spec.GoodWord -/
def c79 (k : Nat) (wide a : Int) : R := evF P E T k 79 [.s (.c (.p (PV.int .i64 wide))), .s (.c (.p (PV.int .u64 a)))] []
def r79 (b : Bool) : R := some ([.c (.p (PV.bool b))], [])
def R79 (x0 : R) (K0 : Bool → R) : R := x0.bind fun q0 => bif lensB q0.2 [] && lensS q0.1 [.c (.p (.bool))] then (cBool (resAt q0.1 0)).bind fun b => K0 b else none
@[simp] theorem R79_r (b : Bool) (K0 : Bool → R) : R79 (r79 b) K0 = K0 b := by kernel_rfl
/-! 81 : bits.Mul64 -/
def c81 (k : Nat) (x y : Int) : R := evF P E T k 81 [.s (.c (.p (PV.int .u64 x))), .s (.c (.p (PV.int .u64 y)))] []
def r81 (qr qr1 : Int) : R := some ([.c (.p (PV.int .u64 qr)), .c (.p (PV.int .u64 qr1))], [])
def R81 (x0 : R) (K0 : Int → Int → R) : R := x0.bind fun q0 => bif lensB q0.2 [] && lensS q0.1 [.c (.p (.int .u64)), .c (.p (.int .u64))] then (cInt (resAt q0.1 0) .u64).bind fun qr => (cInt (resAt q0.1 1) .u64).bind fun qr1 => K0 qr qr1 else none
@[simp] theorem R81_r (qr qr1 : Int) (K0 : Int → Int → R) : R81 (r81 qr qr1) K0 = K0 qr qr1 := by kernel_rfl
/-! 82 : impl.areWords -/
def c82 (k : Nat) (wide a b : Int) : R := evF P E T k 82 [.s (.c (.p (PV.int .i64 wide))), .s (.c (.p (PV.int .u64 a))), .s (.c (.p (PV.int .u64 b)))] []
def r82 (b : Bool) : R := some ([.c (.p (PV.bool b))], [])
def R82 (x0 : R) (K0 : Bool → R) : R := x0.bind fun q0 => bif lensB q0.2 [] && lensS q0.1 [.c (.p (.bool))] then (cBool (resAt q0.1 0)).bind fun b => K0 b else none
@[simp] theorem R82_r (b : Bool) (K0 : Bool → R) : R82 (r82 b) K0 = K0 b := by kernel_rfl
/-! 83 : bits.Div64 -/
def c83 (k : Nat) (hi lo y : Int) : R := evF P E T k 83 [.s (.c (.p (PV.int .u64 hi))), .s (.c (.p (PV.int .u64 lo))), .s (.c (.p (PV.int .u64 y)))] []
def r83 (qr qr1 : Int) : R := some ([.c (.p (PV.int .u64 qr)), .c (.p (PV.int .u64 qr1))], [])
def R83 (x0 : R) (K0 : Int → Int → R) : R := x0.bind fun q0 => bif lensB q0.2 [] && lensS q0.1 [.c (.p (.int .u64)), .c (.p (.int .u64))] then (cInt (resAt q0.1 0) .u64).bind fun qr => (cInt (resAt q0.1 1) .u64).bind fun qr1 => K0 qr qr1 else none
@[simp] theorem R83_r (qr qr1 : Int) (K0 : Int → Int → R) : R83 (r83 qr qr1) K0 = K0 qr qr1 := by kernel_rfl
def L83_1 (k n : Nat) (y qs yn1 yn0 un32 un1 un0 q1 rhat : Int) : R := evLoopAt P E T k 83 83 [] [1, 1, 1, 1, 1, 1, 1, 1, 1, 1, 1, 1, 1, 1, 0, 0] [] n ⟨mkT 135 [(2, .s (.c (.p (PV.int .u64 y)))), (8, .s (.c (.p (PV.int .u64 qs)))), (9, .s (.c (.p (PV.int .u64 yn1)))), (10, .s (.c (.p (PV.int .u64 yn0)))), (11, .s (.c (.p (PV.int .u64 un32)))), (13, .s (.c (.p (PV.int .u64 un1)))), (14, .s (.c (.p (PV.int .u64 un0)))), (15, .s (.c (.p (PV.int .u64 q1)))), (16, .s (.c (.p (PV.int .u64 rhat))))], []⟩
def L83_2 (k n : Nat) (y qs yn1 yn0 un0 q1 rhat un21 q0 : Int) : R := evLoopAt P E T k 83 83 [] [1, 1, 1, 1, 1, 1, 1, 1, 1, 1, 1, 1, 1, 1, 1, 1, 1, 1, 0, 0] [] n ⟨mkT 135 [(2, .s (.c (.p (PV.int .u64 y)))), (8, .s (.c (.p (PV.int .u64 qs)))), (9, .s (.c (.p (PV.int .u64 yn1)))), (10, .s (.c (.p (PV.int .u64 yn0)))), (14, .s (.c (.p (PV.int .u64 un0)))), (15, .s (.c (.p (PV.int .u64 q1)))), (16, .s (.c (.p (PV.int .u64 rhat)))), (17, .s (.c (.p (PV.int .u64 un21)))), (18, .s (.c (.p (PV.int .u64 q0))))], []⟩
/-! 84 : bits.LeadingZeros64 -/
def c84 (k : Nat) (x : Int) : R := evF P E T k 84 [.s (.c (.p (PV.int .u64 x)))] []
def r84 (qr : Int) : R := some ([.c (.p (PV.int .i64 qr))], [])
def R84 (x0 : R) (K0 : Int → R) : R := x0.bind fun q0 => bif lensB q0.2 [] && lensS q0.1 [.c (.p (.int .i64))] then (cInt (resAt q0.1 0) .i64).bind fun qr => K0 qr else none
@[simp] theorem R84_r (qr : Int) (K0 : Int → R) : R84 (r84 qr) K0 = K0 qr := by kernel_rfl
/-! 85 : bits.Len64 -/
def c85 (k : Nat) (x : Int) : R := evF P E T k 85 [.s (.c (.p (PV.int .u64 x)))] []
def r85 (qr : Int) : R := some ([.c (.p (PV.int .i64 qr))], [])
def R85 (x0 : R) (K0 : Int → R) : R := x0.bind fun q0 => bif lensB q0.2 [] && lensS q0.1 [.c (.p (.int .i64))] then (cInt (resAt q0.1 0) .i64).bind fun qr => K0 qr else none
@[simp] theorem R85_r (qr : Int) (K0 : Int → R) : R85 (r85 qr) K0 = K0 qr := by kernel_rfl
end
end Go.Proofs.Ytclkgblckicabaa
/- Normal forms: printed by nf.py. -/
set_option linter.unusedVariables false
set_option maxRecDepth 100000
namespace Go.Proofs.Ytclkgblckicabaa
open Go.Dp
/-! 3 : laws.FnSpanned -/
theorem n3 (k : Nat) (code more : List PV) : c3 (k + 1) code more =
 R4 (c4 k code more) fun b1 =>
 bif b1 then
  r3 true
 else
  R5 (c5 k code) fun v1 l1 l2 =>
  R6 (c6 k v1 l1 l2) fun v2 v3 b2 =>
  R7 (c7 k v1 l1 l2) fun v4 v5 b3 =>
  bif (!(b2 == b3)) then
   r3 false
  else
   bif (!((v2 == v4) && ((v3 == v5) && true))) then
    r3 false
   else
    bif b2 then
     R8 (c8 k v1 v2 v3) fun b4 =>
     bif !b4 then
      r3 false
     else
      bif b2 then
       L3_1 k k more v1 l1 l2 0 l2 (l2.length : Int) 0 v2 v3 []
      else
       R12 (c12 k more) fun v6 v7 v8 v9 v10 =>
       R13 (c13 k v6 v7 v8 v9 v10) fun v11 v12 b5 =>
       R14 (c14 k v6 v7 v8 v9 v10) fun v13 v14 b6 =>
       R15 (c15 k v6 v7 v8 v9 v10) fun v15 v16 b7 =>
       R16 (c16 k v6 v7 v8 v9 v10) fun v17 v18 b8 =>
       bif (!(b5 == b6)) then
        r3 false
       else
        bif (!((v11 == v13) && ((v12 == v14) && true))) then
         r3 false
        else
         bif (!(b7 == b8)) then
          r3 false
         else
          bif (!((v15 == v17) && ((v16 == v18) && true))) then
           r3 false
          else
           bif !b7 then
            r3 true
           else
            bif b5 then
            bif decide (v15 ≥ v7) then
            bif decide (v15 ≥ v9) then
            bif decide (v16 ≤ v8) then
            bif decide (v16 ≤ v10) then
            bif decide (v11 ≤ v15) then
            r3 (decide (v12 ≥ v16))
            else r3 false
            else r3 false
            else r3 false
            else r3 false
            else r3 false
            else r3 false
    else
     bif b2 then
      L3_1 k k more v1 l1 l2 0 l2 (l2.length : Int) 0 v2 v3 []
     else
      R12 (c12 k more) fun v19 v20 v21 v22 v23 =>
      R13 (c13 k v19 v20 v21 v22 v23) fun v24 v25 b9 =>
      R14 (c14 k v19 v20 v21 v22 v23) fun v26 v27 b10 =>
      R15 (c15 k v19 v20 v21 v22 v23) fun v28 v29 b11 =>
      R16 (c16 k v19 v20 v21 v22 v23) fun v30 v31 b12 =>
      bif (!(b9 == b10)) then
       r3 false
      else
       bif (!((v24 == v26) && ((v25 == v27) && true))) then
        r3 false
       else
        bif (!(b11 == b12)) then
         r3 false
        else
         bif (!((v28 == v30) && ((v29 == v31) && true))) then
          r3 false
         else
          bif !b11 then
           r3 true
          else
           bif b9 then
            bif decide (v28 ≥ v20) then
            bif decide (v28 ≥ v22) then
            bif decide (v29 ≤ v21) then
            bif decide (v29 ≤ v23) then
            bif decide (v24 ≤ v28) then
            r3 (decide (v25 ≥ v29))
            else r3 false
            else r3 false
            else r3 false
            else r3 false
            else r3 false
           else r3 false := by kernel_rfl
theorem sL3_1 (k n : Nat) (more : List PV) (w1 : Int) (t spans : List PV) (stateLen : Nat) (t73 : List PV) (t74 t75 n1 n11 : Int) (xs : List PV) : L3_1 k (n + 1) more w1 t spans stateLen t73 t74 t75 n1 n11 xs =
 bif decide (t75 < t74) then
  (lookP t73 t75).bind fun p1 =>
  bif p1.shp 2 then
   (p1.atInt .u64 0).bind fun n2 =>
   (p1.atInt .u64 1).bind fun n3 =>
   bif decide (IntKind.u64.wrap (n3 - n2) < 1000000) then
    R9 (c9 k more) fun v1 =>
    bif !(IntKind.i64.wrap (t75 + 1) == 0) then
     bif !(IntKind.u64.wrap ((IntKind.u64.wrap (n3 - n2)) + 1) == 0) then
      bif decide ((stateLen + 1) * 8 ≤ LIM) && decide (stateLen + 1 ≤ LIM) then
       L3_1 k n more w1 t spans (stateLen + 1) t73 t74 (IntKind.i64.wrap (t75 + 1)) n1 n11 ((xs.take stateLen) ++ [PV.int .u64 (IntKind.u64.wrap (n2 + ((IntKind.u64.wrap (IntKind.i64.wrap (v1.tdiv (IntKind.i64.wrap (t75 + 1))))).tmod (IntKind.u64.wrap ((IntKind.u64.wrap (n3 - n2)) + 1)))))])
      else none
     else none
    else none
   else
    R9 (c9 k more) fun v2 =>
    bif !(IntKind.i64.wrap (t75 + 1) == 0) then
     bif decide ((stateLen + 1) * 8 ≤ LIM) && decide (stateLen + 1 ≤ LIM) then
      L3_1 k n more w1 t spans (stateLen + 1) t73 t74 (IntKind.i64.wrap (t75 + 1)) n1 n11 ((xs.take stateLen) ++ [PV.int .u64 (IntKind.u64.wrap (n2 + ((IntKind.u64.wrap (IntKind.i64.wrap (v2.tdiv (IntKind.i64.wrap (t75 + 1))))).tmod 1000000)))])
     else none
    else none
  else none
 else
  R10p (c10 k w1 spans (xs.take stateLen)) fun b1 b2 =>
  R11p (c11 k w1 t (xs.take stateLen)) fun v3 b3 =>
  bif !b2 then
   r3 false
  else
   bif !b1 then
    r3 false
   else
    bif !b3 then
     r3 false
    else
     bif decide (v3 < n1) then
      r3 false
     else
      bif decide (v3 > n11) then
       r3 false
      else
       R12 (c12 k more) fun v4 v5 v6 v7 v8 =>
       R13 (c13 k v4 v5 v6 v7 v8) fun v9 v10 b4 =>
       R14 (c14 k v4 v5 v6 v7 v8) fun v11 v12 b5 =>
       R15 (c15 k v4 v5 v6 v7 v8) fun v13 v14 b6 =>
       R16 (c16 k v4 v5 v6 v7 v8) fun v15 v16 b7 =>
       bif (!(b4 == b5)) then
        r3 false
       else
        bif (!((v9 == v11) && ((v10 == v12) && true))) then
         r3 false
        else
         bif (!(b6 == b7)) then
          r3 false
         else
          bif (!((v13 == v15) && ((v14 == v16) && true))) then
           r3 false
          else
           bif !b6 then
            r3 true
           else
            bif b4 then
            bif decide (v13 ≥ v5) then
            bif decide (v13 ≥ v7) then
            bif decide (v14 ≤ v6) then
            bif decide (v14 ≤ v8) then
            bif decide (v9 ≤ v13) then
            r3 (decide (v10 ≥ v14))
            else r3 false
            else r3 false
            else r3 false
            else r3 false
            else r3 false
            else r3 false := by kernel_rfl
/-! 4 : laws.big -/
theorem n4 (k : Nat) (code more : List PV) : c4 (k + 1) code more =
 bif decide ((code.length : Int) > 1048576) then
  r4 true
 else r4 (decide ((more.length : Int) > IntKind.i64.wrap (1048576 - (code.length : Int)))) := by kernel_rfl
/-! 5 : spec.DrawSpanOf -/
theorem n5 (k : Nat) (code : List PV) : c5 (k + 1) code =
 R17 (c17 k code 0 0) fun l1 v1 v2 v3 v4 l2 =>
 R18 (c18 k v3 v4 l1 v1 v2) fun l3 v5 v6 l4 =>
 r5 v3 l2 l4 := by kernel_rfl
/-! 6 : impl.SpanOf -/
theorem n6 (k : Nat) (wide : Int) (t spans : List PV) : c6 (k + 1) wide t spans =
 R19 (c19 k wide spans) fun b1 =>
 bif !b1 then
  r6 0 0 false
 else
  R20 (c20 k wide (spans.length : Int) t) fun b2 =>
  bif !b2 then
   r6 0 0 false
  else
   R21 (c21 k wide t spans) fun v1 v2 =>
   r6 v1 v2 true := by kernel_rfl
/-! 7 : spec.SpanOf -/
theorem n7 (k : Nat) (wide : Int) (t spans : List PV) : c7 (k + 1) wide t spans =
 R22 (c22 k wide (spans.length : Int) t) fun b1 =>
 bif !b1 then
  r7 0 0 false
 else
  R23 (c23 k wide spans) fun b2 =>
  bif !b2 then
   r7 0 0 false
  else
   R24 (c24 k wide t (IntKind.i64.wrap ((t.length : Int) - 1)) spans) fun v1 v2 =>
   r7 v1 v2 true := by kernel_rfl
/-! 8 : impl.GoodSpan -/
theorem n8 (k : Nat) (wide qs qs1 : Int) : c8 (k + 1) wide qs qs1 =
 R25 (c25 k wide qs1) fun b1 =>
 bif b1 then
  r8 (decide (qs ≤ qs1))
 else r8 false := by kernel_rfl
/-! 9 : laws.numberOf -/
theorem n9 (k : Nat) (b : List PV) : c9 (k + 1) b =
 L9_1 k k 0 b (b.length : Int) 0 := by kernel_rfl
theorem sL9_1 (k n : Nat) (n1 : Int) (t6 : List PV) (t7 t8 : Int) : L9_1 k (n + 1) n1 t6 t7 t8 =
 bif decide (t8 < t7) then
  (lookP t6 t8).bind fun p1 =>
  (p1.atInt .u8 0).bind fun n2 =>
  L9_1 k n ((IntKind.i64.wrap ((IntKind.i64.wrap (31 * n1)) + (IntKind.i64.wrap n2))).tmod 1000003) t6 t7 (IntKind.i64.wrap (t8 + 1))
 else r9 n1 := by kernel_rfl
/-! 10 : impl.InSpans -/
theorem n10 (k : Nat) (wide : Int) (spans state : List PV) : c10 (k + 1) wide spans state =
 R19 (c19 k wide spans) fun b1 =>
 bif !b1 then
  r10 false false
 else
  R26 (c26 k wide (spans.length : Int) state) fun b2 =>
  bif !b2 then
   r10 false false
  else L10_1 k k state spans (spans.length : Int) 0 := by kernel_rfl
theorem sL10_1 (k n : Nat) (state t22 : List PV) (t23 t24 : Int) : L10_1 k (n + 1) state t22 t23 t24 =
 bif decide (t24 < t23) then
  (lookP t22 t24).bind fun p1 =>
  bif p1.shp 2 then
   (p1.atInt .u64 0).bind fun n1 =>
   (p1.atInt .u64 1).bind fun n2 =>
   (lookP state t24).bind fun p2 =>
   (p2.atInt .u64 0).bind fun n3 =>
   R27 (c27 k n1 n2 n3) fun b1 =>
   bif !b1 then
    r10 false true
   else L10_1 k n state t22 t23 (IntKind.i64.wrap (t24 + 1))
  else none
 else r10 true true := by kernel_rfl
/-! 11 : impl.ValueOf -/
theorem n11 (k : Nat) (wide : Int) (t state : List PV) : c11 (k + 1) wide t state =
 R26 (c26 k wide (state.length : Int) state) fun b1 =>
 bif !b1 then
  r11 0 false
 else
  R20 (c20 k wide (state.length : Int) t) fun b2 =>
  bif !b2 then
   r11 0 false
  else
   R28 (c28 k wide t state) fun v1 =>
   r11 v1 true := by kernel_rfl
/-! 12 : spec.DrawJoinSpans -/
theorem n12 (k : Nat) (code : List PV) : c12 (k + 1) code =
 R29 (c29 k code 0 0) fun l1 v1 v2 v3 =>
 R30 (c30 k v3 l1 v1 v2) fun l2 v4 v5 v6 v7 =>
 R30 (c30 k v3 l2 v4 v5) fun l3 v8 v9 v10 v11 =>
 r12 v3 v6 v7 v10 v11 := by kernel_rfl
/-! 13 : impl.JoinSpans -/
theorem n13 (k : Nat) (wide a a1 b b1 : Int) : c13 (k + 1) wide a a1 b b1 =
 R8 (c8 k wide a a1) fun b2 =>
 bif !b2 then
  r13 0 0 false
 else
  R8 (c8 k wide b b1) fun b3 =>
  bif !b3 then
   r13 0 0 false
  else
   R31 (c31 k a a1 b b1) fun v1 v2 =>
   r13 v1 v2 true := by kernel_rfl
/-! 14 : spec.JoinSpans -/
theorem n14 (k : Nat) (wide a a1 b b1 : Int) : c14 (k + 1) wide a a1 b b1 =
 R32 (c32 k wide a a1) fun b2 =>
 bif !b2 then
  r14 0 0 false
 else
  R32 (c32 k wide b b1) fun b3 =>
  bif !b3 then
   r14 0 0 false
  else
   R33 (c33 k a a1 b b1) fun v1 v2 =>
   r14 v1 v2 true := by kernel_rfl
/-! 15 : impl.MeetSpans -/
theorem n15 (k : Nat) (wide a a1 b b1 : Int) : c15 (k + 1) wide a a1 b b1 =
 R8 (c8 k wide a a1) fun b2 =>
 bif !b2 then
  r15 0 0 false
 else
  R8 (c8 k wide b b1) fun b3 =>
  bif !b3 then
   r15 0 0 false
  else
   R34 (c34 k a a1 b b1) fun v1 v2 b4 =>
   r15 v1 v2 b4 := by kernel_rfl
/-! 16 : spec.MeetSpans -/
theorem n16 (k : Nat) (wide a a1 b b1 : Int) : c16 (k + 1) wide a a1 b b1 =
 R32 (c32 k wide a a1) fun b2 =>
 bif !b2 then
  r16 0 0 false
 else
  R32 (c32 k wide b b1) fun b3 =>
  bif !b3 then
   r16 0 0 false
  else
   R35 (c35 k a b) fun v1 =>
   R36 (c36 k a1 b1) fun v2 =>
   bif decide (v1 > v2) then
    r16 0 0 false
   else r16 v1 v2 true := by kernel_rfl
/-! 17 : spec.l1Cur).term -/
theorem n17 (k : Nat) (l : List PV) (n1 n11 : Int) : c17 (k + 1) l n1 n11 =
 R37 (c37 k [PV.int .i64 1, PV.int .i64 2, PV.int .i64 3, PV.int .i64 4, PV.int .i64 8, PV.int .i64 64] l n1 n11) fun l1 v1 v2 v3 =>
 R38 (c38 k 3 l1 v1 v2) fun l2 v4 v5 v6 =>
 R39 (c39 k v3 (IntKind.i64.wrap (1 + v6)) 2 l2 v4 v5) fun l3 v7 v8 l4 =>
 R40 (c40 k 3 l3 v7 v8) fun l5 v9 v10 b1 =>
 bif b1 then
  R41 (c41 k v3 (IntKind.i64.wrap (1 + v6)) 3 l5 v9 v10) fun l6 v11 v12 l7 =>
  R38 (c38 k 40 l6 v11 v12) fun l8 v13 v14 v15 =>
  bif (v15 == 0) then
   bif decide ((0 : Int) < (l7.length : Int)) then
    (l7[0]?).bind fun p1 =>
    (putPart p1 2 1 (PV.int .u64 9223372036854775808) 0).bind fun p2 =>
    r17 l8 v13 v14 v3 (IntKind.i64.wrap (1 + v6)) ((l7.set 0 p2).take l7.length)
   else none
  else
   bif (v15 == 1) then
    bif decide ((0 : Int) ≤ IntKind.i64.wrap ((l7.length : Int) - 1)) && decide (IntKind.i64.wrap ((l7.length : Int) - 1) ≤ (l7.length : Int)) then
     r17 l8 v13 v14 v3 (IntKind.i64.wrap (1 + v6)) (l7.take ((IntKind.i64.wrap ((l7.length : Int) - 1)).toNat))
    else none
   else
    bif (v15 == 2) then
     R37 (c37 k [PV.int .i64 0, PV.int .i64 4, PV.int .i64 5] l8 v13 v14) fun l9 v16 v17 v18 =>
     r17 l9 v16 v17 v3 v18 (l7.take l7.length)
    else
     bif (v15 == 3) then
      R38 (c38 k 23 l8 v13 v14) fun l10 v19 v20 v21 =>
      bif decide ((0 : Int) ≤ IntKind.i64.wrap ((l7.length : Int) - 1)) && decide (IntKind.i64.wrap ((l7.length : Int) - 1) < (l7.length : Int)) then
       (l7[0 + ((IntKind.i64.wrap ((l7.length : Int) - 1)).toNat)]?).bind fun p3 =>
       (putPart p3 2 0 (PV.int .i64 v21) 0).bind fun p4 =>
       r17 l10 v19 v20 v3 (IntKind.i64.wrap (1 + v6)) ((l7.set (0 + ((IntKind.i64.wrap ((l7.length : Int) - 1)).toNat)) p4).take l7.length)
      else none
     else r17 l8 v13 v14 v3 (IntKind.i64.wrap (1 + v6)) (l7.take l7.length)
 else
  R38 (c38 k 40 l5 v9 v10) fun l11 v22 v23 v24 =>
  bif (v24 == 0) then
   bif decide ((0 : Int) < (l4.length : Int)) then
    (l4[0]?).bind fun p5 =>
    (putPart p5 2 1 (PV.int .u64 9223372036854775808) 0).bind fun p6 =>
    r17 l11 v22 v23 v3 (IntKind.i64.wrap (1 + v6)) ((l4.set 0 p6).take l4.length)
   else none
  else
   bif (v24 == 1) then
    bif decide ((0 : Int) ≤ IntKind.i64.wrap ((l4.length : Int) - 1)) && decide (IntKind.i64.wrap ((l4.length : Int) - 1) ≤ (l4.length : Int)) then
     r17 l11 v22 v23 v3 (IntKind.i64.wrap (1 + v6)) (l4.take ((IntKind.i64.wrap ((l4.length : Int) - 1)).toNat))
    else none
   else
    bif (v24 == 2) then
     R37 (c37 k [PV.int .i64 0, PV.int .i64 4, PV.int .i64 5] l11 v22 v23) fun l12 v25 v26 v27 =>
     r17 l12 v25 v26 v3 v27 (l4.take l4.length)
    else
     bif (v24 == 3) then
      R38 (c38 k 23 l11 v22 v23) fun l13 v28 v29 v30 =>
      bif decide ((0 : Int) ≤ IntKind.i64.wrap ((l4.length : Int) - 1)) && decide (IntKind.i64.wrap ((l4.length : Int) - 1) < (l4.length : Int)) then
       (l4[0 + ((IntKind.i64.wrap ((l4.length : Int) - 1)).toNat)]?).bind fun p7 =>
       (putPart p7 2 0 (PV.int .i64 v30) 0).bind fun p8 =>
       r17 l13 v28 v29 v3 (IntKind.i64.wrap (1 + v6)) ((l4.set (0 + ((IntKind.i64.wrap ((l4.length : Int) - 1)).toNat)) p8).take l4.length)
      else none
     else r17 l11 v22 v23 v3 (IntKind.i64.wrap (1 + v6)) (l4.take l4.length) := by kernel_rfl
/-! 18 : spec.l1Cur).spans -/
theorem n18 (k : Nat) (wide vars : Int) (l : List PV) (n1 n11 : Int) : c18 (k + 1) wide vars l n1 n11 =
 L18_1 k k wide vars 0 0 l n1 n11 [] := by kernel_rfl
theorem sL18_1 (k n : Nat) (wide vars : Int) (lLen : Nat) (k1 : Int) (l : List PV) (n1 n11 : Int) (xs : List PV) : L18_1 k (n + 1) wide vars lLen k1 l n1 n11 xs =
 bif decide (k1 < vars) then
  R30 (c30 k wide l n1 n11) fun l1 v1 v2 v3 v4 =>
  bif decide ((lLen + 1) * 16 ≤ LIM) && decide (lLen + 1 ≤ LIM) then
   L18_1 k n wide vars (lLen + 1) (IntKind.i64.wrap (k1 + 1)) l1 v1 v2 ((xs.take lLen) ++ [PV.agg [.int .u64 v3, .int .u64 v4]])
  else none
 else r18 l n1 n11 (xs.take lLen) := by kernel_rfl
/-! 19 : impl.areSpans -/
theorem n19 (k : Nat) (wide : Int) (spans : List PV) : c19 (k + 1) wide spans =
 R42 (c42 k (spans.length : Int)) fun b1 =>
 bif b1 then
  R43f44p (c43f44 k spans wide) fun b2 =>
  r19 (!b2)
 else r19 false := by kernel_rfl
/-! 20 : impl.GoodTerm -/
theorem n20 (k : Nat) (wide vars : Int) (t : List PV) : c20 (k + 1) wide vars t =
 R45 (c45 k wide) fun b1 =>
 bif !b1 then
  r20 false
 else
  R42 (c42 k vars) fun b2 =>
  bif !b2 then
   r20 false
  else
   bif decide ((t.length : Int) < 1) then
    r20 false
   else
    bif decide ((t.length : Int) > 48) then
     r20 false
    else L20_1 k k wide vars 0 t (t.length : Int) 0 [] := by kernel_rfl
theorem sL20_1 (k n : Nat) (wide vars : Int) (stackLen : Nat) (t33 : List PV) (t34 t35 : Int) (xs : List PV) : L20_1 k (n + 1) wide vars stackLen t33 t34 t35 xs =
 bif decide (t35 < t34) then
  (lookP t33 t35).bind fun p1 =>
  bif p1.shp 2 then
   (p1.atInt .i64 0).bind fun n1 =>
   (p1.atInt .u64 1).bind fun n2 =>
   R46 (c46 k n1) fun v1 v2 v3 =>
   bif (v3 == 0) then
    r20 false
   else
    R47 (c47 k wide vars n1 n2) fun b1 =>
    bif !b1 then
     r20 false
    else
     bif decide (IntKind.i64.wrap ((stackLen : Int) - v1) < 0) then
      r20 false
     else
      bif decide ((0 : Int) ≤ IntKind.i64.wrap ((stackLen : Int) - v1)) && decide (IntKind.i64.wrap ((stackLen : Int) - v1) ≤ (stackLen : Int)) && decide ((stackLen : Int) ≤ (stackLen : Int)) then
       R48f49p (c48f49 k ((xs.drop (0 + ((IntKind.i64.wrap ((stackLen : Int) - v1)).toNat))).take (stackLen - ((IntKind.i64.wrap ((stackLen : Int) - v1)).toNat))) v2) fun v4 b2 =>
       bif b2 then
        r20 false
       else
        bif decide ((0 : Int) ≤ IntKind.i64.wrap ((stackLen : Int) - v1)) && decide (IntKind.i64.wrap ((stackLen : Int) - v1) ≤ (stackLen : Int)) then
         bif decide ((((IntKind.i64.wrap ((stackLen : Int) - v1)).toNat) + 1) * 8 ≤ LIM) && decide (((IntKind.i64.wrap ((stackLen : Int) - v1)).toNat) + 1 ≤ LIM) then
          L20_1 k n wide vars (((IntKind.i64.wrap ((stackLen : Int) - v1)).toNat) + 1) t33 t34 (IntKind.i64.wrap (t35 + 1)) ((xs.take ((IntKind.i64.wrap ((stackLen : Int) - v1)).toNat)) ++ [PV.int .i64 v3])
         else none
        else none
      else none
  else none
 else r20 ((stackLen : Int) == 1) := by kernel_rfl
/-! 21 : impl.spanOf -/
theorem n21 (k : Nat) (wide : Int) (t spans : List PV) : c21 (k + 1) wide t spans =
 R50 (c50 k wide) fun v1 =>
 L21_1 k k spans 0 t (t.length : Int) 0 0 0 0 v1 [] := by kernel_rfl
theorem sL21_1 (k n : Nat) (spans : List PV) (stackLen : Nat) (t16 : List PV) (t17 t18 n1 n11 n12 n13 : Int) (xs : List PV) : L21_1 k (n + 1) spans stackLen t16 t17 t18 n1 n11 n12 n13 xs =
 bif decide (t18 < t17) then
  (lookP t16 t18).bind fun p1 =>
  bif p1.shp 2 then
   (p1.atInt .i64 0).bind fun n2 =>
   (p1.atInt .u64 1).bind fun n3 =>
   bif (n2 == 1) then
    bif decide ((stackLen + 1) * 16 ≤ LIM) && decide (stackLen + 1 ≤ LIM) then
     L21_1 k n spans (stackLen + 1) t16 t17 (IntKind.i64.wrap (t18 + 1)) n1 n11 n12 n13 ((xs.take stackLen) ++ [PV.agg [.int .u64 n3, .int .u64 n3]])
    else none
   else
    bif (n2 == 20) then
     bif decide ((stackLen + 1) * 16 ≤ LIM) && decide (stackLen + 1 ≤ LIM) then
      L21_1 k n spans (stackLen + 1) t16 t17 (IntKind.i64.wrap (t18 + 1)) n1 n11 n12 n13 ((xs.take stackLen) ++ [PV.agg [.int .u64 n3, .int .u64 n3]])
     else none
    else
     bif (n2 == 2) then
      (lookP spans n3).bind fun p2 =>
      bif p2.shp 2 then
       (p2.atInt .u64 0).bind fun n4 =>
       (p2.atInt .u64 1).bind fun n5 =>
       bif decide ((stackLen + 1) * 16 ≤ LIM) && decide (stackLen + 1 ≤ LIM) then
        L21_1 k n spans (stackLen + 1) t16 t17 (IntKind.i64.wrap (t18 + 1)) n1 n11 n12 n13 ((xs.take stackLen) ++ [PV.agg [.int .u64 n4, .int .u64 n5]])
       else none
      else none
     else
      bif (n2 == 13) then
       bif decide ((0 : Int) ≤ IntKind.i64.wrap ((stackLen : Int) - 1)) && decide (IntKind.i64.wrap ((stackLen : Int) - 1) < (stackLen : Int)) then
        (xs[0 + ((IntKind.i64.wrap ((stackLen : Int) - 1)).toNat)]?).bind fun p3 =>
        (p3.atInt .u64 1).bind fun n6 =>
        bif decide ((0 : Int) ≤ IntKind.i64.wrap ((stackLen : Int) - 1)) && decide (IntKind.i64.wrap ((stackLen : Int) - 1) < (stackLen : Int)) then
         (xs[0 + ((IntKind.i64.wrap ((stackLen : Int) - 1)).toNat)]?).bind fun p4 =>
         (p4.atInt .u64 0).bind fun n7 =>
         bif decide ((0 : Int) ≤ IntKind.i64.wrap ((stackLen : Int) - 1)) && decide (IntKind.i64.wrap ((stackLen : Int) - 1) < (stackLen : Int)) then
          (xs[0 + ((IntKind.i64.wrap ((stackLen : Int) - 1)).toNat)]?).bind fun p5 =>
          L21_1 k n spans stackLen t16 t17 (IntKind.i64.wrap (t18 + 1)) n1 n11 n12 n13 (xs.set (0 + ((IntKind.i64.wrap ((stackLen : Int) - 1)).toNat)) (PV.agg [.int .u64 (IntKind.u64.wrap (n13 - n6)), .int .u64 (IntKind.u64.wrap (n13 - n7))]))
         else none
        else none
       else none
      else
       bif (n2 == 19) then
        bif decide ((0 : Int) ≤ IntKind.i64.wrap ((stackLen : Int) - 1)) && decide (IntKind.i64.wrap ((stackLen : Int) - 1) < (stackLen : Int)) then
         (xs[0 + ((IntKind.i64.wrap ((stackLen : Int) - 1)).toNat)]?).bind fun p6 =>
         (p6.atInt .u64 1).bind fun n8 =>
         bif decide ((0 : Int) ≤ IntKind.i64.wrap ((stackLen : Int) - 1)) && decide (IntKind.i64.wrap ((stackLen : Int) - 1) < (stackLen : Int)) then
          (xs[0 + ((IntKind.i64.wrap ((stackLen : Int) - 1)).toNat)]?).bind fun p7 =>
          (p7.atInt .u64 0).bind fun n9 =>
          bif decide ((0 : Int) ≤ IntKind.i64.wrap ((stackLen : Int) - 1)) && decide (IntKind.i64.wrap ((stackLen : Int) - 1) < (stackLen : Int)) then
           (xs[0 + ((IntKind.i64.wrap ((stackLen : Int) - 1)).toNat)]?).bind fun p8 =>
           L21_1 k n spans stackLen t16 t17 (IntKind.i64.wrap (t18 + 1)) n1 n11 n12 n13 (xs.set (0 + ((IntKind.i64.wrap ((stackLen : Int) - 1)).toNat)) (PV.agg [.int .u64 (IntKind.u64.wrap (1 - n8)), .int .u64 (IntKind.u64.wrap (1 - n9))]))
          else none
         else none
        else none
       else
        bif decide ((0 : Int) ≤ IntKind.i64.wrap ((IntKind.i64.wrap ((stackLen : Int) - 1)) - 1)) && decide (IntKind.i64.wrap ((IntKind.i64.wrap ((stackLen : Int) - 1)) - 1) ≤ (stackLen : Int)) then
         bif decide ((0 : Int) ≤ IntKind.i64.wrap ((IntKind.i64.wrap ((stackLen : Int) - 1)) - 1)) && decide (IntKind.i64.wrap ((IntKind.i64.wrap ((stackLen : Int) - 1)) - 1) < (stackLen : Int)) then
          (xs[0 + ((IntKind.i64.wrap ((IntKind.i64.wrap ((stackLen : Int) - 1)) - 1)).toNat)]?).bind fun p9 =>
          bif p9.shp 2 then
           (p9.atInt .u64 0).bind fun n10 =>
           (p9.atInt .u64 1).bind fun n14 =>
           bif decide ((0 : Int) ≤ IntKind.i64.wrap ((stackLen : Int) - 1)) && decide (IntKind.i64.wrap ((stackLen : Int) - 1) < (stackLen : Int)) then
            (xs[0 + ((IntKind.i64.wrap ((stackLen : Int) - 1)).toNat)]?).bind fun p10 =>
            bif p10.shp 2 then
            (p10.atInt .u64 0).bind fun n15 =>
            (p10.atInt .u64 1).bind fun n16 =>
            R51 (c51 k n2 n12 n13 n10 n14 n15 n16) fun v1 v2 =>
            bif decide ((((IntKind.i64.wrap ((IntKind.i64.wrap ((stackLen : Int) - 1)) - 1)).toNat) + 1) * 16 ≤ LIM) && decide (((IntKind.i64.wrap ((IntKind.i64.wrap ((stackLen : Int) - 1)) - 1)).toNat) + 1 ≤ LIM) then
            L21_1 k n spans (((IntKind.i64.wrap ((IntKind.i64.wrap ((stackLen : Int) - 1)) - 1)).toNat) + 1) t16 t17 (IntKind.i64.wrap (t18 + 1)) n1 n11 n12 n13 ((xs.take ((IntKind.i64.wrap ((IntKind.i64.wrap ((stackLen : Int) - 1)) - 1)).toNat)) ++ [PV.agg [.int .u64 v1, .int .u64 v2]])
            else none
            else none
           else none
          else none
         else none
        else none
  else none
 else
  bif decide ((0 : Int) < (stackLen : Int)) then
   (xs[0]?).bind fun p11 =>
   bif p11.shp 2 then
    (p11.atInt .u64 0).bind fun n17 =>
    (p11.atInt .u64 1).bind fun n18 =>
    r21 n17 n18
   else none
  else none := by kernel_rfl
/-! 22 : spec.GoodTerm -/
theorem n22 (k : Nat) (wide vars : Int) (t : List PV) : c22 (k + 1) wide vars t =
 R52 (c52 k wide vars t) fun v1 =>
 r22 (decide (v1 > 0)) := by kernel_rfl
/-! 23 : spec.l18Spans -/
theorem n23 (k : Nat) (wide : Int) (spans : List PV) : c23 (k + 1) wide spans =
 R53 (c53 k (spans.length : Int) 1 4) fun b1 =>
 bif !b1 then
  r23 false
 else L23_1 k k wide spans (spans.length : Int) 0 := by kernel_rfl
theorem sL23_1 (k n : Nat) (wide : Int) (t11 : List PV) (t12 t13 : Int) : L23_1 k (n + 1) wide t11 t12 t13 =
 bif decide (t13 < t12) then
  (lookP t11 t13).bind fun p1 =>
  bif p1.shp 2 then
   (p1.atInt .u64 0).bind fun n1 =>
   (p1.atInt .u64 1).bind fun n2 =>
   R32 (c32 k wide n1 n2) fun b1 =>
   bif !b1 then
    r23 false
   else L23_1 k n wide t11 t12 (IntKind.i64.wrap (t13 + 1))
  else none
 else r23 true := by kernel_rfl
/-! 24 : spec.l18Of -/
theorem n24 (k : Nat) (wide : Int) (t : List PV) (k1 : Int) (spans : List PV) : c24 (k + 1) wide t k1 spans =
 (lookP t k1).bind fun p1 =>
 bif p1.shp 2 then
  (p1.atInt .i64 0).bind fun n1 =>
  (p1.atInt .u64 1).bind fun n2 =>
  R54 (c54 k n1) fun v1 v2 v3 =>
  bif (n1 == 2) then
   (lookP spans n2).bind fun p2 =>
   bif p2.shp 2 then
    (p2.atInt .u64 0).bind fun n3 =>
    (p2.atInt .u64 1).bind fun n4 =>
    r24 n3 n4
   else none
  else
   bif (v1 == 0) then
    r24 n2 n2
   else
    R24 (c24 k wide t (IntKind.i64.wrap (k1 - 1)) spans) fun v4 v5 =>
    bif (n1 == 13) then
     R55 (c55 k wide (bitsOp .xor .u64 18446744073709551615 v5)) fun v6 =>
     R55 (c55 k wide (bitsOp .xor .u64 18446744073709551615 v4)) fun v7 =>
     r24 v6 v7
    else
     bif (n1 == 19) then
      r24 (IntKind.u64.wrap (1 - v5)) (IntKind.u64.wrap (1 - v4))
     else
      R56 (c56 k t (IntKind.i64.wrap (k1 - 1))) fun v8 =>
      R24 (c24 k wide t (IntKind.i64.wrap (v8 - 1)) spans) fun v9 v10 =>
      bif (v3 == 1) then
       R57 (c57 k wide n1 v9 v10 v4 v5) fun v11 v12 =>
       r24 v11 v12
      else
       R58 (c58 k n1 v9 v10 v4 v5) fun v13 v14 =>
       r24 v13 v14
 else none := by kernel_rfl
/-! 25 : impl.GoodWord -/
theorem n25 (k : Nat) (wide a : Int) : c25 (k + 1) wide a =
 R45 (c45 k wide) fun b1 =>
 bif b1 then
  R50 (c50 k wide) fun v1 =>
  r25 (decide (a ≤ v1))
 else r25 false := by kernel_rfl
end Go.Proofs.Ytclkgblckicabaa
/- Normal forms: printed by nf.py. -/
set_option linter.unusedVariables false
set_option maxRecDepth 100000
namespace Go.Proofs.Ytclkgblckicabaa
open Go.Dp
/-! 26 : impl.isState -/
theorem n26 (k : Nat) (wide vars : Int) (state : List PV) : c26 (k + 1) wide vars state =
 R45 (c45 k wide) fun b1 =>
 bif b1 then
  R42 (c42 k vars) fun b2 =>
  bif b2 then
   bif ((state.length : Int) == vars) then
    R59f60 (c59f60 k state wide) fun v1 b3 =>
    r26 (!b3)
   else r26 false
  else r26 false
 else r26 false := by kernel_rfl
/-! 27 : impl.Span).has -/
theorem n27 (k : Nat) (qs qs1 a : Int) : c27 (k + 1) qs qs1 a =
 bif decide (qs ≤ a) then
  r27 (decide (a ≤ qs1))
 else r27 false := by kernel_rfl
/-! 28 : impl.valueOf -/
theorem n28 (k : Nat) (wide : Int) (t state : List PV) : c28 (k + 1) wide t state =
 L28_1 k k wide state 0 t (t.length : Int) 0 [] := by kernel_rfl
theorem sL28_1 (k n : Nat) (wide : Int) (state : List PV) (stackLen : Nat) (t12 : List PV) (t13 t14 : Int) (xs : List PV) : L28_1 k (n + 1) wide state stackLen t12 t13 t14 xs =
 bif decide (t14 < t13) then
  (lookP t12 t14).bind fun p1 =>
  bif p1.shp 2 then
   (p1.atInt .i64 0).bind fun n1 =>
   (p1.atInt .u64 1).bind fun n2 =>
   bif (n1 == 1) then
    bif decide ((stackLen + 1) * 8 ≤ LIM) && decide (stackLen + 1 ≤ LIM) then
     L28_1 k n wide state (stackLen + 1) t12 t13 (IntKind.i64.wrap (t14 + 1)) ((xs.take stackLen) ++ [PV.int .u64 n2])
    else none
   else
    bif (n1 == 20) then
     bif decide ((stackLen + 1) * 8 ≤ LIM) && decide (stackLen + 1 ≤ LIM) then
      L28_1 k n wide state (stackLen + 1) t12 t13 (IntKind.i64.wrap (t14 + 1)) ((xs.take stackLen) ++ [PV.int .u64 n2])
     else none
    else
     bif (n1 == 2) then
      (lookP state n2).bind fun p2 =>
      (p2.atInt .u64 0).bind fun n3 =>
      bif decide ((stackLen + 1) * 8 ≤ LIM) && decide (stackLen + 1 ≤ LIM) then
       L28_1 k n wide state (stackLen + 1) t12 t13 (IntKind.i64.wrap (t14 + 1)) ((xs.take stackLen) ++ [PV.int .u64 n3])
      else none
     else
      bif (n1 == 13) then
       bif decide ((0 : Int) ≤ IntKind.i64.wrap ((stackLen : Int) - 1)) && decide (IntKind.i64.wrap ((stackLen : Int) - 1) < (stackLen : Int)) then
        (xs[0 + ((IntKind.i64.wrap ((stackLen : Int) - 1)).toNat)]?).bind fun p3 =>
        (p3.atInt .u64 0).bind fun n4 =>
        R50 (c50 k wide) fun v1 =>
        bif decide ((0 : Int) ≤ IntKind.i64.wrap ((stackLen : Int) - 1)) && decide (IntKind.i64.wrap ((stackLen : Int) - 1) < (stackLen : Int)) then
         (xs[0 + ((IntKind.i64.wrap ((stackLen : Int) - 1)).toNat)]?).bind fun p4 =>
         L28_1 k n wide state stackLen t12 t13 (IntKind.i64.wrap (t14 + 1)) (xs.set (0 + ((IntKind.i64.wrap ((stackLen : Int) - 1)).toNat)) (PV.int .u64 (bitsOp .and .u64 (bitsOp .xor .u64 18446744073709551615 n4) v1)))
        else none
       else none
      else
       bif (n1 == 19) then
        bif decide ((0 : Int) ≤ IntKind.i64.wrap ((stackLen : Int) - 1)) && decide (IntKind.i64.wrap ((stackLen : Int) - 1) < (stackLen : Int)) then
         (xs[0 + ((IntKind.i64.wrap ((stackLen : Int) - 1)).toNat)]?).bind fun p5 =>
         (p5.atInt .u64 0).bind fun n5 =>
         bif decide ((0 : Int) ≤ IntKind.i64.wrap ((stackLen : Int) - 1)) && decide (IntKind.i64.wrap ((stackLen : Int) - 1) < (stackLen : Int)) then
          (xs[0 + ((IntKind.i64.wrap ((stackLen : Int) - 1)).toNat)]?).bind fun p6 =>
          L28_1 k n wide state stackLen t12 t13 (IntKind.i64.wrap (t14 + 1)) (xs.set (0 + ((IntKind.i64.wrap ((stackLen : Int) - 1)).toNat)) (PV.int .u64 (IntKind.u64.wrap (1 - n5))))
         else none
        else none
       else
        bif decide ((0 : Int) ≤ IntKind.i64.wrap ((IntKind.i64.wrap ((stackLen : Int) - 1)) - 1)) && decide (IntKind.i64.wrap ((IntKind.i64.wrap ((stackLen : Int) - 1)) - 1) ≤ (stackLen : Int)) then
         bif decide ((0 : Int) ≤ IntKind.i64.wrap ((IntKind.i64.wrap ((stackLen : Int) - 1)) - 1)) && decide (IntKind.i64.wrap ((IntKind.i64.wrap ((stackLen : Int) - 1)) - 1) < (stackLen : Int)) then
          (xs[0 + ((IntKind.i64.wrap ((IntKind.i64.wrap ((stackLen : Int) - 1)) - 1)).toNat)]?).bind fun p7 =>
          (p7.atInt .u64 0).bind fun n6 =>
          bif decide ((0 : Int) ≤ IntKind.i64.wrap ((stackLen : Int) - 1)) && decide (IntKind.i64.wrap ((stackLen : Int) - 1) < (stackLen : Int)) then
           (xs[0 + ((IntKind.i64.wrap ((stackLen : Int) - 1)).toNat)]?).bind fun p8 =>
           (p8.atInt .u64 0).bind fun n7 =>
           R61 (c61 k wide n1 n6 n7) fun v2 =>
           bif decide ((((IntKind.i64.wrap ((IntKind.i64.wrap ((stackLen : Int) - 1)) - 1)).toNat) + 1) * 8 ≤ LIM) && decide (((IntKind.i64.wrap ((IntKind.i64.wrap ((stackLen : Int) - 1)) - 1)).toNat) + 1 ≤ LIM) then
            L28_1 k n wide state (((IntKind.i64.wrap ((IntKind.i64.wrap ((stackLen : Int) - 1)) - 1)).toNat) + 1) t12 t13 (IntKind.i64.wrap (t14 + 1)) ((xs.take ((IntKind.i64.wrap ((IntKind.i64.wrap ((stackLen : Int) - 1)) - 1)).toNat)) ++ [PV.int .u64 v2])
           else none
          else none
         else none
        else none
  else none
 else
  bif decide ((0 : Int) < (stackLen : Int)) then
   (xs[0]?).bind fun p9 =>
   (p9.atInt .u64 0).bind fun n8 =>
   r28 n8
  else none := by kernel_rfl
/-! 29 : spec.l1Cur).width -/
theorem n29 (k : Nat) (l : List PV) (n1 n11 : Int) : c29 (k + 1) l n1 n11 =
 R37 (c37 k [PV.int .i64 1, PV.int .i64 2, PV.int .i64 3, PV.int .i64 4, PV.int .i64 8, PV.int .i64 16, PV.int .i64 32, PV.int .i64 63, PV.int .i64 64, PV.int .i64 0, PV.int .i64 65] l n1 n11) fun l1 v1 v2 v3 =>
 r29 l1 v1 v2 v3 := by kernel_rfl
/-! 30 : spec.l1Cur).span -/
theorem n30 (k : Nat) (wide : Int) (l : List PV) (n1 n11 : Int) : c30 (k + 1) wide l n1 n11 =
 R62 (c62 k wide l n1 n11) fun l1 v1 v2 v3 =>
 R62 (c62 k wide l1 v1 v2) fun l2 v4 v5 v6 =>
 R40 (c40 k 3 l2 v4 v5) fun l3 v7 v8 b1 =>
 bif b1 then
  bif decide (v3 > v3) then
   R40 (c40 k 30 l3 v7 v8) fun l4 v9 v10 b2 =>
   bif !b2 then
    r30 l4 v9 v10 v3 v3
   else r30 l4 v9 v10 v3 v3
  else r30 l3 v7 v8 v3 v3
 else
  bif decide (v3 > v6) then
   R40 (c40 k 30 l3 v7 v8) fun l5 v11 v12 b3 =>
   bif !b3 then
    r30 l5 v11 v12 v6 v3
   else r30 l5 v11 v12 v3 v6
  else r30 l3 v7 v8 v3 v6 := by kernel_rfl
/-! 31 : impl.join -/
theorem n31 (k : Nat) (a a1 b b1 : Int) : c31 (k + 1) a a1 b b1 =
 r31 (minI a b) (maxI a1 b1) := by kernel_rfl
/-! 32 : spec.GoodSpan -/
theorem n32 (k : Nat) (wide qs qs1 : Int) : c32 (k + 1) wide qs qs1 =
 R63 (c63 k wide qs qs1) fun b1 =>
 bif b1 then
  r32 (decide (qs ≤ qs1))
 else r32 false := by kernel_rfl
/-! 33 : spec.l18Join -/
theorem n33 (k : Nat) (a a1 b b1 : Int) : c33 (k + 1) a a1 b b1 =
 R36 (c36 k a b) fun v1 =>
 R35 (c35 k a1 b1) fun v2 =>
 r33 v1 v2 := by kernel_rfl
/-! 34 : impl.meetSpans -/
theorem n34 (k : Nat) (a a1 b b1 : Int) : c34 (k + 1) a a1 b b1 =
 bif decide (maxI a b > minI a1 b1) then
  r34 0 0 false
 else r34 (maxI a b) (minI a1 b1) true := by kernel_rfl
/-! 35 : spec.l18Most -/
theorem n35 (k : Nat) (a b : Int) : c35 (k + 1) a b =
 bif decide (a > b) then
  r35 a
 else r35 b := by kernel_rfl
/-! 36 : spec.l18Least -/
theorem n36 (k : Nat) (a b : Int) : c36 (k + 1) a b =
 bif decide (a < b) then
  r36 a
 else r36 b := by kernel_rfl
/-! 37 : spec.l1Cur).among -/
theorem n37 (k : Nat) (list l : List PV) (n1 n11 : Int) : c37 (k + 1) list l n1 n11 =
 R38 (c38 k (list.length : Int) l n1 n11) fun l1 v1 v2 v3 =>
 (lookP list v3).bind fun p1 =>
 (p1.atInt .i64 0).bind fun n2 =>
 r37 l1 v1 v2 n2 := by kernel_rfl
/-! 38 : spec.l1Cur).pick -/
theorem n38 (k : Nat) (n1 : Int) (l : List PV) (n11 n12 : Int) : c38 (k + 1) n1 l n11 n12 =
 bif decide (n1 ≤ 1) then
  r38 l n11 n12 0
 else
  R64 (c64 k l n11 n12) fun l1 v1 v2 v3 =>
  bif decide (n1 > 200) then
   R64 (c64 k l1 v1 v2) fun l2 v4 v5 v6 =>
   bif !(n1 == 0) then
    r38 l2 v4 v5 ((IntKind.i64.wrap ((IntKind.i64.wrap (v3 * 256)) + v6)).tmod n1)
   else none
  else
   bif !(n1 == 0) then
    r38 l1 v1 v2 (v3.tmod n1)
   else none := by kernel_rfl
/-! 39 : spec.l1Cur).asked -/
theorem n39 (k : Nat) (wide vars deep : Int) (l : List PV) (n1 n11 : Int) : c39 (k + 1) wide vars deep l n1 n11 =
 R40 (c40 k 20 l n1 n11) fun l1 v1 v2 b1 =>
 bif b1 then
  R38 (c38 k 2 l1 v1 v2) fun l2 v3 v4 v5 =>
  r39 l2 v3 v4 [PV.agg [.int .i64 20, .int .u64 (IntKind.u64.wrap v5)]]
 else
  bif decide (deep > 0) then
   R40 (c40 k 4 l1 v1 v2) fun l3 v6 v7 b2 =>
   bif b2 then
    R39 (c39 k wide vars (IntKind.i64.wrap (deep - 1)) l3 v6 v7) fun l4 v8 v9 l5 =>
    bif decide ((l5.length + 1) * 16 ≤ LIM) && decide (l5.length + 1 ≤ LIM) then
     r39 l4 v8 v9 (((l5.take l5.length) ++ [PV.agg [.int .i64 19, .int .u64 0]]).take (l5.length + 1))
    else none
   else
    bif decide (deep > 0) then
     R40 (c40 k 2 l3 v6 v7) fun l6 v10 v11 b3 =>
     bif b3 then
      R39 (c39 k wide vars (IntKind.i64.wrap (deep - 1)) l6 v10 v11) fun l7 v12 v13 l8 =>
      R39 (c39 k wide vars (IntKind.i64.wrap (deep - 1)) l7 v12 v13) fun l9 v14 v15 l10 =>
      bif decide ((l8.length + ((l10.take l10.length).length)) * 16 ≤ LIM) && decide (l8.length + ((l10.take l10.length).length) ≤ LIM) then
       R37 (c37 k [PV.int .i64 17, PV.int .i64 18] l9 v14 v15) fun l11 v16 v17 v18 =>
       bif decide (((l8.length + ((l10.take l10.length).length)) + 1) * 16 ≤ LIM) && decide ((l8.length + ((l10.take l10.length).length)) + 1 ≤ LIM) then
        r39 l11 v16 v17 (((((l8.take l8.length) ++ (l10.take l10.length)).take (l8.length + ((l10.take l10.length).length))) ++ [PV.agg [.int .i64 v18, .int .u64 0]]).take ((l8.length + ((l10.take l10.length).length)) + 1))
       else none
      else none
     else
      R41 (c41 k wide vars 1 l6 v10 v11) fun l12 v19 v20 l13 =>
      R38 (c38 k 2 l12 v19 v20) fun l14 v21 v22 v23 =>
      R41 (c41 k wide vars v23 l14 v21 v22) fun l15 v24 v25 l16 =>
      bif decide ((l13.length + ((l16.take l16.length).length)) * 16 ≤ LIM) && decide (l13.length + ((l16.take l16.length).length) ≤ LIM) then
       R37 (c37 k [PV.int .i64 14, PV.int .i64 15, PV.int .i64 15, PV.int .i64 16] l15 v24 v25) fun l17 v26 v27 v28 =>
       bif decide (((l13.length + ((l16.take l16.length).length)) + 1) * 16 ≤ LIM) && decide ((l13.length + ((l16.take l16.length).length)) + 1 ≤ LIM) then
        r39 l17 v26 v27 (((((l13.take l13.length) ++ (l16.take l16.length)).take (l13.length + ((l16.take l16.length).length))) ++ [PV.agg [.int .i64 v28, .int .u64 0]]).take ((l13.length + ((l16.take l16.length).length)) + 1))
       else none
      else none
    else
     R41 (c41 k wide vars 1 l3 v6 v7) fun l18 v29 v30 l19 =>
     R38 (c38 k 2 l18 v29 v30) fun l20 v31 v32 v33 =>
     R41 (c41 k wide vars v33 l20 v31 v32) fun l21 v34 v35 l22 =>
     bif decide ((l19.length + ((l22.take l22.length).length)) * 16 ≤ LIM) && decide (l19.length + ((l22.take l22.length).length) ≤ LIM) then
      R37 (c37 k [PV.int .i64 14, PV.int .i64 15, PV.int .i64 15, PV.int .i64 16] l21 v34 v35) fun l23 v36 v37 v38 =>
      bif decide (((l19.length + ((l22.take l22.length).length)) + 1) * 16 ≤ LIM) && decide ((l19.length + ((l22.take l22.length).length)) + 1 ≤ LIM) then
       r39 l23 v36 v37 (((((l19.take l19.length) ++ (l22.take l22.length)).take (l19.length + ((l22.take l22.length).length))) ++ [PV.agg [.int .i64 v38, .int .u64 0]]).take ((l19.length + ((l22.take l22.length).length)) + 1))
      else none
     else none
  else
   bif decide (deep > 0) then
    R40 (c40 k 2 l1 v1 v2) fun l24 v39 v40 b4 =>
    bif b4 then
     R39 (c39 k wide vars (IntKind.i64.wrap (deep - 1)) l24 v39 v40) fun l25 v41 v42 l26 =>
     R39 (c39 k wide vars (IntKind.i64.wrap (deep - 1)) l25 v41 v42) fun l27 v43 v44 l28 =>
     bif decide ((l26.length + ((l28.take l28.length).length)) * 16 ≤ LIM) && decide (l26.length + ((l28.take l28.length).length) ≤ LIM) then
      R37 (c37 k [PV.int .i64 17, PV.int .i64 18] l27 v43 v44) fun l29 v45 v46 v47 =>
      bif decide (((l26.length + ((l28.take l28.length).length)) + 1) * 16 ≤ LIM) && decide ((l26.length + ((l28.take l28.length).length)) + 1 ≤ LIM) then
       r39 l29 v45 v46 (((((l26.take l26.length) ++ (l28.take l28.length)).take (l26.length + ((l28.take l28.length).length))) ++ [PV.agg [.int .i64 v47, .int .u64 0]]).take ((l26.length + ((l28.take l28.length).length)) + 1))
      else none
     else none
    else
     R41 (c41 k wide vars 1 l24 v39 v40) fun l30 v48 v49 l31 =>
     R38 (c38 k 2 l30 v48 v49) fun l32 v50 v51 v52 =>
     R41 (c41 k wide vars v52 l32 v50 v51) fun l33 v53 v54 l34 =>
     bif decide ((l31.length + ((l34.take l34.length).length)) * 16 ≤ LIM) && decide (l31.length + ((l34.take l34.length).length) ≤ LIM) then
      R37 (c37 k [PV.int .i64 14, PV.int .i64 15, PV.int .i64 15, PV.int .i64 16] l33 v53 v54) fun l35 v55 v56 v57 =>
      bif decide (((l31.length + ((l34.take l34.length).length)) + 1) * 16 ≤ LIM) && decide ((l31.length + ((l34.take l34.length).length)) + 1 ≤ LIM) then
       r39 l35 v55 v56 (((((l31.take l31.length) ++ (l34.take l34.length)).take (l31.length + ((l34.take l34.length).length))) ++ [PV.agg [.int .i64 v57, .int .u64 0]]).take ((l31.length + ((l34.take l34.length).length)) + 1))
      else none
     else none
   else
    R41 (c41 k wide vars 1 l1 v1 v2) fun l36 v58 v59 l37 =>
    R38 (c38 k 2 l36 v58 v59) fun l38 v60 v61 v62 =>
    R41 (c41 k wide vars v62 l38 v60 v61) fun l39 v63 v64 l40 =>
    bif decide ((l37.length + ((l40.take l40.length).length)) * 16 ≤ LIM) && decide (l37.length + ((l40.take l40.length).length) ≤ LIM) then
     R37 (c37 k [PV.int .i64 14, PV.int .i64 15, PV.int .i64 15, PV.int .i64 16] l39 v63 v64) fun l41 v65 v66 v67 =>
     bif decide (((l37.length + ((l40.take l40.length).length)) + 1) * 16 ≤ LIM) && decide ((l37.length + ((l40.take l40.length).length)) + 1 ≤ LIM) then
      r39 l41 v65 v66 (((((l37.take l37.length) ++ (l40.take l40.length)).take (l37.length + ((l40.take l40.length).length))) ++ [PV.agg [.int .i64 v67, .int .u64 0]]).take ((l37.length + ((l40.take l40.length).length)) + 1))
     else none
    else none := by kernel_rfl
/-! 40 : spec.l1Cur).one -/
theorem n40 (k : Nat) (n1 : Int) (l : List PV) (n11 n12 : Int) : c40 (k + 1) n1 l n11 n12 =
 R38 (c38 k n1 l n11 n12) fun l1 v1 v2 v3 =>
 r40 l1 v1 v2 (v3 == 0) := by kernel_rfl
/-! 41 : spec.l1Cur).number -/
theorem n41 (k : Nat) (wide vars deep : Int) (l : List PV) (n1 n11 : Int) : c41 (k + 1) wide vars deep l n1 n11 =
 bif (deep == 0) then
  R40 (c40 k 2 l n1 n11) fun l1 v1 v2 b1 =>
  bif b1 then
   R38 (c38 k 9 l1 v1 v2) fun l2 v3 v4 v5 =>
   R55 (c55 k wide (IntKind.u64.wrap v5)) fun v6 =>
   r41 l2 v3 v4 [PV.agg [.int .i64 1, .int .u64 v6]]
  else
   R38 (c38 k vars l1 v1 v2) fun l3 v7 v8 v9 =>
   r41 l3 v7 v8 [PV.agg [.int .i64 2, .int .u64 (IntKind.u64.wrap v9)]]
 else
  R40 (c40 k 4 l n1 n11) fun l4 v10 v11 b2 =>
  bif b2 then
   R40 (c40 k 2 l4 v10 v11) fun l5 v12 v13 b3 =>
   bif b3 then
    R38 (c38 k 9 l5 v12 v13) fun l6 v14 v15 v16 =>
    R55 (c55 k wide (IntKind.u64.wrap v16)) fun v17 =>
    r41 l6 v14 v15 [PV.agg [.int .i64 1, .int .u64 v17]]
   else
    R38 (c38 k vars l5 v12 v13) fun l7 v18 v19 v20 =>
    r41 l7 v18 v19 [PV.agg [.int .i64 2, .int .u64 (IntKind.u64.wrap v20)]]
  else
   R40 (c40 k 7 l4 v10 v11) fun l8 v21 v22 b4 =>
   bif b4 then
    R41 (c41 k wide vars (IntKind.i64.wrap (deep - 1)) l8 v21 v22) fun l9 v23 v24 l10 =>
    bif decide ((l10.length + 1) * 16 ≤ LIM) && decide (l10.length + 1 ≤ LIM) then
     r41 l9 v23 v24 (((l10.take l10.length) ++ [PV.agg [.int .i64 13, .int .u64 0]]).take (l10.length + 1))
    else none
   else
    R41 (c41 k wide vars (IntKind.i64.wrap (deep - 1)) l8 v21 v22) fun l11 v25 v26 l12 =>
    R41 (c41 k wide vars (IntKind.i64.wrap (deep - 1)) l11 v25 v26) fun l13 v27 v28 l14 =>
    bif decide ((l12.length + ((l14.take l14.length).length)) * 16 ≤ LIM) && decide (l12.length + ((l14.take l14.length).length) ≤ LIM) then
     R37 (c37 k [PV.int .i64 3, PV.int .i64 3, PV.int .i64 3, PV.int .i64 4, PV.int .i64 4, PV.int .i64 5, PV.int .i64 8, PV.int .i64 9, PV.int .i64 10] l13 v27 v28) fun l15 v29 v30 v31 =>
     R40 (c40 k 6 l15 v29 v30) fun l16 v32 v33 b5 =>
     bif b5 then
      R37 (c37 k [PV.int .i64 6, PV.int .i64 7, PV.int .i64 11, PV.int .i64 12] l16 v32 v33) fun l17 v34 v35 v36 =>
      bif decide (((l12.length + ((l14.take l14.length).length)) + 1) * 16 ≤ LIM) && decide ((l12.length + ((l14.take l14.length).length)) + 1 ≤ LIM) then
       r41 l17 v34 v35 (((((l12.take l12.length) ++ (l14.take l14.length)).take (l12.length + ((l14.take l14.length).length))) ++ [PV.agg [.int .i64 v36, .int .u64 0]]).take ((l12.length + ((l14.take l14.length).length)) + 1))
      else none
     else
      bif decide (((l12.length + ((l14.take l14.length).length)) + 1) * 16 ≤ LIM) && decide ((l12.length + ((l14.take l14.length).length)) + 1 ≤ LIM) then
       r41 l16 v32 v33 (((((l12.take l12.length) ++ (l14.take l14.length)).take (l12.length + ((l14.take l14.length).length))) ++ [PV.agg [.int .i64 v31, .int .u64 0]]).take ((l12.length + ((l14.take l14.length).length)) + 1))
      else none
    else none := by kernel_rfl
/-! 42 : impl.isVars -/
theorem n42 (k : Nat) (n1 : Int) : c42 (k + 1) n1 =
 bif decide (n1 ≥ 1) then
  r42 (decide (n1 ≤ 4))
 else r42 false := by kernel_rfl
/-! 43 : impl.Span] -/
theorem n43f44 (k : Nat) (qs : List PV) (n1 : Int) : c43f44 (k + 1) qs n1 =
 R65f44p (c65f44 k qs n1) fun v1 =>
 r43f44 (decide (v1 ≥ 0)) := by kernel_rfl
/-! 44 : impl.areSpans$1 -/
theorem n44 (k : Nat) (qs qs1 n1 : Int) : c44 (k + 1) qs qs1 n1 =
 R8 (c8 k n1 qs qs1) fun b1 =>
 r44 (!b1) := by kernel_rfl
/-! 45 : impl.isWide -/
theorem n45 (k : Nat) (n1 : Int) : c45 (k + 1) n1 =
 bif decide (n1 ≥ 1) then
  r45 (decide (n1 ≤ 64))
 else r45 false := by kernel_rfl
/-! 46 : impl.operandsOf -/
theorem n46 (k : Nat) (op : Int) : c46 (k + 1) op =
 bif (op == 1) then
  r46 0 0 1
 else
  bif (op == 2) then
   r46 0 0 1
  else
   bif (op == 20) then
    r46 0 0 2
   else
    bif (op == 13) then
     r46 1 1 1
    else
     bif (op == 19) then
      r46 1 2 2
     else
      bif decide (op ≥ 3) then
       bif decide (op ≤ 12) then
        r46 2 1 1
       else
        bif decide (op ≥ 14) then
         bif decide (op ≤ 16) then
          r46 2 1 2
         else
          bif (op == 17) then
           r46 2 2 2
          else
           bif (op == 18) then
            r46 2 2 2
           else r46 0 0 0
        else
         bif (op == 17) then
          r46 2 2 2
         else
          bif (op == 18) then
           r46 2 2 2
          else r46 0 0 0
      else
       bif decide (op ≥ 14) then
        bif decide (op ≤ 16) then
         r46 2 1 2
        else
         bif (op == 17) then
          r46 2 2 2
         else
          bif (op == 18) then
           r46 2 2 2
          else r46 0 0 0
       else
        bif (op == 17) then
         r46 2 2 2
        else
         bif (op == 18) then
          r46 2 2 2
         else r46 0 0 0 := by kernel_rfl
/-! 47 : impl.isLeafRight -/
theorem n47 (k : Nat) (wide vars x x1 : Int) : c47 (k + 1) wide vars x x1 =
 bif (x == 1) then
  R25 (c25 k wide x1) fun b1 =>
  r47 b1
 else
  bif (x == 2) then
   r47 (decide (x1 < IntKind.u64.wrap vars))
  else
   bif (x == 20) then
    r47 (decide (x1 ≤ 1))
   else r47 (x1 == 0) := by kernel_rfl
/-! 48 : slices.ContainsFunc[[]int,int] -/
theorem n48f49 (k : Nat) (qs : List PV) (n1 : Int) : c48f49 (k + 1) qs n1 =
 R66f49 (c66f49 k qs n1) fun v1 v2 =>
 r48f49 v1 (decide (v2 ≥ 0)) := by kernel_rfl
/-! 49 : impl.GoodTerm$1 -/
theorem n49 (k : Nat) (own n1 : Int) : c49 (k + 1) own n1 =
 r49 n1 (own != n1) := by kernel_rfl
/-! 50 : impl.mask -/
theorem n50 (k : Nat) (wide : Int) : c50 (k + 1) wide =
 bif !decide (IntKind.i64.wrap (64 - wide) < 0) then
  r50 (shrI .u64 18446744073709551615 (IntKind.i64.wrap (64 - wide)))
 else none := by kernel_rfl
/-! 51 : impl.spanOfTwo -/
theorem n51 (k : Nat) (op all all1 a a1 b b1 : Int) : c51 (k + 1) op all all1 a a1 b b1 =
 bif (op == 3) then
  R67 (c67 k all all1 a a1 b b1) fun v1 v2 =>
  r51 v1 v2
 else
  bif (op == 5) then
   R68 (c68 k all all1 a a1 b b1) fun v3 v4 =>
   r51 v3 v4
  else
   bif (op == 4) then
    bif decide (a ≥ b1) then
     r51 (IntKind.u64.wrap (a - b1)) (IntKind.u64.wrap (a1 - b))
    else r51 all all1
   else
    bif (op == 6) then
     bif decide (b > 0) then
      bif !(b1 == 0) then
       bif !(b == 0) then
        r51 (IntKind.u64.wrap (a.tdiv b1)) (IntKind.u64.wrap (a1.tdiv b))
       else none
      else none
     else r51 all all1
    else
     bif (op == 7) then
      bif decide (b > 0) then
       bif decide (IntKind.u64.wrap (b1 - 1) < a1) then
        r51 0 (IntKind.u64.wrap (b1 - 1))
       else r51 0 a1
      else r51 0 a1
     else
      bif (op == 12) then
       r51 0 a1
      else
       bif (op == 8) then
        r51 0 (minI a1 b1)
       else
        bif (op == 9) then
         r51 (maxI a b) all1
        else
         bif (op == 14) then
          R34 (c34 k a a1 b b1) fun v5 v6 b2 =>
          bif ((a == b) && ((a1 == b1) && true)) then
           R69 (c69 k (a == a1) (!b2)) fun v7 v8 =>
           r51 v7 v8
          else
           R69 (c69 k false (!b2)) fun v9 v10 =>
           r51 v9 v10
         else
          bif (op == 15) then
           R69 (c69 k (decide (a1 < b)) (decide (a ≥ b1))) fun v11 v12 =>
           r51 v11 v12
          else
           bif (op == 16) then
            r51 0 1
           else
            bif (op == 17) then
            r51 (minI a b) (minI a1 b1)
            else
            bif (op == 18) then
            r51 (maxI a b) (maxI a1 b1)
            else r51 all all1 := by kernel_rfl
/-! 52 : spec.l2Kind -/
theorem n52 (k : Nat) (wide vars : Int) (t : List PV) : c52 (k + 1) wide vars t =
 R70 (c70 k wide) fun b1 =>
 bif !b1 then
  r52 0
 else
  R53 (c53 k vars 1 4) fun b2 =>
  bif !b2 then
   r52 0
  else
   R53 (c53 k (t.length : Int) 1 48) fun b3 =>
   bif !b3 then
    r52 0
   else L52_1 k k wide vars 0 t (t.length : Int) 0 [] := by kernel_rfl
theorem sL52_1 (k n : Nat) (wide vars : Int) (pileLen : Nat) (t27 : List PV) (t28 t29 : Int) (xs : List PV) : L52_1 k (n + 1) wide vars pileLen t27 t28 t29 xs =
 bif decide (t29 < t28) then
  (lookP t27 t29).bind fun p1 =>
  bif p1.shp 2 then
   (p1.atInt .i64 0).bind fun n1 =>
   (p1.atInt .u64 1).bind fun n2 =>
   R54 (c54 k n1) fun v1 v2 v3 =>
   bif (v3 == 0) then
    r52 0
   else
    R71 (c71 k wide vars n1 n2) fun b1 =>
    bif !b1 then
     r52 0
    else
     bif decide ((pileLen : Int) < v1) then
      r52 0
     else L52_2 k n k wide vars pileLen v1 v2 v3 t27 t28 t29 xs
  else none
 else
  bif ((pileLen : Int) != 1) then
   r52 0
  else
   bif decide ((0 : Int) < (pileLen : Int)) then
    (xs[0]?).bind fun p2 =>
    (p2.atInt .i64 0).bind fun n3 =>
    r52 n3
   else none := by kernel_rfl
theorem sL52_2 (k n1 n : Nat) (wide vars : Int) (pileLen : Nat) (many part own : Int) (t27 : List PV) (t28 t29 : Int) (xs : List PV) : L52_2 k n1 (n + 1) wide vars pileLen many part own t27 t28 t29 xs =
 bif decide (many > 0) then
  bif decide ((0 : Int) ≤ IntKind.i64.wrap ((pileLen : Int) - 1)) && decide (IntKind.i64.wrap ((pileLen : Int) - 1) < (pileLen : Int)) then
   (xs[0 + ((IntKind.i64.wrap ((pileLen : Int) - 1)).toNat)]?).bind fun p1 =>
   (p1.atInt .i64 0).bind fun n2 =>
   bif (n2 != part) then
    r52 0
   else
    bif decide ((0 : Int) ≤ IntKind.i64.wrap ((pileLen : Int) - 1)) && decide (IntKind.i64.wrap ((pileLen : Int) - 1) ≤ (pileLen : Int)) then
     L52_2 k n1 n wide vars ((IntKind.i64.wrap ((pileLen : Int) - 1)).toNat) (IntKind.i64.wrap (many - 1)) part own t27 t28 t29 xs
    else none
  else none
 else
  bif decide ((pileLen + 1) * 8 ≤ LIM) && decide (pileLen + 1 ≤ LIM) then
   L52_1 k n1 wide vars (pileLen + 1) t27 t28 (IntKind.i64.wrap (t29 + 1)) ((xs.take pileLen) ++ [PV.int .i64 own])
  else none := by kernel_rfl
/-! 53 : spec.l1In -/
theorem n53 (k : Nat) (n1 lo hi : Int) : c53 (k + 1) n1 lo hi =
 bif decide (n1 ≥ lo) then
  r53 (decide (n1 ≤ hi))
 else r53 false := by kernel_rfl
/-! 54 : spec.l2Need -/
theorem n54 (k : Nat) (op : Int) : c54 (k + 1) op =
 bif (op == 1) then
  r54 0 1 1
 else
  bif (op == 2) then
   r54 0 1 1
  else
   bif (op == 20) then
    r54 0 2 2
   else
    bif (op == 13) then
     r54 1 1 1
    else
     bif (op == 19) then
      r54 1 2 2
     else
      R53 (c53 k op 3 12) fun b1 =>
      bif b1 then
       r54 2 1 1
      else
       R53 (c53 k op 14 16) fun b2 =>
       bif b2 then
        r54 2 1 2
       else
        bif (op == 17) then
         r54 2 2 2
        else
         bif (op == 18) then
          r54 2 2 2
         else r54 0 0 0 := by kernel_rfl
/-! 55 : spec.l1Cut -/
theorem n55 (k : Nat) (wide a : Int) : c55 (k + 1) wide a =
 L55_1 k k wide a 0 0 := by kernel_rfl
theorem sL55_1 (k n : Nat) (wide a out k1 : Int) : L55_1 k (n + 1) wide a out k1 =
 bif decide (k1 < wide) then
  bif !decide (IntKind.u64.wrap k1 < 0) then
   L55_1 k n wide a (bitsOp .or .u64 out (bitsOp .and .u64 a (shlI .u64 1 (IntKind.u64.wrap k1)))) (IntKind.i64.wrap (k1 + 1))
  else none
 else r55 out := by kernel_rfl
end Go.Proofs.Ytclkgblckicabaa
/- Normal forms: printed by nf.py. -/
set_option linter.unusedVariables false
set_option maxRecDepth 100000
namespace Go.Proofs.Ytclkgblckicabaa
open Go.Dp
/-! 56 : spec.l2From -/
theorem n56 (k : Nat) (t : List PV) (k1 : Int) : c56 (k + 1) t k1 =
 (lookP t k1).bind fun p1 =>
 (p1.atInt .i64 0).bind fun n1 =>
 R54 (c54 k n1) fun v1 v2 v3 =>
 L56_1 k k t v1 k1 := by kernel_rfl
theorem sL56_1 (k n : Nat) (t : List PV) (many from1 : Int) : L56_1 k (n + 1) t many from1 =
 bif decide (many > 0) then
  R56 (c56 k t (IntKind.i64.wrap (from1 - 1))) fun v1 =>
  L56_1 k n t (IntKind.i64.wrap (many - 1)) v1
 else r56 from1 := by kernel_rfl
/-! 57 : spec.l18Num -/
theorem n57 (k : Nat) (wide op a a1 b b1 : Int) : c57 (k + 1) wide op a a1 b b1 =
 R55 (c55 k wide 18446744073709551615) fun v1 =>
 bif (op == 3) then
  bif decide (a1 ≤ IntKind.u64.wrap (v1 - b1)) then
   r57 (IntKind.u64.wrap (a + b)) (IntKind.u64.wrap (a1 + b1))
  else
   bif (op == 5) then
    R72 (c72 k wide a1 b1) fun b2 =>
    bif b2 then
     r57 (IntKind.u64.wrap (a * b)) (IntKind.u64.wrap (a1 * b1))
    else
     bif (op == 4) then
      bif decide (a ≥ b1) then
       r57 (IntKind.u64.wrap (a - b1)) (IntKind.u64.wrap (a1 - b))
      else
       bif (op == 6) then
        bif decide (b > 0) then
         bif !(b1 == 0) then
          bif !(b == 0) then
           r57 (IntKind.u64.wrap (a.tdiv b1)) (IntKind.u64.wrap (a1.tdiv b))
          else none
         else none
        else
         bif (op == 7) then
          bif decide (b > 0) then
           R36 (c36 k a1 (IntKind.u64.wrap (b1 - 1))) fun v2 =>
           r57 0 v2
          else
           bif (op == 7) then
            r57 0 a1
           else
            bif (op == 12) then
            r57 0 a1
            else
            bif (op == 8) then
            R36 (c36 k a1 b1) fun v3 =>
            r57 0 v3
            else
            bif (op == 9) then
            R35 (c35 k a b) fun v4 =>
            r57 v4 v1
            else r57 0 v1
         else
          bif (op == 7) then
           r57 0 a1
          else
           bif (op == 12) then
            r57 0 a1
           else
            bif (op == 8) then
            R36 (c36 k a1 b1) fun v5 =>
            r57 0 v5
            else
            bif (op == 9) then
            R35 (c35 k a b) fun v6 =>
            r57 v6 v1
            else r57 0 v1
       else
        bif (op == 7) then
         bif decide (b > 0) then
          R36 (c36 k a1 (IntKind.u64.wrap (b1 - 1))) fun v7 =>
          r57 0 v7
         else
          bif (op == 7) then
           r57 0 a1
          else
           bif (op == 12) then
            r57 0 a1
           else
            bif (op == 8) then
            R36 (c36 k a1 b1) fun v8 =>
            r57 0 v8
            else
            bif (op == 9) then
            R35 (c35 k a b) fun v9 =>
            r57 v9 v1
            else r57 0 v1
        else
         bif (op == 7) then
          r57 0 a1
         else
          bif (op == 12) then
           r57 0 a1
          else
           bif (op == 8) then
            R36 (c36 k a1 b1) fun v10 =>
            r57 0 v10
           else
            bif (op == 9) then
            R35 (c35 k a b) fun v11 =>
            r57 v11 v1
            else r57 0 v1
     else
      bif (op == 6) then
       bif decide (b > 0) then
        bif !(b1 == 0) then
         bif !(b == 0) then
          r57 (IntKind.u64.wrap (a.tdiv b1)) (IntKind.u64.wrap (a1.tdiv b))
         else none
        else none
       else
        bif (op == 7) then
         bif decide (b > 0) then
          R36 (c36 k a1 (IntKind.u64.wrap (b1 - 1))) fun v12 =>
          r57 0 v12
         else
          bif (op == 7) then
           r57 0 a1
          else
           bif (op == 12) then
            r57 0 a1
           else
            bif (op == 8) then
            R36 (c36 k a1 b1) fun v13 =>
            r57 0 v13
            else
            bif (op == 9) then
            R35 (c35 k a b) fun v14 =>
            r57 v14 v1
            else r57 0 v1
        else
         bif (op == 7) then
          r57 0 a1
         else
          bif (op == 12) then
           r57 0 a1
          else
           bif (op == 8) then
            R36 (c36 k a1 b1) fun v15 =>
            r57 0 v15
           else
            bif (op == 9) then
            R35 (c35 k a b) fun v16 =>
            r57 v16 v1
            else r57 0 v1
      else
       bif (op == 7) then
        bif decide (b > 0) then
         R36 (c36 k a1 (IntKind.u64.wrap (b1 - 1))) fun v17 =>
         r57 0 v17
        else
         bif (op == 7) then
          r57 0 a1
         else
          bif (op == 12) then
           r57 0 a1
          else
           bif (op == 8) then
            R36 (c36 k a1 b1) fun v18 =>
            r57 0 v18
           else
            bif (op == 9) then
            R35 (c35 k a b) fun v19 =>
            r57 v19 v1
            else r57 0 v1
       else
        bif (op == 7) then
         r57 0 a1
        else
         bif (op == 12) then
          r57 0 a1
         else
          bif (op == 8) then
           R36 (c36 k a1 b1) fun v20 =>
           r57 0 v20
          else
           bif (op == 9) then
            R35 (c35 k a b) fun v21 =>
            r57 v21 v1
           else r57 0 v1
   else
    bif (op == 4) then
     bif decide (a ≥ b1) then
      r57 (IntKind.u64.wrap (a - b1)) (IntKind.u64.wrap (a1 - b))
     else
      bif (op == 6) then
       bif decide (b > 0) then
        bif !(b1 == 0) then
         bif !(b == 0) then
          r57 (IntKind.u64.wrap (a.tdiv b1)) (IntKind.u64.wrap (a1.tdiv b))
         else none
        else none
       else
        bif (op == 7) then
         bif decide (b > 0) then
          R36 (c36 k a1 (IntKind.u64.wrap (b1 - 1))) fun v22 =>
          r57 0 v22
         else
          bif (op == 7) then
           r57 0 a1
          else
           bif (op == 12) then
            r57 0 a1
           else
            bif (op == 8) then
            R36 (c36 k a1 b1) fun v23 =>
            r57 0 v23
            else
            bif (op == 9) then
            R35 (c35 k a b) fun v24 =>
            r57 v24 v1
            else r57 0 v1
        else
         bif (op == 7) then
          r57 0 a1
         else
          bif (op == 12) then
           r57 0 a1
          else
           bif (op == 8) then
            R36 (c36 k a1 b1) fun v25 =>
            r57 0 v25
           else
            bif (op == 9) then
            R35 (c35 k a b) fun v26 =>
            r57 v26 v1
            else r57 0 v1
      else
       bif (op == 7) then
        bif decide (b > 0) then
         R36 (c36 k a1 (IntKind.u64.wrap (b1 - 1))) fun v27 =>
         r57 0 v27
        else
         bif (op == 7) then
          r57 0 a1
         else
          bif (op == 12) then
           r57 0 a1
          else
           bif (op == 8) then
            R36 (c36 k a1 b1) fun v28 =>
            r57 0 v28
           else
            bif (op == 9) then
            R35 (c35 k a b) fun v29 =>
            r57 v29 v1
            else r57 0 v1
       else
        bif (op == 7) then
         r57 0 a1
        else
         bif (op == 12) then
          r57 0 a1
         else
          bif (op == 8) then
           R36 (c36 k a1 b1) fun v30 =>
           r57 0 v30
          else
           bif (op == 9) then
            R35 (c35 k a b) fun v31 =>
            r57 v31 v1
           else r57 0 v1
    else
     bif (op == 6) then
      bif decide (b > 0) then
       bif !(b1 == 0) then
        bif !(b == 0) then
         r57 (IntKind.u64.wrap (a.tdiv b1)) (IntKind.u64.wrap (a1.tdiv b))
        else none
       else none
      else
       bif (op == 7) then
        bif decide (b > 0) then
         R36 (c36 k a1 (IntKind.u64.wrap (b1 - 1))) fun v32 =>
         r57 0 v32
        else
         bif (op == 7) then
          r57 0 a1
         else
          bif (op == 12) then
           r57 0 a1
          else
           bif (op == 8) then
            R36 (c36 k a1 b1) fun v33 =>
            r57 0 v33
           else
            bif (op == 9) then
            R35 (c35 k a b) fun v34 =>
            r57 v34 v1
            else r57 0 v1
       else
        bif (op == 7) then
         r57 0 a1
        else
         bif (op == 12) then
          r57 0 a1
         else
          bif (op == 8) then
           R36 (c36 k a1 b1) fun v35 =>
           r57 0 v35
          else
           bif (op == 9) then
            R35 (c35 k a b) fun v36 =>
            r57 v36 v1
           else r57 0 v1
     else
      bif (op == 7) then
       bif decide (b > 0) then
        R36 (c36 k a1 (IntKind.u64.wrap (b1 - 1))) fun v37 =>
        r57 0 v37
       else
        bif (op == 7) then
         r57 0 a1
        else
         bif (op == 12) then
          r57 0 a1
         else
          bif (op == 8) then
           R36 (c36 k a1 b1) fun v38 =>
           r57 0 v38
          else
           bif (op == 9) then
            R35 (c35 k a b) fun v39 =>
            r57 v39 v1
           else r57 0 v1
      else
       bif (op == 7) then
        r57 0 a1
       else
        bif (op == 12) then
         r57 0 a1
        else
         bif (op == 8) then
          R36 (c36 k a1 b1) fun v40 =>
          r57 0 v40
         else
          bif (op == 9) then
           R35 (c35 k a b) fun v41 =>
           r57 v41 v1
          else r57 0 v1
 else
  bif (op == 5) then
   R72 (c72 k wide a1 b1) fun b3 =>
   bif b3 then
    r57 (IntKind.u64.wrap (a * b)) (IntKind.u64.wrap (a1 * b1))
   else
    bif (op == 4) then
     bif decide (a ≥ b1) then
      r57 (IntKind.u64.wrap (a - b1)) (IntKind.u64.wrap (a1 - b))
     else
      bif (op == 6) then
       bif decide (b > 0) then
        bif !(b1 == 0) then
         bif !(b == 0) then
          r57 (IntKind.u64.wrap (a.tdiv b1)) (IntKind.u64.wrap (a1.tdiv b))
         else none
        else none
       else
        bif (op == 7) then
         bif decide (b > 0) then
          R36 (c36 k a1 (IntKind.u64.wrap (b1 - 1))) fun v42 =>
          r57 0 v42
         else
          bif (op == 7) then
           r57 0 a1
          else
           bif (op == 12) then
            r57 0 a1
           else
            bif (op == 8) then
            R36 (c36 k a1 b1) fun v43 =>
            r57 0 v43
            else
            bif (op == 9) then
            R35 (c35 k a b) fun v44 =>
            r57 v44 v1
            else r57 0 v1
        else
         bif (op == 7) then
          r57 0 a1
         else
          bif (op == 12) then
           r57 0 a1
          else
           bif (op == 8) then
            R36 (c36 k a1 b1) fun v45 =>
            r57 0 v45
           else
            bif (op == 9) then
            R35 (c35 k a b) fun v46 =>
            r57 v46 v1
            else r57 0 v1
      else
       bif (op == 7) then
        bif decide (b > 0) then
         R36 (c36 k a1 (IntKind.u64.wrap (b1 - 1))) fun v47 =>
         r57 0 v47
        else
         bif (op == 7) then
          r57 0 a1
         else
          bif (op == 12) then
           r57 0 a1
          else
           bif (op == 8) then
            R36 (c36 k a1 b1) fun v48 =>
            r57 0 v48
           else
            bif (op == 9) then
            R35 (c35 k a b) fun v49 =>
            r57 v49 v1
            else r57 0 v1
       else
        bif (op == 7) then
         r57 0 a1
        else
         bif (op == 12) then
          r57 0 a1
         else
          bif (op == 8) then
           R36 (c36 k a1 b1) fun v50 =>
           r57 0 v50
          else
           bif (op == 9) then
            R35 (c35 k a b) fun v51 =>
            r57 v51 v1
           else r57 0 v1
    else
     bif (op == 6) then
      bif decide (b > 0) then
       bif !(b1 == 0) then
        bif !(b == 0) then
         r57 (IntKind.u64.wrap (a.tdiv b1)) (IntKind.u64.wrap (a1.tdiv b))
        else none
       else none
      else
       bif (op == 7) then
        bif decide (b > 0) then
         R36 (c36 k a1 (IntKind.u64.wrap (b1 - 1))) fun v52 =>
         r57 0 v52
        else
         bif (op == 7) then
          r57 0 a1
         else
          bif (op == 12) then
           r57 0 a1
          else
           bif (op == 8) then
            R36 (c36 k a1 b1) fun v53 =>
            r57 0 v53
           else
            bif (op == 9) then
            R35 (c35 k a b) fun v54 =>
            r57 v54 v1
            else r57 0 v1
       else
        bif (op == 7) then
         r57 0 a1
        else
         bif (op == 12) then
          r57 0 a1
         else
          bif (op == 8) then
           R36 (c36 k a1 b1) fun v55 =>
           r57 0 v55
          else
           bif (op == 9) then
            R35 (c35 k a b) fun v56 =>
            r57 v56 v1
           else r57 0 v1
     else
      bif (op == 7) then
       bif decide (b > 0) then
        R36 (c36 k a1 (IntKind.u64.wrap (b1 - 1))) fun v57 =>
        r57 0 v57
       else
        bif (op == 7) then
         r57 0 a1
        else
         bif (op == 12) then
          r57 0 a1
         else
          bif (op == 8) then
           R36 (c36 k a1 b1) fun v58 =>
           r57 0 v58
          else
           bif (op == 9) then
            R35 (c35 k a b) fun v59 =>
            r57 v59 v1
           else r57 0 v1
      else
       bif (op == 7) then
        r57 0 a1
       else
        bif (op == 12) then
         r57 0 a1
        else
         bif (op == 8) then
          R36 (c36 k a1 b1) fun v60 =>
          r57 0 v60
         else
          bif (op == 9) then
           R35 (c35 k a b) fun v61 =>
           r57 v61 v1
          else r57 0 v1
  else
   bif (op == 4) then
    bif decide (a ≥ b1) then
     r57 (IntKind.u64.wrap (a - b1)) (IntKind.u64.wrap (a1 - b))
    else
     bif (op == 6) then
      bif decide (b > 0) then
       bif !(b1 == 0) then
        bif !(b == 0) then
         r57 (IntKind.u64.wrap (a.tdiv b1)) (IntKind.u64.wrap (a1.tdiv b))
        else none
       else none
      else
       bif (op == 7) then
        bif decide (b > 0) then
         R36 (c36 k a1 (IntKind.u64.wrap (b1 - 1))) fun v62 =>
         r57 0 v62
        else
         bif (op == 7) then
          r57 0 a1
         else
          bif (op == 12) then
           r57 0 a1
          else
           bif (op == 8) then
            R36 (c36 k a1 b1) fun v63 =>
            r57 0 v63
           else
            bif (op == 9) then
            R35 (c35 k a b) fun v64 =>
            r57 v64 v1
            else r57 0 v1
       else
        bif (op == 7) then
         r57 0 a1
        else
         bif (op == 12) then
          r57 0 a1
         else
          bif (op == 8) then
           R36 (c36 k a1 b1) fun v65 =>
           r57 0 v65
          else
           bif (op == 9) then
            R35 (c35 k a b) fun v66 =>
            r57 v66 v1
           else r57 0 v1
     else
      bif (op == 7) then
       bif decide (b > 0) then
        R36 (c36 k a1 (IntKind.u64.wrap (b1 - 1))) fun v67 =>
        r57 0 v67
       else
        bif (op == 7) then
         r57 0 a1
        else
         bif (op == 12) then
          r57 0 a1
         else
          bif (op == 8) then
           R36 (c36 k a1 b1) fun v68 =>
           r57 0 v68
          else
           bif (op == 9) then
            R35 (c35 k a b) fun v69 =>
            r57 v69 v1
           else r57 0 v1
      else
       bif (op == 7) then
        r57 0 a1
       else
        bif (op == 12) then
         r57 0 a1
        else
         bif (op == 8) then
          R36 (c36 k a1 b1) fun v70 =>
          r57 0 v70
         else
          bif (op == 9) then
           R35 (c35 k a b) fun v71 =>
           r57 v71 v1
          else r57 0 v1
   else
    bif (op == 6) then
     bif decide (b > 0) then
      bif !(b1 == 0) then
       bif !(b == 0) then
        r57 (IntKind.u64.wrap (a.tdiv b1)) (IntKind.u64.wrap (a1.tdiv b))
       else none
      else none
     else
      bif (op == 7) then
       bif decide (b > 0) then
        R36 (c36 k a1 (IntKind.u64.wrap (b1 - 1))) fun v72 =>
        r57 0 v72
       else
        bif (op == 7) then
         r57 0 a1
        else
         bif (op == 12) then
          r57 0 a1
         else
          bif (op == 8) then
           R36 (c36 k a1 b1) fun v73 =>
           r57 0 v73
          else
           bif (op == 9) then
            R35 (c35 k a b) fun v74 =>
            r57 v74 v1
           else r57 0 v1
      else
       bif (op == 7) then
        r57 0 a1
       else
        bif (op == 12) then
         r57 0 a1
        else
         bif (op == 8) then
          R36 (c36 k a1 b1) fun v75 =>
          r57 0 v75
         else
          bif (op == 9) then
           R35 (c35 k a b) fun v76 =>
           r57 v76 v1
          else r57 0 v1
    else
     bif (op == 7) then
      bif decide (b > 0) then
       R36 (c36 k a1 (IntKind.u64.wrap (b1 - 1))) fun v77 =>
       r57 0 v77
      else
       bif (op == 7) then
        r57 0 a1
       else
        bif (op == 12) then
         r57 0 a1
        else
         bif (op == 8) then
          R36 (c36 k a1 b1) fun v78 =>
          r57 0 v78
         else
          bif (op == 9) then
           R35 (c35 k a b) fun v79 =>
           r57 v79 v1
          else r57 0 v1
     else
      bif (op == 7) then
       r57 0 a1
      else
       bif (op == 12) then
        r57 0 a1
       else
        bif (op == 8) then
         R36 (c36 k a1 b1) fun v80 =>
         r57 0 v80
        else
         bif (op == 9) then
          R35 (c35 k a b) fun v81 =>
          r57 v81 v1
         else r57 0 v1 := by kernel_rfl
end Go.Proofs.Ytclkgblckicabaa
/- Normal forms: printed by nf.py. -/
set_option linter.unusedVariables false
set_option maxRecDepth 100000
namespace Go.Proofs.Ytclkgblckicabaa
open Go.Dp
/-! 58 : spec.l18Ask -/
theorem n58 (k : Nat) (op a a1 b b1 : Int) : c58 (k + 1) op a a1 b b1 =
 bif (op == 14) then
  bif decide (a1 < b) then
   r58 0 0
  else
   bif decide (b1 < a) then
    r58 0 0
   else
    bif (op == 14) then
     bif (a == a1) then
      bif ((a == b) && ((a1 == b1) && true)) then
       r58 1 1
      else
       bif (op == 15) then
        bif decide (a1 < b) then
         r58 1 1
        else
         bif (op == 15) then
          bif decide (a ≥ b1) then
           r58 0 0
          else
           bif (op == 17) then
            R36 (c36 k a b) fun v1 =>
            R36 (c36 k a1 b1) fun v2 =>
            r58 v1 v2
           else
            bif (op == 18) then
            R35 (c35 k a b) fun v3 =>
            R35 (c35 k a1 b1) fun v4 =>
            r58 v3 v4
            else r58 0 1
         else
          bif (op == 17) then
           R36 (c36 k a b) fun v5 =>
           R36 (c36 k a1 b1) fun v6 =>
           r58 v5 v6
          else
           bif (op == 18) then
            R35 (c35 k a b) fun v7 =>
            R35 (c35 k a1 b1) fun v8 =>
            r58 v7 v8
           else r58 0 1
       else
        bif (op == 15) then
         bif decide (a ≥ b1) then
          r58 0 0
         else
          bif (op == 17) then
           R36 (c36 k a b) fun v9 =>
           R36 (c36 k a1 b1) fun v10 =>
           r58 v9 v10
          else
           bif (op == 18) then
            R35 (c35 k a b) fun v11 =>
            R35 (c35 k a1 b1) fun v12 =>
            r58 v11 v12
           else r58 0 1
        else
         bif (op == 17) then
          R36 (c36 k a b) fun v13 =>
          R36 (c36 k a1 b1) fun v14 =>
          r58 v13 v14
         else
          bif (op == 18) then
           R35 (c35 k a b) fun v15 =>
           R35 (c35 k a1 b1) fun v16 =>
           r58 v15 v16
          else r58 0 1
     else
      bif (op == 15) then
       bif decide (a1 < b) then
        r58 1 1
       else
        bif (op == 15) then
         bif decide (a ≥ b1) then
          r58 0 0
         else
          bif (op == 17) then
           R36 (c36 k a b) fun v17 =>
           R36 (c36 k a1 b1) fun v18 =>
           r58 v17 v18
          else
           bif (op == 18) then
            R35 (c35 k a b) fun v19 =>
            R35 (c35 k a1 b1) fun v20 =>
            r58 v19 v20
           else r58 0 1
        else
         bif (op == 17) then
          R36 (c36 k a b) fun v21 =>
          R36 (c36 k a1 b1) fun v22 =>
          r58 v21 v22
         else
          bif (op == 18) then
           R35 (c35 k a b) fun v23 =>
           R35 (c35 k a1 b1) fun v24 =>
           r58 v23 v24
          else r58 0 1
      else
       bif (op == 15) then
        bif decide (a ≥ b1) then
         r58 0 0
        else
         bif (op == 17) then
          R36 (c36 k a b) fun v25 =>
          R36 (c36 k a1 b1) fun v26 =>
          r58 v25 v26
         else
          bif (op == 18) then
           R35 (c35 k a b) fun v27 =>
           R35 (c35 k a1 b1) fun v28 =>
           r58 v27 v28
          else r58 0 1
       else
        bif (op == 17) then
         R36 (c36 k a b) fun v29 =>
         R36 (c36 k a1 b1) fun v30 =>
         r58 v29 v30
        else
         bif (op == 18) then
          R35 (c35 k a b) fun v31 =>
          R35 (c35 k a1 b1) fun v32 =>
          r58 v31 v32
         else r58 0 1
    else
     bif (op == 15) then
      bif decide (a1 < b) then
       r58 1 1
      else
       bif (op == 15) then
        bif decide (a ≥ b1) then
         r58 0 0
        else
         bif (op == 17) then
          R36 (c36 k a b) fun v33 =>
          R36 (c36 k a1 b1) fun v34 =>
          r58 v33 v34
         else
          bif (op == 18) then
           R35 (c35 k a b) fun v35 =>
           R35 (c35 k a1 b1) fun v36 =>
           r58 v35 v36
          else r58 0 1
       else
        bif (op == 17) then
         R36 (c36 k a b) fun v37 =>
         R36 (c36 k a1 b1) fun v38 =>
         r58 v37 v38
        else
         bif (op == 18) then
          R35 (c35 k a b) fun v39 =>
          R35 (c35 k a1 b1) fun v40 =>
          r58 v39 v40
         else r58 0 1
     else
      bif (op == 15) then
       bif decide (a ≥ b1) then
        r58 0 0
       else
        bif (op == 17) then
         R36 (c36 k a b) fun v41 =>
         R36 (c36 k a1 b1) fun v42 =>
         r58 v41 v42
        else
         bif (op == 18) then
          R35 (c35 k a b) fun v43 =>
          R35 (c35 k a1 b1) fun v44 =>
          r58 v43 v44
         else r58 0 1
      else
       bif (op == 17) then
        R36 (c36 k a b) fun v45 =>
        R36 (c36 k a1 b1) fun v46 =>
        r58 v45 v46
       else
        bif (op == 18) then
         R35 (c35 k a b) fun v47 =>
         R35 (c35 k a1 b1) fun v48 =>
         r58 v47 v48
        else r58 0 1
 else
  bif (op == 14) then
   bif (a == a1) then
    bif ((a == b) && ((a1 == b1) && true)) then
     r58 1 1
    else
     bif (op == 15) then
      bif decide (a1 < b) then
       r58 1 1
      else
       bif (op == 15) then
        bif decide (a ≥ b1) then
         r58 0 0
        else
         bif (op == 17) then
          R36 (c36 k a b) fun v49 =>
          R36 (c36 k a1 b1) fun v50 =>
          r58 v49 v50
         else
          bif (op == 18) then
           R35 (c35 k a b) fun v51 =>
           R35 (c35 k a1 b1) fun v52 =>
           r58 v51 v52
          else r58 0 1
       else
        bif (op == 17) then
         R36 (c36 k a b) fun v53 =>
         R36 (c36 k a1 b1) fun v54 =>
         r58 v53 v54
        else
         bif (op == 18) then
          R35 (c35 k a b) fun v55 =>
          R35 (c35 k a1 b1) fun v56 =>
          r58 v55 v56
         else r58 0 1
     else
      bif (op == 15) then
       bif decide (a ≥ b1) then
        r58 0 0
       else
        bif (op == 17) then
         R36 (c36 k a b) fun v57 =>
         R36 (c36 k a1 b1) fun v58 =>
         r58 v57 v58
        else
         bif (op == 18) then
          R35 (c35 k a b) fun v59 =>
          R35 (c35 k a1 b1) fun v60 =>
          r58 v59 v60
         else r58 0 1
      else
       bif (op == 17) then
        R36 (c36 k a b) fun v61 =>
        R36 (c36 k a1 b1) fun v62 =>
        r58 v61 v62
       else
        bif (op == 18) then
         R35 (c35 k a b) fun v63 =>
         R35 (c35 k a1 b1) fun v64 =>
         r58 v63 v64
        else r58 0 1
   else
    bif (op == 15) then
     bif decide (a1 < b) then
      r58 1 1
     else
      bif (op == 15) then
       bif decide (a ≥ b1) then
        r58 0 0
       else
        bif (op == 17) then
         R36 (c36 k a b) fun v65 =>
         R36 (c36 k a1 b1) fun v66 =>
         r58 v65 v66
        else
         bif (op == 18) then
          R35 (c35 k a b) fun v67 =>
          R35 (c35 k a1 b1) fun v68 =>
          r58 v67 v68
         else r58 0 1
      else
       bif (op == 17) then
        R36 (c36 k a b) fun v69 =>
        R36 (c36 k a1 b1) fun v70 =>
        r58 v69 v70
       else
        bif (op == 18) then
         R35 (c35 k a b) fun v71 =>
         R35 (c35 k a1 b1) fun v72 =>
         r58 v71 v72
        else r58 0 1
    else
     bif (op == 15) then
      bif decide (a ≥ b1) then
       r58 0 0
      else
       bif (op == 17) then
        R36 (c36 k a b) fun v73 =>
        R36 (c36 k a1 b1) fun v74 =>
        r58 v73 v74
       else
        bif (op == 18) then
         R35 (c35 k a b) fun v75 =>
         R35 (c35 k a1 b1) fun v76 =>
         r58 v75 v76
        else r58 0 1
     else
      bif (op == 17) then
       R36 (c36 k a b) fun v77 =>
       R36 (c36 k a1 b1) fun v78 =>
       r58 v77 v78
      else
       bif (op == 18) then
        R35 (c35 k a b) fun v79 =>
        R35 (c35 k a1 b1) fun v80 =>
        r58 v79 v80
       else r58 0 1
  else
   bif (op == 15) then
    bif decide (a1 < b) then
     r58 1 1
    else
     bif (op == 15) then
      bif decide (a ≥ b1) then
       r58 0 0
      else
       bif (op == 17) then
        R36 (c36 k a b) fun v81 =>
        R36 (c36 k a1 b1) fun v82 =>
        r58 v81 v82
       else
        bif (op == 18) then
         R35 (c35 k a b) fun v83 =>
         R35 (c35 k a1 b1) fun v84 =>
         r58 v83 v84
        else r58 0 1
     else
      bif (op == 17) then
       R36 (c36 k a b) fun v85 =>
       R36 (c36 k a1 b1) fun v86 =>
       r58 v85 v86
      else
       bif (op == 18) then
        R35 (c35 k a b) fun v87 =>
        R35 (c35 k a1 b1) fun v88 =>
        r58 v87 v88
       else r58 0 1
   else
    bif (op == 15) then
     bif decide (a ≥ b1) then
      r58 0 0
     else
      bif (op == 17) then
       R36 (c36 k a b) fun v89 =>
       R36 (c36 k a1 b1) fun v90 =>
       r58 v89 v90
      else
       bif (op == 18) then
        R35 (c35 k a b) fun v91 =>
        R35 (c35 k a1 b1) fun v92 =>
        r58 v91 v92
       else r58 0 1
    else
     bif (op == 17) then
      R36 (c36 k a b) fun v93 =>
      R36 (c36 k a1 b1) fun v94 =>
      r58 v93 v94
     else
      bif (op == 18) then
       R35 (c35 k a b) fun v95 =>
       R35 (c35 k a1 b1) fun v96 =>
       r58 v95 v96
      else r58 0 1 := by kernel_rfl
/-! 59 : slices.ContainsFunc[[]uint64,uint64] -/
theorem n59f60 (k : Nat) (qs : List PV) (n1 : Int) : c59f60 (k + 1) qs n1 =
 R73f60 (c73f60 k qs n1) fun v1 v2 =>
 r59f60 v1 (decide (v2 ≥ 0)) := by kernel_rfl
/-! 60 : impl.isState$1 -/
theorem n60 (k : Nat) (a n1 : Int) : c60 (k + 1) a n1 =
 R25 (c25 k n1 a) fun b1 =>
 r60 n1 (!b1) := by kernel_rfl
/-! 61 : impl.apply -/
theorem n61 (k : Nat) (wide op a b : Int) : c61 (k + 1) wide op a b =
 bif (op == 3) then
  R50 (c50 k wide) fun v1 =>
  r61 (bitsOp .and .u64 (IntKind.u64.wrap (a + b)) v1)
 else
  bif (op == 4) then
   R50 (c50 k wide) fun v2 =>
   r61 (bitsOp .and .u64 (IntKind.u64.wrap (a - b)) v2)
  else
   bif (op == 5) then
    R50 (c50 k wide) fun v3 =>
    r61 (bitsOp .and .u64 (IntKind.u64.wrap (a * b)) v3)
   else
    bif (op == 6) then
     R74 (c74 k wide a b) fun v4 v5 b1 =>
     R50 (c50 k wide) fun v6 =>
     r61 (bitsOp .and .u64 v4 v6)
    else
     bif (op == 7) then
      R74 (c74 k wide a b) fun v7 v8 b2 =>
      R50 (c50 k wide) fun v9 =>
      r61 (bitsOp .and .u64 v8 v9)
     else
      bif (op == 8) then
       R50 (c50 k wide) fun v10 =>
       r61 (bitsOp .and .u64 (bitsOp .and .u64 a b) v10)
      else
       bif (op == 17) then
        R50 (c50 k wide) fun v11 =>
        r61 (bitsOp .and .u64 (bitsOp .and .u64 a b) v11)
       else
        bif (op == 9) then
         R50 (c50 k wide) fun v12 =>
         r61 (bitsOp .and .u64 (bitsOp .or .u64 a b) v12)
        else
         bif (op == 18) then
          R50 (c50 k wide) fun v13 =>
          r61 (bitsOp .and .u64 (bitsOp .or .u64 a b) v13)
         else
          bif (op == 10) then
           R50 (c50 k wide) fun v14 =>
           r61 (bitsOp .and .u64 (bitsOp .xor .u64 a b) v14)
          else
           bif (op == 11) then
            R75 (c75 k wide a b (op == 11)) fun v15 =>
            R50 (c50 k wide) fun v16 =>
            r61 (bitsOp .and .u64 v15 v16)
           else
            bif (op == 12) then
            R75 (c75 k wide a b (op == 11)) fun v17 =>
            R50 (c50 k wide) fun v18 =>
            r61 (bitsOp .and .u64 v17 v18)
            else
            bif (op == 14) then
            R76 (c76 k (a == b)) fun v19 =>
            R50 (c50 k wide) fun v20 =>
            r61 (bitsOp .and .u64 v19 v20)
            else
            bif (op == 15) then
            R76 (c76 k (decide (a < b))) fun v21 =>
            R50 (c50 k wide) fun v22 =>
            r61 (bitsOp .and .u64 v21 v22)
            else
            bif (op == 16) then
            R77 (c77 k wide a) fun v23 =>
            R77 (c77 k wide b) fun v24 =>
            R76 (c76 k (decide (v23 < v24))) fun v25 =>
            R50 (c50 k wide) fun v26 =>
            r61 (bitsOp .and .u64 v25 v26)
            else
            R50 (c50 k wide) fun v27 =>
            r61 (bitsOp .and .u64 0 v27) := by kernel_rfl
/-! 62 : spec.l1Cur).word -/
theorem n62 (k : Nat) (wide : Int) (l : List PV) (n1 n11 : Int) : c62 (k + 1) wide l n1 n11 =
 R38 (c38 k 5 l n1 n11) fun l1 v1 v2 v3 =>
 R38 (c38 k 5 l1 v1 v2) fun l2 v4 v5 v6 =>
 bif (v6 == 0) then
  R78 (c78 k l2 v4 v5) fun l3 v7 v8 v9 =>
  R40 (c40 k 30 l3 v7 v8) fun l4 v10 v11 b1 =>
  bif b1 then
   r62 l4 v10 v11 v9
  else
   R55 (c55 k wide v9) fun v12 =>
   r62 l4 v10 v11 v12
 else
  bif (v6 == 1) then
   R38 (c38 k 3 l2 v4 v5) fun l5 v13 v14 v15 =>
   R40 (c40 k 30 l5 v13 v14) fun l6 v16 v17 b2 =>
   bif b2 then
    r62 l6 v16 v17 (IntKind.u64.wrap (18446744073709551615 - (IntKind.u64.wrap v15)))
   else
    R55 (c55 k wide (IntKind.u64.wrap (18446744073709551615 - (IntKind.u64.wrap v15)))) fun v18 =>
    r62 l6 v16 v17 v18
  else
   bif (v6 == 2) then
    R38 (c38 k 64 l2 v4 v5) fun l7 v19 v20 v21 =>
    bif !decide (IntKind.u64.wrap v21 < 0) then
     R40 (c40 k 30 l7 v19 v20) fun l8 v22 v23 b3 =>
     bif b3 then
      r62 l8 v22 v23 (shlI .u64 1 (IntKind.u64.wrap v21))
     else
      R55 (c55 k wide (shlI .u64 1 (IntKind.u64.wrap v21))) fun v24 =>
      r62 l8 v22 v23 v24
    else none
   else
    R40 (c40 k 30 l2 v4 v5) fun l9 v25 v26 b4 =>
    bif b4 then
     r62 l9 v25 v26 (IntKind.u64.wrap v3)
    else
     R55 (c55 k wide (IntKind.u64.wrap v3)) fun v27 =>
     r62 l9 v25 v26 v27 := by kernel_rfl
/-! 63 : spec.l1Both -/
theorem n63 (k : Nat) (wide a b : Int) : c63 (k + 1) wide a b =
 R79 (c79 k wide a) fun b1 =>
 bif b1 then
  R79 (c79 k wide b) fun b2 =>
  r63 b2
 else r63 false := by kernel_rfl
/-! 64 : spec.l1Cur).next -/
theorem n64 (k : Nat) (l : List PV) (n1 n11 : Int) : c64 (k + 1) l n1 n11 =
 bif decide (n1 < (l.length : Int)) then
  (lookP l n1).bind fun p1 =>
  (p1.atInt .u8 0).bind fun n2 =>
  bif decide (IntKind.i64.wrap (n1 + 1) ≤ (l.length : Int)) then
   r64 l (IntKind.i64.wrap (n1 + 1)) (IntKind.u64.wrap ((IntKind.u64.wrap ((IntKind.u64.wrap (n11 * 6364136223846793005)) + (IntKind.u64.wrap (IntKind.i64.wrap n2)))) + 1442695040888963407)) (IntKind.i64.wrap n2)
  else r64 l (IntKind.i64.wrap (n1 + 1)) (IntKind.u64.wrap ((IntKind.u64.wrap ((IntKind.u64.wrap (n11 * 6364136223846793005)) + (IntKind.u64.wrap (IntKind.i64.wrap n2)))) + 1442695040888963407)) (IntKind.i64.wrap (bitsOp .and .u64 (shrI .u64 (IntKind.u64.wrap ((IntKind.u64.wrap ((IntKind.u64.wrap (n11 * 6364136223846793005)) + (IntKind.u64.wrap (IntKind.i64.wrap n2)))) + 1442695040888963407)) 40) 255))
 else
  bif decide (IntKind.i64.wrap (n1 + 1) ≤ (l.length : Int)) then
   r64 l (IntKind.i64.wrap (n1 + 1)) (IntKind.u64.wrap ((IntKind.u64.wrap ((IntKind.u64.wrap (n11 * 6364136223846793005)) + 0)) + 1442695040888963407)) 0
  else r64 l (IntKind.i64.wrap (n1 + 1)) (IntKind.u64.wrap ((IntKind.u64.wrap ((IntKind.u64.wrap (n11 * 6364136223846793005)) + 0)) + 1442695040888963407)) (IntKind.i64.wrap (bitsOp .and .u64 (shrI .u64 (IntKind.u64.wrap ((IntKind.u64.wrap ((IntKind.u64.wrap (n11 * 6364136223846793005)) + 0)) + 1442695040888963407)) 40) 255)) := by kernel_rfl
/-! 65 : impl.Span] -/
theorem n65f44 (k : Nat) (qs : List PV) (n1 : Int) : c65f44 (k + 1) qs n1 =
 L65f44_1 k k qs n1 (qs.length : Int) 0 := by kernel_rfl
theorem sL65f44_1 (k n : Nat) (qs : List PV) (n1 t7 t8 : Int) : L65f44_1 k (n + 1) qs n1 t7 t8 =
 bif decide (t8 < t7) then
  (lookP qs t8).bind fun p1 =>
  bif p1.shp 2 then
   (p1.atInt .u64 0).bind fun n2 =>
   (p1.atInt .u64 1).bind fun n3 =>
   R44 (c44 k n2 n3 n1) fun b1 =>
   bif b1 then
    r65f44 t8
   else L65f44_1 k n qs n1 t7 (IntKind.i64.wrap (t8 + 1))
  else none
 else r65f44 (-1) := by kernel_rfl
/-! 66 : slices.IndexFunc[[]int,int] -/
theorem n66f49 (k : Nat) (qs : List PV) (n1 : Int) : c66f49 (k + 1) qs n1 =
 L66f49_1 k k qs (qs.length : Int) 0 n1 := by kernel_rfl
theorem sL66f49_1 (k n : Nat) (qs : List PV) (t7 t8 n1 : Int) : L66f49_1 k (n + 1) qs t7 t8 n1 =
 bif decide (t8 < t7) then
  (lookP qs t8).bind fun p1 =>
  (p1.atInt .i64 0).bind fun n2 =>
  R49 (c49 k n2 n1) fun v1 b1 =>
  bif b1 then
   r66f49 v1 t8
  else L66f49_1 k n qs t7 (IntKind.i64.wrap (t8 + 1)) v1
 else r66f49 n1 (-1) := by kernel_rfl
/-! 67 : impl.sumSpan -/
theorem n67 (k : Nat) (all all1 a a1 b b1 : Int) : c67 (k + 1) all all1 a a1 b b1 =
 bif decide ((0 : Int) ≤ a1) && decide ((0 : Int) ≤ b1) && true && true then
  bif ((a1 + b1 + 0) / 18446744073709551616 == 0) then
   bif decide ((a1 + b1 + 0) % 18446744073709551616 ≤ all1) then
    r67 (IntKind.u64.wrap (a + b)) ((a1 + b1 + 0) % 18446744073709551616)
   else r67 all all1
  else r67 all all1
 else none := by kernel_rfl
/-! 68 : impl.productSpan -/
theorem n68 (k : Nat) (all all1 a a1 b b1 : Int) : c68 (k + 1) all all1 a a1 b b1 =
 R81 (c81 k a1 b1) fun v1 v2 =>
 bif (v1 == 0) then
  bif decide (v2 ≤ all1) then
   r68 (IntKind.u64.wrap (a * b)) v2
  else r68 all all1
 else r68 all all1 := by kernel_rfl
/-! 69 : impl.comparison -/
theorem n69 (k : Nat) (yes no : Bool) : c69 (k + 1) yes no =
 bif yes then
  r69 1 1
 else
  bif no then
   r69 0 0
  else r69 0 1 := by kernel_rfl
/-! 70 : spec.l1Wide -/
theorem n70 (k : Nat) (wide : Int) : c70 (k + 1) wide =
 R53 (c53 k wide 1 64) fun b1 =>
 r70 b1 := by kernel_rfl
/-! 71 : spec.l2N -/
theorem n71 (k : Nat) (wide vars n1 n11 : Int) : c71 (k + 1) wide vars n1 n11 =
 bif (n1 == 1) then
  R79 (c79 k wide n11) fun b1 =>
  r71 b1
 else
  bif (n1 == 2) then
   r71 (decide (n11 < IntKind.u64.wrap vars))
  else
   bif (n1 == 20) then
    r71 (decide (n11 < 2))
   else r71 (n11 == 0) := by kernel_rfl
/-! 72 : spec.l18Fits -/
theorem n72 (k : Nat) (wide a b : Int) : c72 (k + 1) wide a b =
 bif (b == 0) then
  r72 true
 else
  R55 (c55 k wide 18446744073709551615) fun v1 =>
  bif !(b == 0) then
   r72 (decide (a ≤ IntKind.u64.wrap (v1.tdiv b)))
  else none := by kernel_rfl
/-! 73 : slices.IndexFunc[[]uint64,uint64] -/
theorem n73f60 (k : Nat) (qs : List PV) (n1 : Int) : c73f60 (k + 1) qs n1 =
 L73f60_1 k k qs (qs.length : Int) 0 n1 := by kernel_rfl
theorem sL73f60_1 (k n : Nat) (qs : List PV) (t7 t8 n1 : Int) : L73f60_1 k (n + 1) qs t7 t8 n1 =
 bif decide (t8 < t7) then
  (lookP qs t8).bind fun p1 =>
  (p1.atInt .u64 0).bind fun n2 =>
  R60 (c60 k n2 n1) fun v1 b1 =>
  bif b1 then
   r73f60 v1 t8
  else L73f60_1 k n qs t7 (IntKind.i64.wrap (t8 + 1)) v1
 else r73f60 n1 (-1) := by kernel_rfl
/-! 74 : impl.DivWord -/
theorem n74 (k : Nat) (wide a b : Int) : c74 (k + 1) wide a b =
 R82 (c82 k wide a b) fun b1 =>
 bif !b1 then
  r74 0 0 false
 else
  bif (b == 0) then
   R50 (c50 k wide) fun v1 =>
   r74 v1 a true
  else
   R83 (c83 k 0 a b) fun v2 v3 =>
   r74 v2 v3 true := by kernel_rfl
/-! 75 : impl.shift -/
theorem n75 (k : Nat) (wide a by1 : Int) (left : Bool) : c75 (k + 1) wide a by1 left =
 bif decide (by1 ≥ IntKind.u64.wrap wide) then
  r75 0
 else
  bif left then
   bif !decide (by1 < 0) then
    R50 (c50 k wide) fun v1 =>
    r75 (bitsOp .and .u64 (shlI .u64 a by1) v1)
   else none
  else
   bif !decide (by1 < 0) then
    r75 (shrI .u64 a by1)
   else none := by kernel_rfl
/-! 76 : impl.truth -/
theorem n76 (k : Nat) (holds : Bool) : c76 (k + 1) holds =
 bif holds then
  r76 1
 else r76 0 := by kernel_rfl
/-! 77 : impl.signed -/
theorem n77 (k : Nat) (wide a : Int) : c77 (k + 1) wide a =
 bif !decide (IntKind.i64.wrap (64 - wide) < 0) then
  bif !decide (IntKind.i64.wrap (64 - wide) < 0) then
   r77 (shrI .i64 (IntKind.i64.wrap (shlI .u64 a (IntKind.i64.wrap (64 - wide)))) (IntKind.i64.wrap (64 - wide)))
  else none
 else none := by kernel_rfl
/-! 78 : spec.l1Cur).long -/
theorem n78 (k : Nat) (l : List PV) (n1 n11 : Int) : c78 (k + 1) l n1 n11 =
 L78_1 k k 0 0 l n1 n11 := by kernel_rfl
theorem sL78_1 (k n : Nat) (n1 i : Int) (l : List PV) (n11 n12 : Int) : L78_1 k (n + 1) n1 i l n11 n12 =
 bif decide (i < 8) then
  R64 (c64 k l n11 n12) fun l1 v1 v2 v3 =>
  L78_1 k n (bitsOp .or .u64 (shlI .u64 n1 8) (IntKind.u64.wrap v3)) (IntKind.i64.wrap (i + 1)) l1 v1 v2
 else r78 l n11 n12 n1 := by kernel_rfl
/-! 79 : spec.GoodWord -/
theorem n79 (k : Nat) (wide a : Int) : c79 (k + 1) wide a =
 R70 (c70 k wide) fun b1 =>
 bif b1 then
  R55 (c55 k wide a) fun v1 =>
  r79 (v1 == a)
 else r79 false := by kernel_rfl
/-! 81 : bits.Mul64 -/
theorem n81 (k : Nat) (x y : Int) : c81 (k + 1) x y =
 r81 (IntKind.u64.wrap ((IntKind.u64.wrap ((IntKind.u64.wrap ((shrI .u64 x 32) * (shrI .u64 y 32))) + (shrI .u64 (IntKind.u64.wrap ((IntKind.u64.wrap ((shrI .u64 x 32) * (bitsOp .and .u64 y 4294967295))) + (shrI .u64 (IntKind.u64.wrap ((bitsOp .and .u64 x 4294967295) * (bitsOp .and .u64 y 4294967295))) 32))) 32))) + (shrI .u64 (IntKind.u64.wrap ((bitsOp .and .u64 (IntKind.u64.wrap ((IntKind.u64.wrap ((shrI .u64 x 32) * (bitsOp .and .u64 y 4294967295))) + (shrI .u64 (IntKind.u64.wrap ((bitsOp .and .u64 x 4294967295) * (bitsOp .and .u64 y 4294967295))) 32))) 4294967295) + (IntKind.u64.wrap ((bitsOp .and .u64 x 4294967295) * (shrI .u64 y 32))))) 32))) (IntKind.u64.wrap (x * y)) := by kernel_rfl
/-! 82 : impl.areWords -/
theorem n82 (k : Nat) (wide a b : Int) : c82 (k + 1) wide a b =
 R25 (c25 k wide a) fun b1 =>
 bif b1 then
  R25 (c25 k wide b) fun b2 =>
  r82 b2
 else r82 false := by kernel_rfl
end Go.Proofs.Ytclkgblckicabaa
/- Normal forms: printed by nf.py. -/
set_option linter.unusedVariables false
set_option maxRecDepth 100000
namespace Go.Proofs.Ytclkgblckicabaa
open Go.Dp
/-! 83 : bits.Div64 -/
theorem n83 (k : Nat) (hi lo y : Int) : c83 (k + 1) hi lo y =
 bif (y == 0) then
  none
 else
  bif decide (y ≤ hi) then
   none
  else
   bif (hi == 0) then
    bif !(y == 0) then
     bif !(y == 0) then
      r83 (IntKind.u64.wrap (lo.tdiv y)) (lo.tmod y)
     else none
    else none
   else
    R84 (c84 k y) fun v1 =>
    bif !decide (IntKind.u64.wrap v1 < 0) then
     bif !decide (IntKind.u64.wrap v1 < 0) then
      bif !decide (IntKind.u64.wrap (64 - (IntKind.u64.wrap v1)) < 0) then
       bif !decide (IntKind.u64.wrap v1 < 0) then
        bif !(shrI .u64 (shlI .u64 y (IntKind.u64.wrap v1)) 32 == 0) then
         L83_1 k k (shlI .u64 y (IntKind.u64.wrap v1)) (IntKind.u64.wrap v1) (shrI .u64 (shlI .u64 y (IntKind.u64.wrap v1)) 32) (bitsOp .and .u64 (shlI .u64 y (IntKind.u64.wrap v1)) 4294967295) (bitsOp .or .u64 (shlI .u64 hi (IntKind.u64.wrap v1)) (shrI .u64 lo (IntKind.u64.wrap (64 - (IntKind.u64.wrap v1))))) (shrI .u64 (shlI .u64 lo (IntKind.u64.wrap v1)) 32) (bitsOp .and .u64 (shlI .u64 lo (IntKind.u64.wrap v1)) 4294967295) (IntKind.u64.wrap ((bitsOp .or .u64 (shlI .u64 hi (IntKind.u64.wrap v1)) (shrI .u64 lo (IntKind.u64.wrap (64 - (IntKind.u64.wrap v1))))).tdiv (shrI .u64 (shlI .u64 y (IntKind.u64.wrap v1)) 32))) (IntKind.u64.wrap ((bitsOp .or .u64 (shlI .u64 hi (IntKind.u64.wrap v1)) (shrI .u64 lo (IntKind.u64.wrap (64 - (IntKind.u64.wrap v1))))) - (IntKind.u64.wrap ((IntKind.u64.wrap ((bitsOp .or .u64 (shlI .u64 hi (IntKind.u64.wrap v1)) (shrI .u64 lo (IntKind.u64.wrap (64 - (IntKind.u64.wrap v1))))).tdiv (shrI .u64 (shlI .u64 y (IntKind.u64.wrap v1)) 32))) * (shrI .u64 (shlI .u64 y (IntKind.u64.wrap v1)) 32)))))
        else none
       else none
      else none
     else none
    else none := by kernel_rfl
theorem sL83_1 (k n : Nat) (y qs yn1 yn0 un32 un1 un0 q1 rhat : Int) : L83_1 k (n + 1) y qs yn1 yn0 un32 un1 un0 q1 rhat =
 bif decide (q1 ≥ 4294967296) then
  bif decide (IntKind.u64.wrap (rhat + yn1) ≥ 4294967296) then
   bif !(yn1 == 0) then
    L83_2 k k y qs yn1 yn0 un0 (IntKind.u64.wrap (q1 - 1)) (IntKind.u64.wrap ((IntKind.u64.wrap ((IntKind.u64.wrap ((IntKind.u64.wrap (un32 * 4294967296)) + un1)) - (IntKind.u64.wrap ((IntKind.u64.wrap (q1 - 1)) * y)))) - (IntKind.u64.wrap ((IntKind.u64.wrap ((IntKind.u64.wrap ((IntKind.u64.wrap ((IntKind.u64.wrap (un32 * 4294967296)) + un1)) - (IntKind.u64.wrap ((IntKind.u64.wrap (q1 - 1)) * y)))).tdiv yn1)) * yn1)))) (IntKind.u64.wrap ((IntKind.u64.wrap ((IntKind.u64.wrap (un32 * 4294967296)) + un1)) - (IntKind.u64.wrap ((IntKind.u64.wrap (q1 - 1)) * y)))) (IntKind.u64.wrap ((IntKind.u64.wrap ((IntKind.u64.wrap ((IntKind.u64.wrap (un32 * 4294967296)) + un1)) - (IntKind.u64.wrap ((IntKind.u64.wrap (q1 - 1)) * y)))).tdiv yn1))
   else none
  else L83_1 k n y qs yn1 yn0 un32 un1 un0 (IntKind.u64.wrap (q1 - 1)) (IntKind.u64.wrap (rhat + yn1))
 else
  bif decide (IntKind.u64.wrap (q1 * yn0) > IntKind.u64.wrap ((IntKind.u64.wrap (4294967296 * rhat)) + un1)) then
   bif decide (IntKind.u64.wrap (rhat + yn1) ≥ 4294967296) then
    bif !(yn1 == 0) then
     L83_2 k k y qs yn1 yn0 un0 (IntKind.u64.wrap (q1 - 1)) (IntKind.u64.wrap ((IntKind.u64.wrap ((IntKind.u64.wrap ((IntKind.u64.wrap (un32 * 4294967296)) + un1)) - (IntKind.u64.wrap ((IntKind.u64.wrap (q1 - 1)) * y)))) - (IntKind.u64.wrap ((IntKind.u64.wrap ((IntKind.u64.wrap ((IntKind.u64.wrap ((IntKind.u64.wrap (un32 * 4294967296)) + un1)) - (IntKind.u64.wrap ((IntKind.u64.wrap (q1 - 1)) * y)))).tdiv yn1)) * yn1)))) (IntKind.u64.wrap ((IntKind.u64.wrap ((IntKind.u64.wrap (un32 * 4294967296)) + un1)) - (IntKind.u64.wrap ((IntKind.u64.wrap (q1 - 1)) * y)))) (IntKind.u64.wrap ((IntKind.u64.wrap ((IntKind.u64.wrap ((IntKind.u64.wrap (un32 * 4294967296)) + un1)) - (IntKind.u64.wrap ((IntKind.u64.wrap (q1 - 1)) * y)))).tdiv yn1))
    else none
   else L83_1 k n y qs yn1 yn0 un32 un1 un0 (IntKind.u64.wrap (q1 - 1)) (IntKind.u64.wrap (rhat + yn1))
  else
   bif !(yn1 == 0) then
    L83_2 k k y qs yn1 yn0 un0 q1 (IntKind.u64.wrap ((IntKind.u64.wrap ((IntKind.u64.wrap ((IntKind.u64.wrap (un32 * 4294967296)) + un1)) - (IntKind.u64.wrap (q1 * y)))) - (IntKind.u64.wrap ((IntKind.u64.wrap ((IntKind.u64.wrap ((IntKind.u64.wrap ((IntKind.u64.wrap (un32 * 4294967296)) + un1)) - (IntKind.u64.wrap (q1 * y)))).tdiv yn1)) * yn1)))) (IntKind.u64.wrap ((IntKind.u64.wrap ((IntKind.u64.wrap (un32 * 4294967296)) + un1)) - (IntKind.u64.wrap (q1 * y)))) (IntKind.u64.wrap ((IntKind.u64.wrap ((IntKind.u64.wrap ((IntKind.u64.wrap (un32 * 4294967296)) + un1)) - (IntKind.u64.wrap (q1 * y)))).tdiv yn1))
   else none := by kernel_rfl
theorem sL83_2 (k n : Nat) (y qs yn1 yn0 un0 q1 rhat un21 q0 : Int) : L83_2 k (n + 1) y qs yn1 yn0 un0 q1 rhat un21 q0 =
 bif decide (q0 ≥ 4294967296) then
  bif decide (IntKind.u64.wrap (rhat + yn1) ≥ 4294967296) then
   bif !decide (qs < 0) then
    r83 (IntKind.u64.wrap ((IntKind.u64.wrap (q1 * 4294967296)) + (IntKind.u64.wrap (q0 - 1)))) (shrI .u64 (IntKind.u64.wrap ((IntKind.u64.wrap ((IntKind.u64.wrap (un21 * 4294967296)) + un0)) - (IntKind.u64.wrap ((IntKind.u64.wrap (q0 - 1)) * y)))) qs)
   else none
  else L83_2 k n y qs yn1 yn0 un0 q1 (IntKind.u64.wrap (rhat + yn1)) un21 (IntKind.u64.wrap (q0 - 1))
 else
  bif decide (IntKind.u64.wrap (q0 * yn0) > IntKind.u64.wrap ((IntKind.u64.wrap (4294967296 * rhat)) + un0)) then
   bif decide (IntKind.u64.wrap (rhat + yn1) ≥ 4294967296) then
    bif !decide (qs < 0) then
     r83 (IntKind.u64.wrap ((IntKind.u64.wrap (q1 * 4294967296)) + (IntKind.u64.wrap (q0 - 1)))) (shrI .u64 (IntKind.u64.wrap ((IntKind.u64.wrap ((IntKind.u64.wrap (un21 * 4294967296)) + un0)) - (IntKind.u64.wrap ((IntKind.u64.wrap (q0 - 1)) * y)))) qs)
    else none
   else L83_2 k n y qs yn1 yn0 un0 q1 (IntKind.u64.wrap (rhat + yn1)) un21 (IntKind.u64.wrap (q0 - 1))
  else
   bif !decide (qs < 0) then
    r83 (IntKind.u64.wrap ((IntKind.u64.wrap (q1 * 4294967296)) + q0)) (shrI .u64 (IntKind.u64.wrap ((IntKind.u64.wrap ((IntKind.u64.wrap (un21 * 4294967296)) + un0)) - (IntKind.u64.wrap (q0 * y)))) qs)
   else none := by kernel_rfl
/-! 84 : bits.LeadingZeros64 -/
theorem n84 (k : Nat) (x : Int) : c84 (k + 1) x =
 R85 (c85 k x) fun v1 =>
 r84 (IntKind.i64.wrap (64 - v1)) := by kernel_rfl
/-! 85 : bits.Len64 -/
theorem n85 (k : Nat) (x : Int) : c85 (k + 1) x =
 bif decide (x ≥ 4294967296) then
  bif decide (shrI .u64 x 32 ≥ 65536) then
   bif decide (shrI .u64 (shrI .u64 x 32) 16 ≥ 256) then
    (byteAt ⟨#[0, 1, 2, 2, 3, 3, 3, 3, 4, 4, 4, 4, 4, 4, 4, 4, 5, 5, 5, 5, 5, 5, 5, 5, 5, 5, 5, 5, 5, 5, 5, 5, 6, 6, 6, 6, 6, 6, 6, 6, 6, 6, 6, 6, 6, 6, 6, 6, 6, 6, 6, 6, 6, 6, 6, 6, 6, 6, 6, 6, 6, 6, 6, 6, 7, 7, 7, 7, 7, 7, 7, 7, 7, 7, 7, 7, 7, 7, 7, 7, 7, 7, 7, 7, 7, 7, 7, 7, 7, 7, 7, 7, 7, 7, 7, 7, 7, 7, 7, 7, 7, 7, 7, 7, 7, 7, 7, 7, 7, 7, 7, 7, 7, 7, 7, 7, 7, 7, 7, 7, 7, 7, 7, 7, 7, 7, 7, 7, 8, 8, 8, 8, 8, 8, 8, 8, 8, 8, 8, 8, 8, 8, 8, 8, 8, 8, 8, 8, 8, 8, 8, 8, 8, 8, 8, 8, 8, 8, 8, 8, 8, 8, 8, 8, 8, 8, 8, 8, 8, 8, 8, 8, 8, 8, 8, 8, 8, 8, 8, 8, 8, 8, 8, 8, 8, 8, 8, 8, 8, 8, 8, 8, 8, 8, 8, 8, 8, 8, 8, 8, 8, 8, 8, 8, 8, 8, 8, 8, 8, 8, 8, 8, 8, 8, 8, 8, 8, 8, 8, 8, 8, 8, 8, 8, 8, 8, 8, 8, 8, 8, 8, 8, 8, 8, 8, 8, 8, 8, 8, 8, 8, 8, 8, 8, 8, 8, 8, 8, 8, 8, 8, 8, 8, 8, 8, 8]⟩ (IntKind.u8.wrap (shrI .u64 (shrI .u64 (shrI .u64 x 32) 16) 8))).bind fun b1 =>
    r85 (IntKind.i64.wrap (56 + (IntKind.i64.wrap b1)))
   else
    (byteAt ⟨#[0, 1, 2, 2, 3, 3, 3, 3, 4, 4, 4, 4, 4, 4, 4, 4, 5, 5, 5, 5, 5, 5, 5, 5, 5, 5, 5, 5, 5, 5, 5, 5, 6, 6, 6, 6, 6, 6, 6, 6, 6, 6, 6, 6, 6, 6, 6, 6, 6, 6, 6, 6, 6, 6, 6, 6, 6, 6, 6, 6, 6, 6, 6, 6, 7, 7, 7, 7, 7, 7, 7, 7, 7, 7, 7, 7, 7, 7, 7, 7, 7, 7, 7, 7, 7, 7, 7, 7, 7, 7, 7, 7, 7, 7, 7, 7, 7, 7, 7, 7, 7, 7, 7, 7, 7, 7, 7, 7, 7, 7, 7, 7, 7, 7, 7, 7, 7, 7, 7, 7, 7, 7, 7, 7, 7, 7, 7, 7, 8, 8, 8, 8, 8, 8, 8, 8, 8, 8, 8, 8, 8, 8, 8, 8, 8, 8, 8, 8, 8, 8, 8, 8, 8, 8, 8, 8, 8, 8, 8, 8, 8, 8, 8, 8, 8, 8, 8, 8, 8, 8, 8, 8, 8, 8, 8, 8, 8, 8, 8, 8, 8, 8, 8, 8, 8, 8, 8, 8, 8, 8, 8, 8, 8, 8, 8, 8, 8, 8, 8, 8, 8, 8, 8, 8, 8, 8, 8, 8, 8, 8, 8, 8, 8, 8, 8, 8, 8, 8, 8, 8, 8, 8, 8, 8, 8, 8, 8, 8, 8, 8, 8, 8, 8, 8, 8, 8, 8, 8, 8, 8, 8, 8, 8, 8, 8, 8, 8, 8, 8, 8, 8, 8, 8, 8, 8, 8]⟩ (IntKind.u8.wrap (shrI .u64 (shrI .u64 x 32) 16))).bind fun b2 =>
    r85 (IntKind.i64.wrap (48 + (IntKind.i64.wrap b2)))
  else
   bif decide (shrI .u64 x 32 ≥ 256) then
    (byteAt ⟨#[0, 1, 2, 2, 3, 3, 3, 3, 4, 4, 4, 4, 4, 4, 4, 4, 5, 5, 5, 5, 5, 5, 5, 5, 5, 5, 5, 5, 5, 5, 5, 5, 6, 6, 6, 6, 6, 6, 6, 6, 6, 6, 6, 6, 6, 6, 6, 6, 6, 6, 6, 6, 6, 6, 6, 6, 6, 6, 6, 6, 6, 6, 6, 6, 7, 7, 7, 7, 7, 7, 7, 7, 7, 7, 7, 7, 7, 7, 7, 7, 7, 7, 7, 7, 7, 7, 7, 7, 7, 7, 7, 7, 7, 7, 7, 7, 7, 7, 7, 7, 7, 7, 7, 7, 7, 7, 7, 7, 7, 7, 7, 7, 7, 7, 7, 7, 7, 7, 7, 7, 7, 7, 7, 7, 7, 7, 7, 7, 8, 8, 8, 8, 8, 8, 8, 8, 8, 8, 8, 8, 8, 8, 8, 8, 8, 8, 8, 8, 8, 8, 8, 8, 8, 8, 8, 8, 8, 8, 8, 8, 8, 8, 8, 8, 8, 8, 8, 8, 8, 8, 8, 8, 8, 8, 8, 8, 8, 8, 8, 8, 8, 8, 8, 8, 8, 8, 8, 8, 8, 8, 8, 8, 8, 8, 8, 8, 8, 8, 8, 8, 8, 8, 8, 8, 8, 8, 8, 8, 8, 8, 8, 8, 8, 8, 8, 8, 8, 8, 8, 8, 8, 8, 8, 8, 8, 8, 8, 8, 8, 8, 8, 8, 8, 8, 8, 8, 8, 8, 8, 8, 8, 8, 8, 8, 8, 8, 8, 8, 8, 8, 8, 8, 8, 8, 8, 8]⟩ (IntKind.u8.wrap (shrI .u64 (shrI .u64 x 32) 8))).bind fun b3 =>
    r85 (IntKind.i64.wrap (40 + (IntKind.i64.wrap b3)))
   else
    (byteAt ⟨#[0, 1, 2, 2, 3, 3, 3, 3, 4, 4, 4, 4, 4, 4, 4, 4, 5, 5, 5, 5, 5, 5, 5, 5, 5, 5, 5, 5, 5, 5, 5, 5, 6, 6, 6, 6, 6, 6, 6, 6, 6, 6, 6, 6, 6, 6, 6, 6, 6, 6, 6, 6, 6, 6, 6, 6, 6, 6, 6, 6, 6, 6, 6, 6, 7, 7, 7, 7, 7, 7, 7, 7, 7, 7, 7, 7, 7, 7, 7, 7, 7, 7, 7, 7, 7, 7, 7, 7, 7, 7, 7, 7, 7, 7, 7, 7, 7, 7, 7, 7, 7, 7, 7, 7, 7, 7, 7, 7, 7, 7, 7, 7, 7, 7, 7, 7, 7, 7, 7, 7, 7, 7, 7, 7, 7, 7, 7, 7, 8, 8, 8, 8, 8, 8, 8, 8, 8, 8, 8, 8, 8, 8, 8, 8, 8, 8, 8, 8, 8, 8, 8, 8, 8, 8, 8, 8, 8, 8, 8, 8, 8, 8, 8, 8, 8, 8, 8, 8, 8, 8, 8, 8, 8, 8, 8, 8, 8, 8, 8, 8, 8, 8, 8, 8, 8, 8, 8, 8, 8, 8, 8, 8, 8, 8, 8, 8, 8, 8, 8, 8, 8, 8, 8, 8, 8, 8, 8, 8, 8, 8, 8, 8, 8, 8, 8, 8, 8, 8, 8, 8, 8, 8, 8, 8, 8, 8, 8, 8, 8, 8, 8, 8, 8, 8, 8, 8, 8, 8, 8, 8, 8, 8, 8, 8, 8, 8, 8, 8, 8, 8, 8, 8, 8, 8, 8, 8]⟩ (IntKind.u8.wrap (shrI .u64 x 32))).bind fun b4 =>
    r85 (IntKind.i64.wrap (32 + (IntKind.i64.wrap b4)))
 else
  bif decide (x ≥ 65536) then
   bif decide (shrI .u64 x 16 ≥ 256) then
    (byteAt ⟨#[0, 1, 2, 2, 3, 3, 3, 3, 4, 4, 4, 4, 4, 4, 4, 4, 5, 5, 5, 5, 5, 5, 5, 5, 5, 5, 5, 5, 5, 5, 5, 5, 6, 6, 6, 6, 6, 6, 6, 6, 6, 6, 6, 6, 6, 6, 6, 6, 6, 6, 6, 6, 6, 6, 6, 6, 6, 6, 6, 6, 6, 6, 6, 6, 7, 7, 7, 7, 7, 7, 7, 7, 7, 7, 7, 7, 7, 7, 7, 7, 7, 7, 7, 7, 7, 7, 7, 7, 7, 7, 7, 7, 7, 7, 7, 7, 7, 7, 7, 7, 7, 7, 7, 7, 7, 7, 7, 7, 7, 7, 7, 7, 7, 7, 7, 7, 7, 7, 7, 7, 7, 7, 7, 7, 7, 7, 7, 7, 8, 8, 8, 8, 8, 8, 8, 8, 8, 8, 8, 8, 8, 8, 8, 8, 8, 8, 8, 8, 8, 8, 8, 8, 8, 8, 8, 8, 8, 8, 8, 8, 8, 8, 8, 8, 8, 8, 8, 8, 8, 8, 8, 8, 8, 8, 8, 8, 8, 8, 8, 8, 8, 8, 8, 8, 8, 8, 8, 8, 8, 8, 8, 8, 8, 8, 8, 8, 8, 8, 8, 8, 8, 8, 8, 8, 8, 8, 8, 8, 8, 8, 8, 8, 8, 8, 8, 8, 8, 8, 8, 8, 8, 8, 8, 8, 8, 8, 8, 8, 8, 8, 8, 8, 8, 8, 8, 8, 8, 8, 8, 8, 8, 8, 8, 8, 8, 8, 8, 8, 8, 8, 8, 8, 8, 8, 8, 8]⟩ (IntKind.u8.wrap (shrI .u64 (shrI .u64 x 16) 8))).bind fun b5 =>
    r85 (IntKind.i64.wrap (24 + (IntKind.i64.wrap b5)))
   else
    (byteAt ⟨#[0, 1, 2, 2, 3, 3, 3, 3, 4, 4, 4, 4, 4, 4, 4, 4, 5, 5, 5, 5, 5, 5, 5, 5, 5, 5, 5, 5, 5, 5, 5, 5, 6, 6, 6, 6, 6, 6, 6, 6, 6, 6, 6, 6, 6, 6, 6, 6, 6, 6, 6, 6, 6, 6, 6, 6, 6, 6, 6, 6, 6, 6, 6, 6, 7, 7, 7, 7, 7, 7, 7, 7, 7, 7, 7, 7, 7, 7, 7, 7, 7, 7, 7, 7, 7, 7, 7, 7, 7, 7, 7, 7, 7, 7, 7, 7, 7, 7, 7, 7, 7, 7, 7, 7, 7, 7, 7, 7, 7, 7, 7, 7, 7, 7, 7, 7, 7, 7, 7, 7, 7, 7, 7, 7, 7, 7, 7, 7, 8, 8, 8, 8, 8, 8, 8, 8, 8, 8, 8, 8, 8, 8, 8, 8, 8, 8, 8, 8, 8, 8, 8, 8, 8, 8, 8, 8, 8, 8, 8, 8, 8, 8, 8, 8, 8, 8, 8, 8, 8, 8, 8, 8, 8, 8, 8, 8, 8, 8, 8, 8, 8, 8, 8, 8, 8, 8, 8, 8, 8, 8, 8, 8, 8, 8, 8, 8, 8, 8, 8, 8, 8, 8, 8, 8, 8, 8, 8, 8, 8, 8, 8, 8, 8, 8, 8, 8, 8, 8, 8, 8, 8, 8, 8, 8, 8, 8, 8, 8, 8, 8, 8, 8, 8, 8, 8, 8, 8, 8, 8, 8, 8, 8, 8, 8, 8, 8, 8, 8, 8, 8, 8, 8, 8, 8, 8, 8]⟩ (IntKind.u8.wrap (shrI .u64 x 16))).bind fun b6 =>
    r85 (IntKind.i64.wrap (16 + (IntKind.i64.wrap b6)))
  else
   bif decide (x ≥ 256) then
    (byteAt ⟨#[0, 1, 2, 2, 3, 3, 3, 3, 4, 4, 4, 4, 4, 4, 4, 4, 5, 5, 5, 5, 5, 5, 5, 5, 5, 5, 5, 5, 5, 5, 5, 5, 6, 6, 6, 6, 6, 6, 6, 6, 6, 6, 6, 6, 6, 6, 6, 6, 6, 6, 6, 6, 6, 6, 6, 6, 6, 6, 6, 6, 6, 6, 6, 6, 7, 7, 7, 7, 7, 7, 7, 7, 7, 7, 7, 7, 7, 7, 7, 7, 7, 7, 7, 7, 7, 7, 7, 7, 7, 7, 7, 7, 7, 7, 7, 7, 7, 7, 7, 7, 7, 7, 7, 7, 7, 7, 7, 7, 7, 7, 7, 7, 7, 7, 7, 7, 7, 7, 7, 7, 7, 7, 7, 7, 7, 7, 7, 7, 8, 8, 8, 8, 8, 8, 8, 8, 8, 8, 8, 8, 8, 8, 8, 8, 8, 8, 8, 8, 8, 8, 8, 8, 8, 8, 8, 8, 8, 8, 8, 8, 8, 8, 8, 8, 8, 8, 8, 8, 8, 8, 8, 8, 8, 8, 8, 8, 8, 8, 8, 8, 8, 8, 8, 8, 8, 8, 8, 8, 8, 8, 8, 8, 8, 8, 8, 8, 8, 8, 8, 8, 8, 8, 8, 8, 8, 8, 8, 8, 8, 8, 8, 8, 8, 8, 8, 8, 8, 8, 8, 8, 8, 8, 8, 8, 8, 8, 8, 8, 8, 8, 8, 8, 8, 8, 8, 8, 8, 8, 8, 8, 8, 8, 8, 8, 8, 8, 8, 8, 8, 8, 8, 8, 8, 8, 8, 8]⟩ (IntKind.u8.wrap (shrI .u64 x 8))).bind fun b7 =>
    r85 (IntKind.i64.wrap (8 + (IntKind.i64.wrap b7)))
   else
    (byteAt ⟨#[0, 1, 2, 2, 3, 3, 3, 3, 4, 4, 4, 4, 4, 4, 4, 4, 5, 5, 5, 5, 5, 5, 5, 5, 5, 5, 5, 5, 5, 5, 5, 5, 6, 6, 6, 6, 6, 6, 6, 6, 6, 6, 6, 6, 6, 6, 6, 6, 6, 6, 6, 6, 6, 6, 6, 6, 6, 6, 6, 6, 6, 6, 6, 6, 7, 7, 7, 7, 7, 7, 7, 7, 7, 7, 7, 7, 7, 7, 7, 7, 7, 7, 7, 7, 7, 7, 7, 7, 7, 7, 7, 7, 7, 7, 7, 7, 7, 7, 7, 7, 7, 7, 7, 7, 7, 7, 7, 7, 7, 7, 7, 7, 7, 7, 7, 7, 7, 7, 7, 7, 7, 7, 7, 7, 7, 7, 7, 7, 8, 8, 8, 8, 8, 8, 8, 8, 8, 8, 8, 8, 8, 8, 8, 8, 8, 8, 8, 8, 8, 8, 8, 8, 8, 8, 8, 8, 8, 8, 8, 8, 8, 8, 8, 8, 8, 8, 8, 8, 8, 8, 8, 8, 8, 8, 8, 8, 8, 8, 8, 8, 8, 8, 8, 8, 8, 8, 8, 8, 8, 8, 8, 8, 8, 8, 8, 8, 8, 8, 8, 8, 8, 8, 8, 8, 8, 8, 8, 8, 8, 8, 8, 8, 8, 8, 8, 8, 8, 8, 8, 8, 8, 8, 8, 8, 8, 8, 8, 8, 8, 8, 8, 8, 8, 8, 8, 8, 8, 8, 8, 8, 8, 8, 8, 8, 8, 8, 8, 8, 8, 8, 8, 8, 8, 8, 8, 8]⟩ (IntKind.u8.wrap x)).bind fun b8 =>
    r85 (IntKind.i64.wrap (0 + (IntKind.i64.wrap b8))) := by kernel_rfl
end Go.Proofs.Ytclkgblckicabaa
/- The draws: next, pick, one, among; cutting a word. -/
set_option linter.unusedVariables false
set_option linter.unusedSimpArgs false
set_option maxRecDepth 4000
namespace Go.Proofs.Ytclkgblckicabaa
open Go.Dp

structure CodeOK (bs : List Nat) : Prop where
  len : bs.length ≤ 1048576
  lt : ∀ b ∈ bs, b < 256
theorem and255 (x : Int) : 0 ≤ bitsOp .and .u64 x 255 ∧ bitsOp .and .u64 x 255 ≤ 255 := by
  have e : bitsOp .and .u64 x 255 = wi (BitVec.ofInt 64 x &&& 255#64) := by
    show IntKind.u64.wrap (((BitVec.ofInt 64 x) &&& (BitVec.ofInt 64 255)).toNat : Int) = _
    exact wrap_wi _
  rw [e]
  refine ⟨wi_nonneg _, ?_⟩
  unfold wi
  rw [BitVec.toNat_and]
  have := Nat.and_le_right (n := (BitVec.ofInt 64 x).toNat) (m := (255#64).toNat)
  have h2 : (255#64).toNat = 255 := rfl
  omega
theorem next_ok {bs : List Nat} (hc : CodeOK bs) {k : Nat} (hk : 1 ≤ k) {at' : Int} (h0 : 0 ≤ at') (h1 : at' ≤ 1000000000) (s : W) :
    ∃ s2 v, c64 k (encB bs) at' (wi s) = r64 (encB bs) (at' + 1) (wi s2) v ∧ 0 ≤ v ∧ v ≤ 255 := by
  obtain ⟨k, rfl⟩ : ∃ j, k = j + 1 := ⟨k - 1, by omega⟩
  rw [n64, i64_id (n := at' + 1) (by omega) (by omega)]
  simp only [wrapU]
  have hl := hc.len
  cases hd : decide (at' < ((encB bs).length : Int))
  · simp only [cond_false]
    cases hd2 : decide (at' + 1 ≤ ((encB bs).length : Int))
    · simp only [cond_false]
      have h3 := and255 (shrI .u64 (wi (BitVec.ofInt 64 (wi (BitVec.ofInt 64 (wi (BitVec.ofInt 64 (wi s * 6364136223846793005)) + 0)) + 1442695040888963407))) 40)
      exact ⟨_, _, rfl, by rw [i64_id (by omega) (by omega)]; exact h3⟩
    · simp only [cond_true]
      exact ⟨_, _, rfl, by omega, by omega⟩
  · simp only [cond_true]
    simp only [encB_length, decide_eq_true_eq] at hd
    have hlt : at'.toNat < bs.length := by omega
    have hlk : lookP (encB bs) at' = some (.int .u8 (bs[at'.toNat] : Int)) := by
      rw [lookP_int h0, encB_get]
      simp [hlt]
    have hb := hc.lt bs[at'.toNat] (List.getElem_mem hlt)
    rw [hlk]
    simp only [Option.bind_some, int_atInt]
    rw [i64_id (n := (bs[at'.toNat] : Int)) (by omega) (by omega)]
    cases hd2 : decide (at' + 1 ≤ ((encB bs).length : Int))
    · simp only [cond_false]
      have h3 := and255 (shrI .u64 (wi (BitVec.ofInt 64 (wi (BitVec.ofInt 64 (wi (BitVec.ofInt 64 (wi s * 6364136223846793005)) + wi (BitVec.ofInt 64 (bs[at'.toNat] : Int)))) + 1442695040888963407))) 40)
      exact ⟨_, _, rfl, by rw [i64_id (by omega) (by omega)]; exact h3⟩
    · simp only [cond_true]
      exact ⟨_, _, rfl, by omega, by omega⟩
theorem pick_ok {bs : List Nat} (hc : CodeOK bs) {k : Nat} (hk : 2 ≤ k) {at' : Int} (h0 : 0 ≤ at') (h1 : at' ≤ 999999000) (s : W) (n : Int) :
    ∃ a2 s2 v, c38 k n (encB bs) at' (wi s) = r38 (encB bs) a2 (wi s2) v ∧ at' ≤ a2 ∧ a2 ≤ at' + 2 ∧ 0 ≤ v ∧ (1 ≤ n → v < n) ∧ (n ≤ 1 → v = 0) ∧ v ≤ 65535 := by
  obtain ⟨k, rfl⟩ : ∃ j, k = j + 1 := ⟨k - 1, by omega⟩
  rw [n38]
  cases hd : decide (n ≤ 1)
  · simp only [cond_false]
    simp at hd
    obtain ⟨s2, v, h, hv0, hv1⟩ := next_ok hc (k := k) (by omega) h0 (by omega) s
    rw [h]
    simp only [R64_r]
    have hn0 : (n == 0) = false := by simp; omega
    cases hd2 : decide (n > 200)
    · simp only [cond_false, hn0, Bool.not_false, cond_true]
      have h5 := Int.tmod_lt_of_pos v (b := n) (by omega)
      have h6 := Int.tmod_nonneg n hv0
      have h7 : v.tmod n ≤ v := by rw [Int.tmod_eq_emod_of_nonneg hv0]; exact emod_le_self hv0 (by omega)
      exact ⟨_, _, _, rfl, by omega, by omega, h6, fun _ => h5, by omega, by omega⟩
    · simp only [cond_true, hn0, Bool.not_false]
      obtain ⟨s3, v3, h3, hv2, hv3⟩ := next_ok hc (k := k) (by omega) (at' := at' + 1) (by omega) (by omega) s2
      rw [h3]
      simp only [R64_r, cond_true]
      rw [i64_id (n := v * 256) (by omega) (by omega), i64_id (n := v * 256 + v3) (by omega) (by omega)]
      have h5 := Int.tmod_lt_of_pos (v * 256 + v3) (b := n) (by omega)
      have h6 := Int.tmod_nonneg n (a := v * 256 + v3) (by omega)
      have h7 : (v * 256 + v3).tmod n ≤ v * 256 + v3 := by rw [Int.tmod_eq_emod_of_nonneg (by omega)]; exact emod_le_self (by omega) (by omega)
      exact ⟨_, _, _, rfl, by omega, by omega, h6, fun _ => h5, by omega, by omega⟩
  · simp only [cond_true]
    simp at hd
    exact ⟨_, _, _, rfl, by omega, by omega, by omega, by omega, fun _ => rfl, by omega⟩
theorem one_ok {bs : List Nat} (hc : CodeOK bs) {k : Nat} (hk : 3 ≤ k) {at' : Int} (h0 : 0 ≤ at') (h1 : at' ≤ 999999000) (s : W) (n : Int) :
    ∃ a2 s2 b, c40 k n (encB bs) at' (wi s) = r40 (encB bs) a2 (wi s2) b ∧ at' ≤ a2 ∧ a2 ≤ at' + 2 := by
  obtain ⟨k, rfl⟩ : ∃ j, k = j + 1 := ⟨k - 1, by omega⟩
  obtain ⟨a2, s2, v, h, h2, h3, _⟩ := pick_ok hc (k := k) (by omega) h0 h1 s n
  rw [n40, h]
  simp only [R38_r]
  exact ⟨_, _, _, rfl, h2, h3⟩
theorem among_ok {bs : List Nat} (hc : CodeOK bs) {k : Nat} (hk : 3 ≤ k) {at' : Int} (h0 : 0 ≤ at') (h1 : at' ≤ 999999000) (s : W) (L : List Int) (hL : 1 ≤ L.length) :
    ∃ a2 s2 v, c37 k (encZ L) (encB bs) at' (wi s) = r37 (encB bs) a2 (wi s2) v ∧ at' ≤ a2 ∧ a2 ≤ at' + 2 ∧ v ∈ L := by
  obtain ⟨k, rfl⟩ : ∃ j, k = j + 1 := ⟨k - 1, by omega⟩
  obtain ⟨a2, s2, v, h, h2, h3, h4, h5, _⟩ := pick_ok hc (k := k) (by omega) h0 h1 s (L.length : Int)
  rw [n37, encZ_length, h]
  simp only [R38_r]
  have hv := h5 (by omega)
  have hlt : v.toNat < L.length := by omega
  have e : v = (v.toNat : Int) := by omega
  have hlk : lookP (encZ L) v = some (.int .i64 L[v.toNat]) := by
    rw [lookP_int h4, encZ_get]
    simp [hlt]
  rw [hlk]
  simp only [Option.bind_some, int_atInt]
  exact ⟨_, _, _, rfl, h2, h3, List.getElem_mem hlt⟩

/-! ### Cutting a word -/
def maskB (n : Nat) : W := BitVec.allOnes 64 >>> (64 - n)
theorem maskB_lsb {n : Nat} (hn : n ≤ 64) (i : Nat) : (maskB n).getLsbD i = decide (i < n) := by
  unfold maskB
  rw [BitVec.getLsbD_ushiftRight, BitVec.getLsbD_allOnes]
  by_cases h : i < n <;> simp <;> omega
theorem mask_ok {k : Nat} (hk : 1 ≤ k) {wide : Int} (h1 : 0 ≤ wide) (h2 : wide ≤ 64) : c50 k wide = r50 (wi (maskB wide.toNat)) := by
  obtain ⟨k, rfl⟩ : ∃ j, k = j + 1 := ⟨k - 1, by omega⟩
  rw [n50, i64_id (by omega) (by omega)]
  have hd : decide (64 - wide < 0) = false := by simp; omega
  simp only [hd, Bool.not_false, cond_true]
  have e : (18446744073709551615 : Int) = wi (BitVec.allOnes 64) := rfl
  rw [e, shr_wi _ (by omega)]
  have : (64 - wide).toNat = 64 - wide.toNat := by omega
  rw [this]
  rfl
theorem cut_step (a : W) (j : Nat) (hj : j < 64) : (a &&& maskB j) ||| (a &&& (1#64 <<< j)) = a &&& maskB (j + 1) := by
  apply BitVec.eq_of_getLsbD_eq
  intro i hi
  rw [BitVec.getLsbD_or, BitVec.getLsbD_and, BitVec.getLsbD_and, BitVec.getLsbD_and, maskB_lsb (by omega), maskB_lsb (by omega)]
  rw [BitVec.getLsbD_shiftLeft, BitVec.getLsbD_one]
  by_cases h1 : i < j
  · have : i < j + 1 := by omega
    simp [h1, this]
  · by_cases h2 : i = j
    · subst h2; simp; omega
    · have h3 : ¬ i < j + 1 := by omega
      have h4 : ¬ (i - j = 0) := by omega
      simp [h1, h3, h4]
theorem cutloop {wide : Int} (h2 : wide ≤ 64) (a : W) (k : Nat) : ∀ (m n : Nat) (j : Nat), (wide - j).toNat ≤ m → m < n → (j : Int) ≤ wide → L55_1 k n wide (wi a) (wi (a &&& maskB j)) (j : Int) = r55 (wi (a &&& maskB wide.toNat))
  | m, 0, j, hm, hn, hj => by omega
  | m, n + 1, j, hm, hn, hj => by
    rw [sL55_1]
    by_cases h : (j : Int) < wide
    · have hd : decide ((j : Int) < wide) = true := by simpa using h
      rw [u64_id (n := (j : Int)) (by omega) (by omega)]
      have hd2 : decide ((j : Int) < 0) = false := by simp
      have e1 : (1 : Int) = wi (1#64) := rfl
      simp only [hd, hd2, cond_true, Bool.not_false]
      rw [e1, shl_wi _ (by omega), and_wi, or_wi, ← e1, Int.toNat_natCast, cut_step a j (by omega), i64_id (by omega) (by omega)]
      have e2 : (j : Int) + 1 = ((j + 1 : Nat) : Int) := by omega
      rw [e2]
      cases m with
      | zero => omega
      | succ m => exact cutloop h2 a k m n (j + 1) (by omega) (by omega) (by omega)
    · have hd : decide ((j : Int) < wide) = false := by simpa using h
      simp only [hd, cond_false]
      have : wide.toNat = j := by omega
      rw [this]
theorem cut_ok {k : Nat} (hk : 70 ≤ k) {wide : Int} (h1 : 0 ≤ wide) (h2 : wide ≤ 64) (a : W) : c55 k wide (wi a) = r55 (wi (a &&& maskB wide.toNat)) := by
  obtain ⟨k, rfl⟩ : ∃ j, k = j + 1 := ⟨k - 1, by omega⟩
  rw [n55]
  have e0 : (0 : Int) = wi (a &&& maskB 0) := by
    have : maskB 0 = 0#64 := by rfl
    rw [this]; simp [wi]
  have := cutloop h2 a k wide.toNat k 0 (by omega) (by omega) (by omega)
  rw [← e0] at this
  exact this
end Go.Proofs.Ytclkgblckicabaa
/- The draws of terms. -/
set_option linter.unusedVariables false
set_option linter.unusedSimpArgs false
set_option maxRecDepth 4000
namespace Go.Proofs.Ytclkgblckicabaa
open Go.Dp

theorem number_ok {bs : List Nat} (hc : CodeOK bs) {wide vars : Int} (hw0 : 0 ≤ wide) (hw : wide ≤ 64) (hv : 1 ≤ vars) (hv2 : vars ≤ 100) : ∀ (d : Nat) {k : Nat} (hk : 80 + d ≤ k) (hd : d ≤ 16) {at' : Int} (h0 : 0 ≤ at') (h1 : at' + (20 * 2 ^ d : Nat) ≤ 900000000) (s : W),
    ∃ a2 s2 t, c41 k wide vars (d : Int) (encB bs) at' (wi s) = r41 (encB bs) a2 (wi s2) (encT t) ∧ at' ≤ a2 ∧ a2 ≤ at' + (20 * (2 ^ d : Nat) - 10 : Nat) ∧ 1 ≤ t.length ∧ t.length + 1 ≤ 2 ^ (d + 1)
  | 0, k, hk, hd, at', h0, h1, s => by
    obtain ⟨k, rfl⟩ : ∃ j, k = j + 1 := ⟨k - 1, by omega⟩
    rw [n41]
    have e : (((0 : Nat) : Int) == 0) = true := rfl
    simp only [e, cond_true]
    obtain ⟨a2, s2, b, h, h2, h3⟩ := one_ok hc (k := k) (by omega) h0 (by omega) s 2
    rw [h]
    simp only [R40_r]
    cases b
    · simp only [cond_false]
      obtain ⟨a3, s3, v, h, h4, h5, _⟩ := pick_ok hc (k := k) (by omega) (at' := a2) (by omega) (by omega) s2 vars
      rw [h]
      simp only [R38_r]
      rw [wrapU]
      exact ⟨a3, s3, [(2, BitVec.ofInt 64 v)], rfl, by omega, by (simp; try omega), by simp, by simp⟩
    · simp only [cond_true]
      obtain ⟨a3, s3, v, h, h4, h5, _⟩ := pick_ok hc (k := k) (by omega) (at' := a2) (by omega) (by omega) s2 9
      rw [h]
      simp only [R38_r]
      rw [wrapU, cut_ok (by omega) hw0 hw]
      simp only [R55_r]
      exact ⟨a3, s3, [(1, _)], rfl, by omega, by (simp; try omega), by simp, by simp⟩
  | d + 1, k, hk, hd, at', h0, h1, s => by
    obtain ⟨k, rfl⟩ : ∃ j, k = j + 1 := ⟨k - 1, by omega⟩
    have ih := fun (a : Int) (h0 : 0 ≤ a) (h1 : a + (20 * 2 ^ d : Nat) ≤ 900000000) (s : W) => number_ok hc hw0 hw hv hv2 d (k := k) (by omega) (by omega) h0 h1 s
    have hp : (2 : Nat) ^ d ≤ 65536 := Nat.pow_le_pow_right (n := 2) (by omega) (show d ≤ 16 by omega)
    have hp1 : 1 ≤ (2 : Nat) ^ d := Nat.one_le_two_pow
    have e2 : (2 : Nat) ^ (d + 1) = 2 * 2 ^ d := by rw [Nat.pow_succ]; omega
    have e3 : (2 : Nat) ^ (d + 1 + 1) = 4 * 2 ^ d := by rw [Nat.pow_succ, e2]; omega
    rw [e3]
    rw [e2] at h1 ⊢
    rw [n41]
    have e : (((d + 1 : Nat) : Int) == 0) = false := by (simp; try omega)
    have e1 : IntKind.i64.wrap (((d + 1 : Nat) : Int) - 1) = (d : Int) := by rw [i64_id (by omega) (by omega)]; omega
    simp only [e, cond_false, e1]
    obtain ⟨a2, s2, b, h, h2, h3⟩ := one_ok hc (k := k) (by omega) h0 (by omega) s 4
    rw [h]
    simp only [R40_r]
    cases b
    · simp only [cond_false]
      obtain ⟨a3, s3, b, h, h4, h5⟩ := one_ok hc (k := k) (by omega) (at' := a2) (by omega) (by omega) s2 7
      rw [h]
      simp only [R40_r]
      cases b
      · simp only [cond_false]
        obtain ⟨a4, s4, t, h, h6, h7, h8, h9⟩ := ih a3 (by omega) (by omega) s3
        rw [h]
        simp only [R41_r]
        obtain ⟨a5, s5, u, h, h10, h11, h12, h13⟩ := ih a4 (by omega) (by omega) s4
        rw [h]
        simp only [R41_r]
        rw [lim_ok (by (simp; try omega)) (by omega)]
        simp only [cond_true]
        obtain ⟨a6, s6, v, h, h14, h15, _⟩ := among_ok hc (k := k) (by omega) (at' := a5) (by omega) (by omega) s5 [3, 3, 3, 4, 4, 5, 8, 9, 10] (by simp)
        rw [show ([PV.int .i64 3, PV.int .i64 3, PV.int .i64 3, PV.int .i64 4, PV.int .i64 4, PV.int .i64 5, PV.int .i64 8, PV.int .i64 9, PV.int .i64 10] : List PV) = encZ [3, 3, 3, 4, 4, 5, 8, 9, 10] from rfl, h]
        simp only [R37_r]
        obtain ⟨a7, s7, b, h, h16, h17⟩ := one_ok hc (k := k) (by omega) (at' := a6) (by omega) (by omega) s6 6
        rw [h]
        simp only [R40_r]
        cases b
        · simp only [cond_false]
          rw [lim_ok (by (simp; try omega)) (by omega), take2]
          exact ⟨a7, s7, t ++ u ++ [(v, 0#64)], by simp [encT, encN, wi], by omega, by omega, by (simp; try omega), by (simp; try omega)⟩
        · simp only [cond_true]
          obtain ⟨a8, s8, v2, h, h18, h19, _⟩ := among_ok hc (k := k) (by omega) (at' := a7) (by omega) (by omega) s7 [6, 7, 11, 12] (by simp)
          rw [show ([PV.int .i64 6, PV.int .i64 7, PV.int .i64 11, PV.int .i64 12] : List PV) = encZ [6, 7, 11, 12] from rfl, h]
          simp only [R37_r]
          rw [lim_ok (by (simp; try omega)) (by omega), take2]
          exact ⟨a8, s8, t ++ u ++ [(v2, 0#64)], by simp [encT, encN, wi], by omega, by omega, by (simp; try omega), by (simp; try omega)⟩
      · simp only [cond_true]
        obtain ⟨a4, s4, t, h, h6, h7, h8, h9⟩ := ih a3 (by omega) (by omega) s3
        rw [h]
        simp only [R41_r]
        rw [lim_ok (by (simp; try omega)) (by omega), take1]
        exact ⟨a4, s4, t ++ [(13, 0#64)], by simp [encT, encN, wi], by omega, by omega, by simp, by (simp; try omega)⟩
    · simp only [cond_true]
      obtain ⟨a3, s3, b, h, h4, h5⟩ := one_ok hc (k := k) (by omega) (at' := a2) (by omega) (by omega) s2 2
      rw [h]
      simp only [R40_r]
      cases b
      · simp only [cond_false]
        obtain ⟨a4, s4, v, h, h6, h7, _⟩ := pick_ok hc (k := k) (by omega) (at' := a3) (by omega) (by omega) s3 vars
        rw [h]
        simp only [R38_r]
        rw [wrapU]
        exact ⟨a4, s4, [(2, BitVec.ofInt 64 v)], rfl, by omega, by omega, by simp, by (simp; try omega)⟩
      · simp only [cond_true]
        obtain ⟨a4, s4, v, h, h6, h7, _⟩ := pick_ok hc (k := k) (by omega) (at' := a3) (by omega) (by omega) s3 9
        rw [h]
        simp only [R38_r]
        rw [wrapU, cut_ok (by omega) hw0 hw]
        simp only [R55_r]
        exact ⟨a4, s4, [(1, _)], rfl, by omega, by omega, by simp, by (simp; try omega)⟩
theorem number_int {bs : List Nat} (hc : CodeOK bs) {wide vars : Int} (hw0 : 0 ≤ wide) (hw : wide ≤ 64) (hv : 1 ≤ vars) (hv2 : vars ≤ 100) {d : Int} (hd0 : 0 ≤ d) (hd : d ≤ 3) {k : Nat} (hk : 90 ≤ k) {at' : Int} (h0 : 0 ≤ at') (h1 : at' ≤ 800000000) (s : W) :
    ∃ a2 s2 t, c41 k wide vars d (encB bs) at' (wi s) = r41 (encB bs) a2 (wi s2) (encT t) ∧ at' ≤ a2 ∧ a2 ≤ at' + 150 ∧ 1 ≤ t.length ∧ t.length ≤ 15 ∧ (d ≤ 1 → t.length ≤ 3 ∧ a2 ≤ at' + 30) := by
  have hd2 : d.toNat ≤ 3 := by omega
  have e1 : 1 ≤ (2 : Nat) ^ d.toNat := Nat.one_le_two_pow
  have e2 : (2 : Nat) ^ d.toNat ≤ 2 ^ 3 := Nat.pow_le_pow_right (by omega) hd2
  have e3 : (2 : Nat) ^ (d.toNat + 1) = 2 * 2 ^ d.toNat := by rw [Nat.pow_succ]; omega
  obtain ⟨a2, s2, t, h, h2, h3, h4, h5⟩ := number_ok hc hw0 hw hv hv2 d.toNat (k := k) (by omega) (by omega) (at' := at') h0 (by omega) s
  rw [Int.toNat_of_nonneg hd0] at h
  refine ⟨a2, s2, t, h, h2, by omega, h4, by omega, fun hd3 => ?_⟩
  have e4 : (2 : Nat) ^ d.toNat ≤ 2 ^ 1 := Nat.pow_le_pow_right (by omega) (by omega)
  omega
theorem asked_base {bs : List Nat} (hc : CodeOK bs) {wide vars : Int} (hw0 : 0 ≤ wide) (hw : wide ≤ 64) (hv : 1 ≤ vars) (hv2 : vars ≤ 100) {k : Nat} (hk : 100 ≤ k) {at' : Int} (h0 : 0 ≤ at') (h1 : at' ≤ 700000000) (s : W) :
    ∃ a2 s2 t, (R41 (c41 k wide vars 1 (encB bs) at' (wi s)) fun l12 q19 q20 l13 =>
      R38 (c38 k 2 l12 q19 q20) fun l14 q21 q22 q23 =>
      R41 (c41 k wide vars q23 l14 q21 q22) fun l15 q24 q25 l16 =>
      bif decide ((l13.length + ((l16.take l16.length).length)) * 16 ≤ LIM) && decide (l13.length + ((l16.take l16.length).length) ≤ LIM) then
       R37 (c37 k [PV.int .i64 14, PV.int .i64 15, PV.int .i64 15, PV.int .i64 16] l15 q24 q25) fun l17 q26 q27 q28 =>
       bif decide (((l13.length + ((l16.take l16.length).length)) + 1) * 16 ≤ LIM) && decide ((l13.length + ((l16.take l16.length).length)) + 1 ≤ LIM) then
        r39 l17 q26 q27 (((((l13.take l13.length) ++ (l16.take l16.length)).take (l13.length + ((l16.take l16.length).length))) ++ [PV.agg [.int .i64 q28, .int .u64 0]]).take ((l13.length + ((l16.take l16.length).length)) + 1))
       else none
      else none) = r39 (encB bs) a2 (wi s2) (encT t) ∧ at' ≤ a2 ∧ a2 ≤ at' + 70 ∧ 1 ≤ t.length ∧ t.length ≤ 7 := by
  obtain ⟨a4, s4, t, h, h6, h7, h8, h9, h10⟩ := number_int hc hw0 hw hv hv2 (d := 1) (by omega) (by omega) (k := k) (by omega) h0 (by omega) s
  have h10 := h10 (by omega)
  rw [h]
  simp only [R41_r]
  obtain ⟨a5, s5, v, h, h11, h12, h13, h14, _⟩ := pick_ok hc (k := k) (by omega) (at' := a4) (by omega) (by omega) s4 2
  rw [h]
  simp only [R38_r]
  obtain ⟨a6, s6, u, h, h15, h16, h17, h18, h19⟩ := number_int hc hw0 hw hv hv2 (d := v) (by omega) (by omega) (k := k) (by omega) (at' := a5) (by omega) (by omega) s5
  have h19 := h19 (by omega)
  rw [h]
  simp only [R41_r]
  rw [lim_ok (by (simp; try omega)) (by omega)]
  simp only [cond_true]
  obtain ⟨a7, s7, w, h, h20, h21, _⟩ := among_ok hc (k := k) (by omega) (at' := a6) (by omega) (by omega) s6 [14, 15, 15, 16] (by simp)
  rw [show ([PV.int .i64 14, PV.int .i64 15, PV.int .i64 15, PV.int .i64 16] : List PV) = encZ [14, 15, 15, 16] from rfl, h]
  simp only [R37_r]
  rw [lim_ok (by (simp; try omega)) (by omega), take2]
  exact ⟨a7, s7, t ++ u ++ [(w, 0#64)], by simp [encT, encN, wi], by omega, by omega, by (simp; try omega), by (simp; try omega)⟩
theorem asked_ok {bs : List Nat} (hc : CodeOK bs) {wide vars : Int} (hw0 : 0 ≤ wide) (hw : wide ≤ 64) (hv : 1 ≤ vars) (hv2 : vars ≤ 100) : ∀ (d : Nat) {k : Nat} (hk : 110 + d ≤ k) (hd : d ≤ 16) {at' : Int} (h0 : 0 ≤ at') (h1 : at' + (100 * 2 ^ d : Nat) ≤ 700000000) (s : W),
    ∃ a2 s2 t, c39 k wide vars (d : Int) (encB bs) at' (wi s) = r39 (encB bs) a2 (wi s2) (encT t) ∧ at' ≤ a2 ∧ a2 ≤ at' + (100 * (2 ^ d : Nat) - 20 : Nat) ∧ 1 ≤ t.length ∧ t.length + 1 ≤ 8 * 2 ^ d
  | d, k, hk, hd, at', h0, h1, s => by
    obtain ⟨k, rfl⟩ : ∃ j, k = j + 1 := ⟨k - 1, by omega⟩
    have hp : (2 : Nat) ^ d ≤ 65536 := Nat.pow_le_pow_right (n := 2) (by omega) (show d ≤ 16 by omega)
    have hp1 : 1 ≤ (2 : Nat) ^ d := Nat.one_le_two_pow
    rw [n39]
    obtain ⟨a2, s2, b, h, h2, h3⟩ := one_ok hc (k := k) (by omega) h0 (by omega) s 20
    rw [h]
    simp only [R40_r]
    cases b
    · simp only [cond_false]
      cases d with
      | zero =>
        have e : decide (((0 : Nat) : Int) > 0) = false := rfl
        simp only [e, cond_false]
        obtain ⟨a3, s3, t, h, h4, h5, h6, h7⟩ := asked_base hc hw0 hw hv hv2 (k := k) (by omega) (at' := a2) (by omega) (by omega) s2
        rw [h]
        exact ⟨a3, s3, t, rfl, by omega, by omega, h6, by omega⟩
      | succ d =>
        have e : decide (((d + 1 : Nat) : Int) > 0) = true := by (simp; try omega)
        have e1 : IntKind.i64.wrap (((d + 1 : Nat) : Int) - 1) = (d : Int) := by rw [i64_id (by omega) (by omega)]; omega
        have e2 : (2 : Nat) ^ (d + 1) = 2 * 2 ^ d := by rw [Nat.pow_succ]; omega
        rw [e2] at h1 hp hp1 ⊢
        have ih := fun (a : Int) (h0 : 0 ≤ a) (h1 : a + (100 * 2 ^ d : Nat) ≤ 700000000) (s : W) => asked_ok hc hw0 hw hv hv2 d (k := k) (by omega) (by omega) h0 h1 s
        simp only [e, cond_true, e1]
        obtain ⟨a3, s3, b, h, h4, h5⟩ := one_ok hc (k := k) (by omega) (at' := a2) (by omega) (by omega) s2 4
        rw [h]
        simp only [R40_r]
        cases b
        · simp only [cond_false]
          obtain ⟨a4, s4, b, h, h6, h7⟩ := one_ok hc (k := k) (by omega) (at' := a3) (by omega) (by omega) s3 2
          rw [h]
          simp only [R40_r]
          cases b
          · simp only [cond_false]
            obtain ⟨a5, s5, t, h, h8, h9, h10, h11⟩ := asked_base hc hw0 hw hv hv2 (k := k) (by omega) (at' := a4) (by omega) (by omega) s4
            rw [h]
            exact ⟨a5, s5, t, rfl, by omega, by omega, h10, by omega⟩
          · simp only [cond_true]
            obtain ⟨a5, s5, t, h, h8, h9, h10, h11⟩ := ih a4 (by omega) (by omega) s4
            rw [h]
            simp only [R39_r]
            obtain ⟨a6, s6, u, h, h12, h13, h14, h15⟩ := ih a5 (by omega) (by omega) s5
            rw [h]
            simp only [R39_r]
            rw [lim_ok (by (simp; try omega)) (by omega)]
            simp only [cond_true]
            obtain ⟨a7, s7, w, h, h20, h21, _⟩ := among_ok hc (k := k) (by omega) (at' := a6) (by omega) (by omega) s6 [17, 18] (by simp)
            rw [show ([PV.int .i64 17, PV.int .i64 18] : List PV) = encZ [17, 18] from rfl, h]
            simp only [R37_r]
            rw [lim_ok (by (simp; try omega)) (by omega), take2]
            exact ⟨a7, s7, t ++ u ++ [(w, 0#64)], by simp [encT, encN, wi], by omega, by omega, by (simp; try omega), by (simp; try omega)⟩
        · simp only [cond_true]
          obtain ⟨a5, s5, t, h, h8, h9, h10, h11⟩ := ih a3 (by omega) (by omega) s3
          rw [h]
          simp only [R39_r]
          rw [lim_ok (by (simp; try omega)) (by omega), take1]
          exact ⟨a5, s5, t ++ [(19, 0#64)], by simp [encT, encN, wi], by omega, by omega, by simp, by (simp; try omega)⟩
    · simp only [cond_true]
      obtain ⟨a3, s3, v, h, h4, h5, _⟩ := pick_ok hc (k := k) (by omega) (at' := a2) (by omega) (by omega) s2 2
      rw [h]
      simp only [R38_r]
      rw [wrapU]
      exact ⟨a3, s3, [(20, BitVec.ofInt 64 v)], rfl, by omega, by omega, by simp, by (simp; try omega)⟩
end Go.Proofs.Ytclkgblckicabaa
/- The draws of terms with their width and variables, and of what is put for these. -/
set_option linter.unusedVariables false
set_option linter.unusedSimpArgs false
set_option maxRecDepth 4000
namespace Go.Proofs.Ytclkgblckicabaa
open Go.Dp

theorem set_encT (t : List Nd) (i : Nat) (x : Nd) : (encT t).set i (encN x) = encT (t.set i x) := by simp [encT, List.map_set]
theorem put_n (x : Nd) (a : W) : putPart (encN x) 2 1 (PV.int .u64 (wi a)) 0 = some (encN (x.1, a)) := rfl
theorem put_op (x : Nd) (n : Int) : putPart (encN x) 2 0 (PV.int .i64 n) 0 = some (encN (n, x.2)) := rfl
theorem term_tail {bs : List Nat} (hc : CodeOK bs) (wide v1 : Int) (hv1 : 0 ≤ v1 ∧ v1 ≤ 5) (t : List Nd) (ht : 1 ≤ t.length ∧ t.length ≤ 100) {k : Nat} (hk : 100 ≤ k) {at' : Int} (h0 : 0 ≤ at') (h1 : at' ≤ 700000000) (s : W) :
    ∃ a2 s2 vars u, (R38 (c38 k 40 (encB bs) at' (wi s)) fun l8 q13 q14 q15 =>
      bif (q15 == 0) then
       bif decide ((0 : Int) < ((encT t).length : Int)) then
        ((encT t)[0]?).bind fun p1 =>
        (putPart p1 2 1 (PV.int .u64 9223372036854775808) 0).bind fun p2 =>
        r17 l8 q13 q14 wide v1 (((encT t).set 0 p2).take (encT t).length)
       else none
      else
       bif (q15 == 1) then
        bif decide ((0 : Int) ≤ IntKind.i64.wrap (((encT t).length : Int) - 1)) && decide (IntKind.i64.wrap (((encT t).length : Int) - 1) ≤ ((encT t).length : Int)) then
         r17 l8 q13 q14 wide v1 ((encT t).take ((IntKind.i64.wrap (((encT t).length : Int) - 1)).toNat))
        else none
       else
        bif (q15 == 2) then
         R37 (c37 k [PV.int .i64 0, PV.int .i64 4, PV.int .i64 5] l8 q13 q14) fun l9 q16 q17 q18 =>
         r17 l9 q16 q17 wide q18 ((encT t).take (encT t).length)
        else
         bif (q15 == 3) then
          R38 (c38 k 23 l8 q13 q14) fun l10 q19 q20 q21 =>
          bif decide ((0 : Int) ≤ IntKind.i64.wrap (((encT t).length : Int) - 1)) && decide (IntKind.i64.wrap (((encT t).length : Int) - 1) < ((encT t).length : Int)) then
           ((encT t)[0 + ((IntKind.i64.wrap (((encT t).length : Int) - 1)).toNat)]?).bind fun p3 =>
           (putPart p3 2 0 (PV.int .i64 q21) 0).bind fun p4 =>
           r17 l10 q19 q20 wide v1 (((encT t).set (0 + ((IntKind.i64.wrap (((encT t).length : Int) - 1)).toNat)) p4).take (encT t).length)
          else none
         else r17 l8 q13 q14 wide v1 ((encT t).take (encT t).length)) = r17 (encB bs) a2 (wi s2) wide vars (encT u) ∧ at' ≤ a2 ∧ a2 ≤ at' + 10 ∧ 0 ≤ vars ∧ vars ≤ 5 ∧ u.length ≤ 100 := by
  obtain ⟨a3, s3, v, h, h4, h5, h6, h7, _⟩ := pick_ok hc (k := k) (by omega) h0 (by omega) s 40
  rw [h]
  simp only [R38_r]
  have hw1 : IntKind.i64.wrap (((encT t).length : Int) - 1) = ((t.length - 1 : Nat) : Int) := by rw [encT_length, i64_id (by omega) (by omega)]; omega
  rw [hw1]
  simp only [encT_length, Int.toNat_natCast, Nat.zero_add, encT_get, encT_take]
  cases e0 : (v == 0)
  · simp only [cond_false]
    cases e1 : (v == 1)
    · simp only [cond_false]
      cases e2 : (v == 2)
      · simp only [cond_false]
        cases e3 : (v == 3)
        · simp only [cond_false]
          exact ⟨a3, s3, v1, t, by rw [List.take_length], by omega, by omega, by omega, by omega, ht.2⟩
        · simp only [cond_true]
          obtain ⟨a4, s4, w, h, h8, h9, _⟩ := pick_ok hc (k := k) (by omega) (at' := a3) (by omega) (by omega) s3 23
          rw [h]
          simp only [R38_r]
          have hd : (decide ((0 : Int) ≤ ((t.length - 1 : Nat) : Int)) && decide (((t.length - 1 : Nat) : Int) < (t.length : Int))) = true := by (simp; try omega)
          have hlt : t.length - 1 < t.length := by omega
          rw [hd, List.getElem?_eq_getElem hlt]
          simp only [cond_true, Option.map_some, Option.bind_some, put_op, set_encT, encT_take]
          refine ⟨a4, s4, v1, t.set (t.length - 1) (w, (t[t.length - 1]).2), ?_, by omega, by omega, by omega, by omega, by simpa using ht.2⟩
          rw [List.take_of_length_le (by simp)]
      · simp only [cond_true]
        obtain ⟨a4, s4, w, h, h8, h9, h10⟩ := among_ok hc (k := k) (by omega) (at' := a3) (by omega) (by omega) s3 [0, 4, 5] (by simp)
        rw [show ([PV.int .i64 0, PV.int .i64 4, PV.int .i64 5] : List PV) = encZ [0, 4, 5] from rfl, h]
        simp only [R37_r]
        simp at h10
        exact ⟨a4, s4, w, t, by rw [List.take_length], by omega, by omega, by omega, by omega, ht.2⟩
    · simp only [cond_true]
      have hd : (decide ((0 : Int) ≤ ((t.length - 1 : Nat) : Int)) && decide (((t.length - 1 : Nat) : Int) ≤ (t.length : Int))) = true := by (simp; try omega)
      rw [hd]
      exact ⟨a3, s3, v1, t.take (t.length - 1), rfl, by omega, by omega, by omega, by omega, by (simp; try omega)⟩
  · simp only [cond_true]
    have hd : decide ((0 : Int) < (t.length : Int)) = true := by (simp; try omega)
    have hlt : 0 < t.length := by omega
    have ew : (9223372036854775808 : Int) = wi (9223372036854775808#64) := rfl
    rw [hd, List.getElem?_eq_getElem hlt, ew]
    simp only [cond_true, Option.map_some, Option.bind_some, put_n, set_encT, encT_take]
    refine ⟨a3, s3, v1, t.set 0 ((t[0]).1, 9223372036854775808#64), ?_, by omega, by omega, by omega, by omega, by simpa using ht.2⟩
    rw [List.take_of_length_le (by simp)]
theorem term_ok {bs : List Nat} (hc : CodeOK bs) {k : Nat} (hk : 130 ≤ k) {at' : Int} (h0 : 0 ≤ at') (h1 : at' ≤ 600000000) (s : W) :
    ∃ a2 s2 wide vars t, c17 k (encB bs) at' (wi s) = r17 (encB bs) a2 (wi s2) wide vars (encT t) ∧ at' ≤ a2 ∧ a2 ≤ at' + 600 ∧ 1 ≤ wide ∧ wide ≤ 64 ∧ 0 ≤ vars ∧ vars ≤ 5 ∧ t.length ≤ 100 := by
  obtain ⟨k, rfl⟩ : ∃ j, k = j + 1 := ⟨k - 1, by omega⟩
  rw [n17, show ([PV.int .i64 1, PV.int .i64 2, PV.int .i64 3, PV.int .i64 4, PV.int .i64 8, PV.int .i64 64] : List PV) = encZ [1, 2, 3, 4, 8, 64] from rfl]
  obtain ⟨a2, s2, wide, h, h2, h3, h4⟩ := among_ok hc (k := k) (by omega) h0 (by omega) s [1, 2, 3, 4, 8, 64] (by simp)
  simp at h4
  rw [h]
  simp only [R37_r]
  obtain ⟨a3, s3, v, h, h5, h6, h7, h8, _⟩ := pick_ok hc (k := k) (by omega) (at' := a2) (by omega) (by omega) s2 3
  rw [h]
  simp only [R38_r]
  have ev : IntKind.i64.wrap (1 + v) = 1 + v := i64_id (by omega) (by omega)
  rw [ev]
  obtain ⟨a4, s4, t, h, h9, h10, h11, h12⟩ := asked_ok hc (wide := wide) (vars := 1 + v) (by omega) (by omega) (by omega) (by omega) 2 (k := k) (by omega) (by omega) (at' := a3) (by omega) (by omega) s3
  have h' : c39 k wide (1 + v) 2 (encB bs) a3 (wi s3) = r39 (encB bs) a4 (wi s4) (encT t) := h
  rw [h']
  simp only [R39_r]
  obtain ⟨a5, s5, b, h, h13, h14⟩ := one_ok hc (k := k) (by omega) (at' := a4) (by omega) (by omega) s4 3
  rw [h]
  simp only [R40_r]
  cases b
  · simp only [cond_false]
    obtain ⟨a6, s6, vars, u, h, h15, h16, h17, h18, h19⟩ := term_tail hc wide (1 + v) (by omega) t (by omega) (k := k) (by omega) (at' := a5) (by omega) (by omega) s5
    rw [h]
    exact ⟨a6, s6, wide, vars, u, rfl, by omega, by omega, by omega, by omega, h17, h18, h19⟩
  · simp only [cond_true]
    obtain ⟨a6, s6, u, h, h15, h16, h17, h18, _⟩ := number_int hc (wide := wide) (vars := 1 + v) (by omega) (by omega) (by omega) (by omega) (d := 3) (by omega) (by omega) (k := k) (by omega) (at' := a5) (by omega) (by omega) s5
    rw [h]
    simp only [R41_r]
    obtain ⟨a7, s7, vars, u2, h, h19, h20, h21, h22, h23⟩ := term_tail hc wide (1 + v) (by omega) u (by omega) (k := k) (by omega) (at' := a6) (by omega) (by omega) s6
    rw [h]
    exact ⟨a7, s7, wide, vars, u2, rfl, by omega, by omega, by omega, by omega, h21, h22, h23⟩
end Go.Proofs.Ytclkgblckicabaa
/- Programs: how they lie in rows, and how they are drawn. -/
set_option linter.unusedVariables false
set_option linter.unusedSimpArgs false
set_option maxRecDepth 4000
namespace Go.Proofs.Ytclkgblckicabaa
open Go.Dp

structure Chg where
  v : Int
  by1 : List Nd
  deriving DecidableEq
structure Cmd where
  wh : List Nd
  ch : List Chg
  deriving DecidableEq
structure Prg where
  wide : Int
  vars : Int
  start : List Nd
  cmds : List Cmd
  deriving DecidableEq
def encCh (x : Chg) : PV := .agg [.int .i64 x.v, .row 2 0 (encT x.by1)]
def encChs (l : List Chg) : List PV := l.map encCh
def encCm (x : Cmd) : PV := .agg [.row 2 0 (encT x.wh), .row 2 0 (encChs x.ch)]
def encCms (l : List Cmd) : List PV := l.map encCm
@[simp] theorem encChs_length (l : List Chg) : (encChs l).length = l.length := by simp [encChs]
@[simp] theorem encCms_length (l : List Cmd) : (encCms l).length = l.length := by simp [encCms]
theorem encChs_get (l : List Chg) (i : Nat) : (encChs l)[i]? = (l[i]?).map encCh := by simp [encChs]
theorem encCms_get (l : List Cmd) (i : Nat) : (encCms l)[i]? = (l[i]?).map encCm := by simp [encCms]
theorem encChs_snoc (l : List Chg) (x : Chg) : encChs l ++ [encCh x] = encChs (l ++ [x]) := by simp [encChs]
theorem encCms_snoc (l : List Cmd) (x : Cmd) : encCms l ++ [encCm x] = encCms (l ++ [x]) := by simp [encCms]
theorem encChs_take (l : List Chg) (i : Nat) : (encChs l).take i = encChs (l.take i) := by simp [encChs, List.map_take]
theorem encCms_take (l : List Cmd) (i : Nat) : (encCms l).take i = encCms (l.take i) := by simp [encCms, List.map_take]
theorem encCms_set (l : List Cmd) (i : Nat) (x : Cmd) : (encCms l).set i (encCm x) = encCms (l.set i x) := by simp [encCms, List.map_set]
@[simp] theorem encCh_shp (x : Chg) : (encCh x).shp 2 = true := rfl
@[simp] theorem encCh_v (x : Chg) : (encCh x).atInt .i64 0 = some x.v := rfl
@[simp] theorem encCh_by (x : Chg) : (encCh x).atRow 2 1 = some (encT x.by1) := rfl
@[simp] theorem encCm_shp (x : Cmd) : (encCm x).shp 2 = true := rfl
@[simp] theorem encCm_wh (x : Cmd) : (encCm x).atRow 2 0 = some (encT x.wh) := rfl
@[simp] theorem encCm_ch (x : Cmd) : (encCm x).atRow 2 1 = some (encChs x.ch) := rfl
theorem put_wh (x : Cmd) (t : List Nd) : putPart (encCm x) 2 0 (PV.row 2 0 (encT t)) 0 = some (encCm { x with wh := t }) := rfl
theorem put_ch (x : Cmd) (l : List Chg) : putPart (encCm x) 2 1 (PV.row 2 0 (encChs l)) 0 = some (encCm { x with ch := l }) := rfl

structure FitC (m : Nat) (c : Cmd) : Prop where
  wh : c.wh.length ≤ 100
  ch : c.ch.length ≤ m
  by1 : ∀ x ∈ c.ch, x.by1.length ≤ 100
theorem FitC.mono {m m' : Nat} {c : Cmd} (h : FitC m c) (hm : m ≤ m') : FitC m' c := ⟨h.wh, Nat.le_trans h.ch hm, h.by1⟩
structure FitP (p : Prg) : Prop where
  w : 1 ≤ p.wide ∧ p.wide ≤ 64
  v : 0 ≤ p.vars ∧ p.vars ≤ 5
  st : p.start.length ≤ 100
  cm : p.cmds.length ≤ 6
  c : ∀ c ∈ p.cmds, FitC 6 c

theorem asked_int {bs : List Nat} (hc : CodeOK bs) {wide vars : Int} (hw0 : 0 ≤ wide) (hw : wide ≤ 64) (hv : 1 ≤ vars) (hv2 : vars ≤ 100) {d : Int} (hd0 : 0 ≤ d) (hd : d ≤ 2) {k : Nat} (hk : 130 ≤ k) {at' : Int} (h0 : 0 ≤ at') (h1 : at' ≤ 600000000) (s : W) :
    ∃ a2 s2 t, c39 k wide vars d (encB bs) at' (wi s) = r39 (encB bs) a2 (wi s2) (encT t) ∧ at' ≤ a2 ∧ a2 ≤ at' + 500 ∧ 1 ≤ t.length ∧ t.length ≤ 31 := by
  have hd2 : d.toNat ≤ 2 := by omega
  have e2 : (2 : Nat) ^ d.toNat ≤ 2 ^ 2 := Nat.pow_le_pow_right (by omega) hd2
  obtain ⟨a2, s2, t, h, h2, h3, h4, h5⟩ := asked_ok hc hw0 hw hv hv2 d.toNat (k := k) (by omega) (by omega) (at' := at') h0 (by omega) s
  rw [Int.toNat_of_nonneg hd0] at h
  exact ⟨a2, s2, t, h, h2, by omega, h4, by omega⟩
/-! ### Small programs, states -/
theorem long_loop {bs : List Nat} (hc : CodeOK bs) {k : Nat} (hk : 10 ≤ k) : ∀ (m n : Nat) (i : Int) (a : W) {at' : Int} (s : W), (8 - i).toNat ≤ m → m < n → 0 ≤ i → i ≤ 8 → 0 ≤ at' → at' + m ≤ 990000000 →
    ∃ a2 s2 b, L78_1 k n (wi a) i (encB bs) at' (wi s) = r78 (encB bs) a2 (wi s2) (wi b) ∧ at' ≤ a2 ∧ a2 ≤ at' + m
  | m, 0, i, a, at', s, hm, hn, hi0, hi, h0, h1 => by omega
  | m, n + 1, i, a, at', s, hm, hn, hi0, hi, h0, h1 => by
    rw [sL78_1]
    by_cases hd : i < 8
    · have hd' : decide (i < 8) = true := by simpa using hd
      rw [hd']
      simp only [cond_true]
      obtain ⟨s2, v, h, h2, h3⟩ := next_ok hc (k := k) (by omega) h0 (by omega) s
      rw [h]
      simp only [R64_r]
      rw [shl_wi _ (by omega), wrapU, or_wi, i64_id (by omega) (by omega)]
      cases m with
      | zero => omega
      | succ m =>
        obtain ⟨a3, s3, b, h, h4, h5⟩ := long_loop hc hk m n (i + 1) (a <<< (8 : Int).toNat ||| BitVec.ofInt 64 v) (at' := at' + 1) s2 (by omega) (by omega) (by omega) (by omega) (by omega) (by omega)
        exact ⟨a3, s3, b, h, by omega, by omega⟩
    · have hd' : decide (i < 8) = false := by simpa using hd
      rw [hd']
      exact ⟨at', s, a, rfl, by omega, by omega⟩
theorem long_ok {bs : List Nat} (hc : CodeOK bs) {k : Nat} (hk : 20 ≤ k) {at' : Int} (h0 : 0 ≤ at') (h1 : at' ≤ 900000000) (s : W) :
    ∃ a2 s2 b, c78 k (encB bs) at' (wi s) = r78 (encB bs) a2 (wi s2) (wi b) ∧ at' ≤ a2 ∧ a2 ≤ at' + 8 := by
  obtain ⟨k, rfl⟩ : ∃ j, k = j + 1 := ⟨k - 1, by omega⟩
  rw [n78]
  exact long_loop hc (k := k) (by omega) 8 k 0 0#64 s (by omega) (by omega) (by omega) (by omega) h0 (by omega)
theorem word_ok {bs : List Nat} (hc : CodeOK bs) {k : Nat} (hk : 80 ≤ k) {wide : Int} (hw0 : 0 ≤ wide) (hw : wide ≤ 64) {at' : Int} (h0 : 0 ≤ at') (h1 : at' ≤ 800000000) (s : W) :
    ∃ a2 s2 b, c62 k wide (encB bs) at' (wi s) = r62 (encB bs) a2 (wi s2) (wi b) ∧ at' ≤ a2 ∧ a2 ≤ at' + 20 := by
  obtain ⟨k, rfl⟩ : ∃ j, k = j + 1 := ⟨k - 1, by omega⟩
  rw [n62]
  obtain ⟨a2, s2, v, h, h2, h3, h4, h5, _⟩ := pick_ok hc (k := k) (by omega) h0 (by omega) s 5
  rw [h]
  simp only [R38_r]
  obtain ⟨a3, s3, u, h, h6, h7, h8, h9, _⟩ := pick_ok hc (k := k) (by omega) (at' := a2) (by omega) (by omega) s2 5
  rw [h]
  simp only [R38_r]
  have fin : ∀ (a4 : Int) (s4 : W) (b : W), at' ≤ a4 → a4 ≤ at' + 15 → ∃ a5 s5 d, (R40 (c40 k 30 (encB bs) a4 (wi s4)) fun l4 v10 v11 b1 => bif b1 then r62 l4 v10 v11 (wi b) else R55 (c55 k wide (wi b)) fun v12 => r62 l4 v10 v11 v12) = r62 (encB bs) a5 (wi s5) (wi d) ∧ at' ≤ a5 ∧ a5 ≤ at' + 20 := by
    intro a4 s4 b h10 h11
    obtain ⟨a5, s5, e, h, h12, h13⟩ := one_ok hc (k := k) (by omega) (at' := a4) (by omega) (by omega) s4 30
    rw [h]
    simp only [R40_r]
    cases e
    · simp only [cond_false]
      rw [cut_ok (by omega) hw0 hw]
      simp only [R55_r]
      exact ⟨_, _, _, rfl, by omega, by omega⟩
    · exact ⟨_, _, _, rfl, by omega, by omega⟩
  cases e0 : (u == 0)
  · simp only [cond_false]
    cases e1 : (u == 1)
    · simp only [cond_false]
      cases e2 : (u == 2)
      · simp only [cond_false]
        rw [wrapU]
        exact fin a3 s3 _ (by omega) (by omega)
      · simp only [cond_true]
        obtain ⟨a4, s4, x, h, h10, h11, h12, h13, _⟩ := pick_ok hc (k := k) (by omega) (at' := a3) (by omega) (by omega) s3 64
        rw [h]
        simp only [R38_r]
        rw [u64_id h12 (by omega)]
        have hx : decide (x < 0) = false := by simpa using h12
        rw [hx]
        simp only [Bool.not_false, cond_true]
        rw [show (1 : Int) = wi 1#64 from rfl, shl_wi _ h12]
        exact fin a4 s4 _ (by omega) (by omega)
    · simp only [cond_true]
      obtain ⟨a4, s4, x, h, h10, h11, h12, h13, _⟩ := pick_ok hc (k := k) (by omega) (at' := a3) (by omega) (by omega) s3 3
      rw [h]
      simp only [R38_r]
      rw [wrapU]
      exact fin a4 s4 _ (by omega) (by omega)
  · simp only [cond_true]
    obtain ⟨a4, s4, b, h, h10, h11⟩ := long_ok hc (k := k) (by omega) (at' := a3) (by omega) (by omega) s3
    rw [h]
    simp only [R78_r]
    exact fin a4 s4 b (by omega) (by omega)
end Go.Proofs.Ytclkgblckicabaa
/- Good terms: what they are, and that both texts find them so. -/
set_option linter.unusedVariables false
set_option linter.unusedSimpArgs false
set_option maxRecDepth 4000
namespace Go.Proofs.Ytclkgblckicabaa
open Go.Dp

theorem maskB_toNat {n : Nat} (hn : n ≤ 64) : (maskB n).toNat = 2 ^ n - 1 := by
  unfold maskB
  rw [BitVec.toNat_ushiftRight, BitVec.toNat_allOnes, Nat.shiftRight_eq_div_pow]
  have h1 : (2 : Nat) ^ 64 = 2 ^ n * 2 ^ (64 - n) := by rw [← Nat.pow_add]; congr 1; omega
  have h2 : 1 ≤ (2 : Nat) ^ (64 - n) := Nat.one_le_two_pow
  have h3 : 1 ≤ (2 : Nat) ^ n := Nat.one_le_two_pow
  have h4 : (2 : Nat) ^ 64 - 1 = (2 ^ (64 - n) - 1) + 2 ^ (64 - n) * (2 ^ n - 1) := by
    rw [h1, Nat.mul_sub, Nat.mul_comm (2 ^ (64 - n)) (2 ^ n)]
    have : 2 ^ (64 - n) ≤ 2 ^ n * 2 ^ (64 - n) := Nat.le_mul_of_pos_left _ (by omega)
    omega
  rw [h4, Nat.add_mul_div_left _ _ (by omega), Nat.div_eq_of_lt (by omega), Nat.zero_add]
theorem cut_eq_iff {n : Nat} (hn : n ≤ 64) (a : W) : a &&& maskB n = a ↔ a ≤ maskB n := by
  rw [BitVec.le_def, maskB_toNat hn]
  have h3 : 1 ≤ (2 : Nat) ^ n := Nat.one_le_two_pow
  constructor
  · intro h
    have : a.toNat = (a &&& maskB n).toNat := by rw [h]
    rw [BitVec.toNat_and, maskB_toNat hn, Nat.and_two_pow_sub_one_eq_mod] at this
    have := Nat.mod_lt a.toNat (show 0 < 2 ^ n by omega)
    omega
  · intro h
    apply BitVec.eq_of_toNat_eq
    rw [BitVec.toNat_and, maskB_toNat hn, Nat.and_two_pow_sub_one_eq_mod, Nat.mod_eq_of_lt (by omega)]
theorem cut_le {n : Nat} (hn : n ≤ 64) (a : W) : a &&& maskB n ≤ maskB n := by
  rw [BitVec.le_def, BitVec.toNat_and]
  exact Nat.and_le_right
def isW (n : Int) : Bool := decide (1 ≤ n) && decide (n ≤ 64)
theorem isW_iff {n : Int} : isW n = true ↔ 1 ≤ n ∧ n ≤ 64 := by simp [isW]
theorem isWide_ok {k : Nat} (hk : 1 ≤ k) (n : Int) : c45 k n = r45 (isW n) := by
  obtain ⟨k, rfl⟩ : ∃ j, k = j + 1 := ⟨k - 1, by omega⟩
  rw [n45]
  by_cases h : 1 ≤ n <;> simp [isW, h]
def isV (n : Int) : Bool := decide (1 ≤ n) && decide (n ≤ 4)
theorem isV_iff {n : Int} : isV n = true ↔ 1 ≤ n ∧ n ≤ 4 := by simp [isV]
theorem isVars_ok {k : Nat} (hk : 1 ≤ k) (n : Int) : c42 k n = r42 (isV n) := by
  obtain ⟨k, rfl⟩ : ∃ j, k = j + 1 := ⟨k - 1, by omega⟩
  rw [n42]
  by_cases h : 1 ≤ n <;> simp [isV, h]
theorem in_ok {k : Nat} (hk : 1 ≤ k) (n lo hi : Int) : c53 k n lo hi = r53 (decide (lo ≤ n) && decide (n ≤ hi)) := by
  obtain ⟨k, rfl⟩ : ∃ j, k = j + 1 := ⟨k - 1, by omega⟩
  rw [n53]
  by_cases h : lo ≤ n <;> simp [h]
theorem wideS_ok {k : Nat} (hk : 2 ≤ k) (n : Int) : c70 k n = r70 (isW n) := by
  obtain ⟨k, rfl⟩ : ∃ j, k = j + 1 := ⟨k - 1, by omega⟩
  rw [n70, in_ok (by omega)]
  simp only [R53_r]
  rfl
def goodW (wide : Int) (a : W) : Bool := isW wide && decide (a ≤ maskB wide.toNat)
theorem goodWord_ok {k : Nat} (hk : 2 ≤ k) (wide : Int) (a : W) : c25 k wide (wi a) = r25 (goodW wide a) := by
  obtain ⟨k, rfl⟩ : ∃ j, k = j + 1 := ⟨k - 1, by omega⟩
  rw [n25, isWide_ok (by omega)]
  simp only [R45_r]
  cases h : isW wide
  · simp [goodW, h]
  · have h' := isW_iff.1 h
    rw [mask_ok (by omega) (by omega) (by omega)]
    simp only [cond_true, R50_r, wi_le_iff]
    simp [goodW, h]
theorem goodWordS_ok {k : Nat} (hk : 80 ≤ k) (wide : Int) (a : W) : c79 k wide (wi a) = r79 (goodW wide a) := by
  obtain ⟨k, rfl⟩ : ∃ j, k = j + 1 := ⟨k - 1, by omega⟩
  rw [n79, wideS_ok (by omega)]
  simp only [R70_r]
  cases h : isW wide
  · simp [goodW, h]
  · have h' := isW_iff.1 h
    rw [cut_ok (by omega) (by omega) (by omega)]
    simp only [cond_true, R55_r, wi_beq]
    congr 1
    have := cut_eq_iff (n := wide.toNat) (by omega) a
    simp only [goodW, h, Bool.true_and]
    rw [Bool.eq_iff_iff]
    simp [this]

/-! ### Ops -/
def need (op : Int) : Nat × Int × Int :=
  if op = 1 ∨ op = 2 then (0, 1, 1) else if op = 20 then (0, 2, 2) else if op = 13 then (1, 1, 1) else if op = 19 then (1, 2, 2)
  else if 3 ≤ op ∧ op ≤ 12 then (2, 1, 1) else if 14 ≤ op ∧ op ≤ 16 then (2, 1, 2) else if op = 17 ∨ op = 18 then (2, 2, 2) else (0, 0, 0)
def needI (op : Int) : Int := if (need op).1 = 0 then 0 else (need op).2.1
theorem need_le (op : Int) : (need op).1 ≤ 2 := by
  unfold need
  repeat' split
  all_goals simp
theorem operandsOf_ok {k : Nat} (hk : 1 ≤ k) (op : Int) : c46 k op = r46 (need op).1 (needI op) (need op).2.2 := by
  obtain ⟨k, rfl⟩ : ∃ j, k = j + 1 := ⟨k - 1, by omega⟩
  rw [n46]
  unfold needI need
  by_cases h1 : op = 1
  · subst h1; rfl
  by_cases h2 : op = 2
  · subst h2; rfl
  by_cases h3 : op = 20
  · subst h3; rfl
  by_cases h4 : op = 13
  · subst h4; rfl
  by_cases h5 : op = 19
  · subst h5; rfl
  by_cases h6 : op = 17
  · subst h6; rfl
  by_cases h7 : op = 18
  · subst h7; rfl
  have e1 : (op == 1) = false := by simpa using h1
  have e2 : (op == 2) = false := by simpa using h2
  have e3 : (op == 20) = false := by simpa using h3
  have e4 : (op == 13) = false := by simpa using h4
  have e5 : (op == 19) = false := by simpa using h5
  have e6 : (op == 17) = false := by simpa using h6
  have e7 : (op == 18) = false := by simpa using h7
  simp only [e1, e2, e3, e4, e5, e6, e7, cond_false, h1, h2, h3, h4, h5, h6, h7, or_self, if_false]
  by_cases a1 : 3 ≤ op
  · by_cases a2 : op ≤ 12
    · simp [a1, a2]
    · by_cases a3 : 14 ≤ op
      · by_cases a4 : op ≤ 16
        · simp [a1, a2, a3, a4]
        · simp [a1, a2, a3, a4]
      · simp [a1, a2, a3]
  · have a3 : ¬ 14 ≤ op := by omega
    simp [a1, a3]
theorem needS_ok {k : Nat} (hk : 2 ≤ k) (op : Int) : c54 k op = r54 (need op).1 (need op).2.1 (need op).2.2 := by
  obtain ⟨k, rfl⟩ : ∃ j, k = j + 1 := ⟨k - 1, by omega⟩
  rw [n54]
  unfold need
  by_cases h1 : op = 1
  · subst h1; rfl
  by_cases h2 : op = 2
  · subst h2; rfl
  by_cases h3 : op = 20
  · subst h3; rfl
  by_cases h4 : op = 13
  · subst h4; rfl
  by_cases h5 : op = 19
  · subst h5; rfl
  have e1 : (op == 1) = false := by simpa using h1
  have e2 : (op == 2) = false := by simpa using h2
  have e3 : (op == 20) = false := by simpa using h3
  have e4 : (op == 13) = false := by simpa using h4
  have e5 : (op == 19) = false := by simpa using h5
  simp only [e1, e2, e3, e4, e5, cond_false, h1, h2, h3, h4, h5, or_self, if_false, in_ok (show 1 ≤ k by omega), R53_r]
  by_cases a1 : 3 ≤ op ∧ op ≤ 12
  · simp [a1]
  · have b1 : (decide (3 ≤ op) && decide (op ≤ 12)) = false := by simp; omega
    simp only [b1, cond_false, a1, if_false]
    by_cases a2 : 14 ≤ op ∧ op ≤ 16
    · simp [a2]
    · have b2 : (decide (14 ≤ op) && decide (op ≤ 16)) = false := by simp; omega
      simp only [b2, cond_false, a2, if_false]
      by_cases h6 : op = 17
      · subst h6; rfl
      by_cases h7 : op = 18
      · subst h7; rfl
      have e6 : (op == 17) = false := by simpa using h6
      have e7 : (op == 18) = false := by simpa using h7
      simp [e6, e7, h6, h7]
def leafOK (wide vars : Int) (x : Nd) : Bool :=
  if x.1 = 1 then goodW wide x.2 else if x.1 = 2 then decide (wi x.2 < IntKind.u64.wrap vars) else if x.1 = 20 then decide (wi x.2 ≤ 1) else decide (x.2 = 0#64)
theorem isLeafRight_ok {k : Nat} (hk : 3 ≤ k) (wide vars : Int) (x : Nd) : c47 k wide vars x.1 (wi x.2) = r47 (leafOK wide vars x) := by
  obtain ⟨k, rfl⟩ : ∃ j, k = j + 1 := ⟨k - 1, by omega⟩
  rw [n47]
  unfold leafOK
  by_cases h1 : x.1 = 1
  · simp [h1, goodWord_ok (show 2 ≤ k by omega)]
  by_cases h2 : x.1 = 2
  · simp [h2]
  by_cases h3 : x.1 = 20
  · simp [h3]
  have e : (wi x.2 == 0) = decide (x.2 = 0#64) := by
    have : (0 : Int) = wi 0#64 := rfl
    rw [this, wi_beq]; rfl
  have e1 : (x.1 == 1) = false := by simpa using h1
  have e2 : (x.1 == 2) = false := by simpa using h2
  have e3 : (x.1 == 20) = false := by simpa using h3
  simp [h1, h2, h3, e, e1, e2, e3]
theorem l2N_ok {k : Nat} (hk : 81 ≤ k) (wide vars : Int) (x : Nd) : c71 k wide vars x.1 (wi x.2) = r71 (leafOK wide vars x) := by
  obtain ⟨k, rfl⟩ : ∃ j, k = j + 1 := ⟨k - 1, by omega⟩
  rw [n71]
  unfold leafOK
  by_cases h1 : x.1 = 1
  · simp [h1, goodWordS_ok (show 80 ≤ k by omega)]
  by_cases h2 : x.1 = 2
  · simp [h2]
  by_cases h3 : x.1 = 20
  · have : decide (wi x.2 < 2) = decide (wi x.2 ≤ 1) := by rw [Bool.eq_iff_iff]; simp; omega
    simp [h3, this]
  have e : (wi x.2 == 0) = decide (x.2 = 0#64) := by
    have : (0 : Int) = wi 0#64 := rfl
    rw [this, wi_beq]; rfl
  have e1 : (x.1 == 1) = false := by simpa using h1
  have e2 : (x.1 == 2) = false := by simpa using h2
  have e3 : (x.1 == 20) = false := by simpa using h3
  simp [h1, h2, h3, e, e1, e2, e3]
end Go.Proofs.Ytclkgblckicabaa
/- Good terms, by both texts. -/
set_option linter.unusedVariables false
set_option linter.unusedSimpArgs false
set_option maxRecDepth 4000
namespace Go.Proofs.Ytclkgblckicabaa
open Go.Dp

def kst (wide vars : Int) : List Nd → List Int → Option (List Int)
  | [], st => some st
  | x :: t, st =>
    if (need x.1).2.2 = 0 then none else if leafOK wide vars x = false then none else if st.length < (need x.1).1 then none
    else if (st.take (need x.1).1).any (· != (need x.1).2.1) then none else kst wide vars t ((need x.1).2.2 :: st.drop (need x.1).1)
def fin1 (o : Option (List Int)) : Bool := match o with | some [_] => true | _ => false
def kind1 (o : Option (List Int)) : Int := match o with | some [k] => k | _ => 0
def sizeT (wide vars : Int) (t : List Nd) : Bool := isW wide && isV vars && decide (1 ≤ t.length) && decide (t.length ≤ 48)
def goodT (wide vars : Int) (t : List Nd) : Bool := sizeT wide vars t && fin1 (kst wide vars t [])
def kindT (wide vars : Int) (t : List Nd) : Int := if sizeT wide vars t then kind1 (kst wide vars t []) else 0
theorem cast_eq {n m : Nat} (h : n = m) : (n : Int) = (m : Int) := by rw [h]

theorem idx_loop {k : Nat} (hk : 1 ≤ k) (l : List Int) (hl : l.length ≤ 1000000) (c : Int) : ∀ (n i : Nat), l.length - i < n → i ≤ l.length → ∃ v, L66f49_1 k n (encZ l) (l.length : Int) (i : Int) c = r66f49 c v ∧ decide (v ≥ 0) = (l.drop i).any (· != c)
  | 0, i, h, hi => by omega
  | n + 1, i, h, hi => by
    obtain ⟨k, rfl⟩ : ∃ j, k = j + 1 := ⟨k - 1, by omega⟩
    rw [sL66f49_1]
    by_cases hlt : i < l.length
    · have hd : decide ((i : Int) < (l.length : Int)) = true := by simpa using hlt
      rw [hd, lookP_nat, encZ_get, List.getElem?_eq_getElem hlt]
      simp only [cond_true, Option.map_some, Option.bind_some, int_atInt, n49, R49_r]
      rw [drop_cons hlt, List.any_cons]
      cases hne : (l[i] != c)
      · simp only [cond_false, Bool.false_or]
        rw [i64_id (by omega) (by omega)]
        exact idx_loop (k := k + 1) (by omega) l hl c n (i + 1) (by omega) (by omega)
      · simp only [cond_true, Bool.true_or]
        exact ⟨_, rfl, by simp⟩
    · have hd : decide ((i : Int) < (l.length : Int)) = false := by simpa using hlt
      rw [hd, List.drop_eq_nil_of_le (by omega)]
      exact ⟨_, rfl, by simp⟩
theorem contains_ok {k : Nat} (hk : 1000010 ≤ k) (l : List Int) (hl : l.length ≤ 1000000) (c : Int) : c48f49 k (encZ l) c = r48f49 c (l.any (· != c)) := by
  obtain ⟨k, rfl⟩ : ∃ j, k = j + 2 := ⟨k - 2, by omega⟩
  rw [n48f49, n66f49, encZ_length]
  obtain ⟨v, h, h2⟩ := idx_loop (k := k) (by omega) l hl c k 0 (by omega) (by omega)
  have h' : L66f49_1 k k (encZ l) (l.length : Int) 0 c = r66f49 c v := h
  rw [h']
  simp only [R66f49_r, h2, List.drop_zero]
theorem good_loop {k : Nat} (hk : 1000020 ≤ k) (wide vars : Int) (t : List Nd) (ht : t.length ≤ 100000) : ∀ (n i : Nat) (st : List Int), t.length - i < n → i ≤ t.length → st.length ≤ i →
    L20_1 k n wide vars st.length (encT t) (t.length : Int) (i : Int) (encZ st.reverse) = r20 (fin1 (kst wide vars (t.drop i) st))
  | 0, i, st, h, hi, hs => by omega
  | n + 1, i, st, h, hi, hs => by
    rw [sL20_1]
    by_cases hlt : i < t.length
    · have hd : decide ((i : Int) < (t.length : Int)) = true := by simpa using hlt
      rw [hd, lookT hlt, drop_cons hlt]
      simp only [cond_true, Option.bind_some, encN_shp, encN_op, encN_n]
      rw [operandsOf_ok (by omega), isLeafRight_ok (by omega) wide vars t[i]]
      simp only [R46_r, kst]
      have hn2 := need_le t[i].1
      by_cases h1 : (need t[i].1).2.2 = 0
      · simp [h1, fin1]
      · have h1' : ((need t[i].1).2.2 == 0) = false := by simpa using h1
        simp only [h1', cond_false, h1, if_false, R47_r]
        cases h2 : leafOK wide vars t[i]
        · simp [fin1]
        · have e1 : IntKind.i64.wrap ((st.length : Int) - ((need t[i].1).1 : Nat)) = (st.length : Int) - ((need t[i].1).1 : Nat) := i64_id (by omega) (by omega)
          rw [e1]
          simp only [Bool.not_true, cond_false, Bool.true_eq_false, if_false]
          by_cases h3 : st.length < (need t[i].1).1
          · have h3' : decide ((st.length : Int) - ((need t[i].1).1 : Nat) < 0) = true := by simp; omega
            simp [h3', h3, fin1]
          · have h3' : decide ((st.length : Int) - ((need t[i].1).1 : Nat) < 0) = false := by simp; omega
            have e2 : (st.length : Int) - ((need t[i].1).1 : Nat) = ((st.length - (need t[i].1).1 : Nat) : Int) := by omega
            rw [h3', e2]
            simp only [cond_false, h3, if_false, Int.toNat_natCast]
            have h4 : (decide ((0 : Int) ≤ ((st.length - (need t[i].1).1 : Nat) : Int)) && decide (((st.length - (need t[i].1).1 : Nat) : Int) ≤ (st.length : Int))) = true := by (simp; try omega)
            have h5 : decide ((st.length : Int) ≤ (st.length : Int)) = true := by simp
            rw [h4, h5]
            simp only [Bool.and_self, cond_true, Nat.zero_add]
            have e3 : ((encZ st.reverse).drop (st.length - (need t[i].1).1)).take (st.length - (st.length - (need t[i].1).1)) = encZ (st.take (need t[i].1).1).reverse := by
              rw [encZ_drop, encZ_take, List.drop_reverse]
              have : st.length - (st.length - (need t[i].1).1) = (need t[i].1).1 := by omega
              rw [this, List.take_of_length_le (by simp; omega)]
            rw [e3, contains_ok (by omega) _ (by simp; omega)]
            simp only [R48f49p_r, List.any_reverse]
            have e4 : (st.take (need t[i].1).1).any (· != needI t[i].1) = (st.take (need t[i].1).1).any (· != (need t[i].1).2.1) := by
              unfold needI
              by_cases h0 : (need t[i].1).1 = 0
              · simp [h0]
              · simp [h0]
            rw [e4]
            cases h6 : (st.take (need t[i].1).1).any (· != (need t[i].1).2.1)
            · simp only [cond_false, Bool.false_eq_true, if_false]
              rw [lim_ok (by omega) (by omega)]
              simp only [cond_true]
              have e5 : (encZ st.reverse).take (st.length - (need t[i].1).1) ++ [PV.int .i64 (need t[i].1).2.2] = encZ ((need t[i].1).2.2 :: st.drop (need t[i].1).1).reverse := by
                rw [encZ_take, encZ_snoc, List.take_reverse]
                have : st.length - (st.length - (need t[i].1).1) = (need t[i].1).1 := by omega
                rw [this]
                simp
              have e6 : st.length - (need t[i].1).1 + 1 = ((need t[i].1).2.2 :: st.drop (need t[i].1).1).length := by simp
              rw [e5, e6, i64_id (by omega) (by omega)]
              exact good_loop hk wide vars t ht n (i + 1) _ (by omega) (by omega) (by simp; omega)
            · simp [fin1]
    · have hd : decide ((i : Int) < (t.length : Int)) = false := by simpa using hlt
      rw [hd, List.drop_eq_nil_of_le (by omega)]
      simp only [cond_false, kst]
      congr 1
      rcases st with _ | ⟨a, _ | ⟨b, st⟩⟩ <;> simp [fin1]
      omega
theorem goodTerm_ok {k : Nat} (hk : 1000100 ≤ k) (wide vars : Int) (t : List Nd) (ht : t.length ≤ 100000) : c20 k wide vars (encT t) = r20 (goodT wide vars t) := by
  obtain ⟨k, rfl⟩ : ∃ j, k = j + 1 := ⟨k - 1, by omega⟩
  rw [n20, isWide_ok (by omega), isVars_ok (by omega)]
  simp only [R45_r, R42_r, encT_length]
  unfold goodT sizeT
  cases h1 : isW wide
  · simp
  · cases h2 : isV vars
    · simp
    · by_cases h3 : 1 ≤ t.length
      · have h3' : decide ((t.length : Int) < 1) = false := by simp; omega
        by_cases h4 : t.length ≤ 48
        · have h4' : decide ((t.length : Int) > 48) = false := by simp; omega
          simp only [Bool.not_true, cond_false, h3', h4', h3, h4, decide_true, Bool.and_self, Bool.true_and]
          have := good_loop (k := k) (by omega) wide vars t ht k 0 [] (by omega) (by omega) (by simp)
          simpa [encZ] using this
        · have h4' : decide ((t.length : Int) > 48) = true := by simp; omega
          simp [h3', h4', h4]
      · have h3' : decide ((t.length : Int) < 1) = true := by simp; omega
        simp [h3', h3]
end Go.Proofs.Ytclkgblckicabaa
/- Kinds of terms, by the reference's text; kinds of good terms. -/
set_option linter.unusedVariables false
set_option linter.unusedSimpArgs false
set_option maxRecDepth 4000
namespace Go.Proofs.Ytclkgblckicabaa
open Go.Dp

def Pile (xs : List PV) (st : List Int) : Prop := xs.take st.length = encZ st.reverse
theorem Pile.nil (xs : List PV) : Pile xs [] := by simp [Pile, encZ]
theorem Pile.top {xs : List PV} {a : Int} {st : List Int} (h : Pile xs (a :: st)) : xs[st.length]? = some (.int .i64 a) ∧ Pile xs st := by
  unfold Pile at h ⊢
  have e : (a :: st).length = st.length + 1 := rfl
  rw [e] at h
  constructor
  · have h1 : (xs.take (st.length + 1))[st.length]? = xs[st.length]? := List.getElem?_take_of_lt (by omega)
    rw [← h1, h, encZ_get]
    simp
  · have h2 : (xs.take (st.length + 1)).take st.length = xs.take st.length := by rw [List.take_take]; congr 1; omega
    rw [← h2, h, encZ_take]
    simp
theorem Pile.push {xs : List PV} {st : List Int} (h : Pile xs st) (b : Int) : Pile (xs.take st.length ++ [PV.int .i64 b]) (b :: st) := by
  unfold Pile at h ⊢
  rw [h, encZ_snoc, encZ_take]
  rw [List.take_of_length_le (by simp)]
  simp
theorem pop_loop {k : Nat} (hk : 1000000 ≤ k) (wide vars : Int) (n1 : Nat) (t27 : List PV) (t28 : Int) (i : Nat) (hi : i ≤ 100000) (part own : Int) (xs : List PV) : ∀ (m n : Nat) (st : List Int), m < n → m ≤ st.length → st.length ≤ 100000 → Pile xs st →
    L52_2 k n1 n wide vars st.length (m : Int) part own t27 t28 (i : Int) xs = if (st.take m).any (· != part) then r52 0 else L52_1 k n1 wide vars (own :: st.drop m).length t27 t28 ((i + 1 : Nat) : Int) (xs.take (st.drop m).length ++ [PV.int .i64 own])
  | m, 0, st, hm, hs, hl, hp => by omega
  | 0, n + 1, st, hm, hs, hl, hp => by
    rw [sL52_2]
    have hd : decide (((0 : Nat) : Int) > 0) = false := rfl
    rw [hd]
    simp only [cond_false, List.take_zero, List.any_nil, Bool.false_eq_true, if_false, List.drop_zero]
    rw [lim_ok (by omega) (by omega), i64_id (by omega) (by omega)]
    simp only [cond_true]
    rfl
  | m + 1, n + 1, st, hm, hs, hl, hp => by
    rw [sL52_2]
    have hd : decide (((m + 1 : Nat) : Int) > 0) = true := by (simp; try omega)
    rw [hd]
    cases st with
    | nil => simp at hs
    | cons a st =>
      obtain ⟨hg, hp'⟩ := hp.top
      have e1 : IntKind.i64.wrap (((a :: st).length : Int) - 1) = (st.length : Int) := by
        simp only [List.length_cons] at hl ⊢
        rw [i64_id (by omega) (by omega)]; omega
      have e2 : IntKind.i64.wrap (((m + 1 : Nat) : Int) - 1) = (m : Int) := by rw [i64_id (by omega) (by simp at hs hl; omega)]; omega
      have e3 : (decide ((0 : Int) ≤ (st.length : Int)) && decide ((st.length : Int) < ((a :: st).length : Int))) = true := by simp; omega
      have e4 : (decide ((0 : Int) ≤ (st.length : Int)) && decide ((st.length : Int) ≤ ((a :: st).length : Int))) = true := by simp; omega
      rw [e1, e2, e3, e4]
      simp only [cond_true, Int.toNat_natCast, Nat.zero_add, hg, Option.bind_some, int_atInt, List.take_succ_cons, List.any_cons, List.drop_succ_cons]
      cases hne : (a != part)
      · simp only [cond_false, Bool.false_or]
        exact pop_loop hk wide vars n1 t27 t28 i hi part own xs m n st (by omega) (by simpa using hs) (by simp at hl; omega) hp'
      · simp
theorem kind_loop {k : Nat} (hk : 1000020 ≤ k) (wide vars : Int) (t : List Nd) (ht : t.length ≤ 100000) : ∀ (n i : Nat) (st : List Int) (xs : List PV), t.length - i < n → i ≤ t.length → st.length ≤ i → Pile xs st →
    L52_1 k n wide vars st.length (encT t) (t.length : Int) (i : Int) xs = r52 (kind1 (kst wide vars (t.drop i) st))
  | 0, i, st, xs, h, hi, hs, hp => by omega
  | n + 1, i, st, xs, h, hi, hs, hp => by
    rw [sL52_1]
    by_cases hlt : i < t.length
    · have hd : decide ((i : Int) < (t.length : Int)) = true := by simpa using hlt
      rw [hd, lookT hlt, drop_cons hlt]
      simp only [cond_true, Option.bind_some, encN_shp, encN_op, encN_n]
      rw [needS_ok (by omega), l2N_ok (by omega) wide vars t[i]]
      simp only [R54_r, kst]
      have hn2 := need_le t[i].1
      by_cases h1 : (need t[i].1).2.2 = 0
      · simp [h1, kind1]
      · have h1' : ((need t[i].1).2.2 == 0) = false := by simpa using h1
        simp only [h1', cond_false, h1, if_false, R71_r]
        cases h2 : leafOK wide vars t[i]
        · simp [kind1]
        · simp only [Bool.not_true, cond_false, Bool.true_eq_false, if_false]
          by_cases h3 : st.length < (need t[i].1).1
          · have h3' : decide ((st.length : Int) < ((need t[i].1).1 : Nat)) = true := by simpa using h3
            simp [h3', h3, kind1]
          · have h3' : decide ((st.length : Int) < ((need t[i].1).1 : Nat)) = false := by simp; omega
            rw [h3']
            simp only [cond_false, h3, if_false]
            rw [pop_loop (by omega) wide vars n _ _ i (by omega) _ _ xs _ k st (by omega) (by omega) (by omega) hp]
            cases h6 : (st.take (need t[i].1).1).any (· != (need t[i].1).2.1)
            · simp only [Bool.false_eq_true, if_false]
              have hpd : ∀ (m : Nat) (st : List Int), Pile xs st → Pile xs (st.drop m) := by
                intro m
                induction m with
                | zero => intro st h; simpa using h
                | succ m ih =>
                  intro st h
                  cases st with
                  | nil => simpa using h
                  | cons a st => simpa using ih st h.top.2
              refine kind_loop hk wide vars t ht n (i + 1) _ _ (by omega) (by omega) ?_ ((hpd _ st hp).push _)
              simp
              omega
            · simp [kind1]
    · have hd : decide ((i : Int) < (t.length : Int)) = false := by simpa using hlt
      rw [hd, List.drop_eq_nil_of_le (by omega)]
      simp only [cond_false, kst]
      rcases st with _ | ⟨a, _ | ⟨b, st⟩⟩
      · simp [kind1]
      · have := hp.top.1
        simp at this
        simp [kind1, this]
      · have : (((a :: b :: st).length : Int) != 1) = true := by simp; omega
        rw [this]
        simp [kind1]
theorem l2Kind_ok {k : Nat} (hk : 1000100 ≤ k) (wide vars : Int) (t : List Nd) (ht : t.length ≤ 100000) : c52 k wide vars (encT t) = r52 (kindT wide vars t) := by
  obtain ⟨k, rfl⟩ : ∃ j, k = j + 1 := ⟨k - 1, by omega⟩
  rw [n52, wideS_ok (by omega), in_ok (by omega), in_ok (by omega)]
  simp only [R70_r, R53_r, encT_length]
  unfold kindT sizeT
  cases h1 : isW wide
  · simp
  · have e : (decide (1 ≤ vars) && decide (vars ≤ 4)) = isV vars := rfl
    rw [e]
    cases h2 : isV vars
    · simp
    · have e2 : (decide ((1 : Int) ≤ (t.length : Int)) && decide ((t.length : Int) ≤ 48)) = (decide (1 ≤ t.length) && decide (t.length ≤ 48)) := by
        rw [Bool.eq_iff_iff]; simp; omega
      rw [e2]
      cases h3 : (decide (1 ≤ t.length) && decide (t.length ≤ 48))
      · rw [Bool.and_eq_false_iff] at h3
        rcases h3 with h3 | h3 <;> simp [h3]
      · rw [Bool.and_eq_true] at h3
        simp only [Bool.not_true, cond_false, h3.1, h3.2, Bool.and_self, if_true]
        have := kind_loop (k := k) (by omega) wide vars t ht k 0 [] [] (by omega) (by omega) (by simp) (Pile.nil _)
        simpa using this

/-! ### What the kinds are -/
theorem need_own (op : Int) : (need op).2.2 = 0 ∨ (need op).2.2 = 1 ∨ (need op).2.2 = 2 := by
  unfold need
  repeat' split
  all_goals simp
theorem kst_pos {wide vars : Int} : ∀ {t : List Nd} {st st' : List Int}, kst wide vars t st = some st' → (∀ a ∈ st, a = 1 ∨ a = 2) → ∀ a ∈ st', a = 1 ∨ a = 2
  | [], st, st', h, hs => by simp [kst] at h; subst h; exact hs
  | x :: t, st, st', h, hs => by
    simp only [kst] at h
    split at h
    · cases h
    · split at h
      · cases h
      · split at h
        · cases h
        · split at h
          · cases h
          · rename_i h1 _ _ _
            refine kst_pos h ?_
            intro a ha
            rcases List.mem_cons.1 ha with rfl | ha
            · rcases need_own x.1 with h | h | h
              · exact absurd h h1
              · exact .inl h
              · exact .inr h
            · exact hs a (List.mem_of_mem_drop ha)
theorem kst_app {wide vars : Int} : ∀ (t u : List Nd) (st : List Int), kst wide vars (t ++ u) st = (kst wide vars t st).bind (kst wide vars u)
  | [], u, st => rfl
  | x :: t, u, st => by
    simp only [List.cons_append, kst]
    split
    · rfl
    · split
      · rfl
      · split
        · rfl
        · split
          · rfl
          · exact kst_app t u _
theorem kst_last {wide vars : Int} {t : List Nd} {x : Nd} {st st' : List Int} (h : kst wide vars (t ++ [x]) st = some st') : ∃ s, st' = (need x.1).2.2 :: s := by
  rw [kst_app] at h
  obtain ⟨s, _, h⟩ := Option.bind_eq_some_iff.1 h
  simp only [kst] at h
  split at h
  · cases h
  · split at h
    · cases h
    · split at h
      · cases h
      · split at h
        · cases h
        · exact ⟨_, (Option.some.inj h).symm⟩
theorem goodT_iff {wide vars : Int} {t : List Nd} : goodT wide vars t = true ↔ sizeT wide vars t = true ∧ ∃ c, kst wide vars t [] = some [c] ∧ (c = 1 ∨ c = 2) := by
  unfold goodT
  rw [Bool.and_eq_true]
  constructor
  · rintro ⟨h1, h2⟩
    refine ⟨h1, ?_⟩
    cases h : kst wide vars t [] with
    | none => rw [h] at h2; cases h2
    | some st =>
      rw [h] at h2
      rcases st with _ | ⟨a, _ | ⟨b, st⟩⟩
      · cases h2
      · exact ⟨a, rfl, kst_pos h (by simp) a (by simp)⟩
      · cases h2
  · rintro ⟨h1, c, h2, _⟩
    exact ⟨h1, by rw [h2]; rfl⟩
theorem kindT_pos {wide vars : Int} {t : List Nd} : decide (kindT wide vars t > 0) = goodT wide vars t := by
  rw [Bool.eq_iff_iff, goodT_iff]
  unfold kindT
  constructor
  · intro h
    simp only [decide_eq_true_eq] at h
    split at h
    · rename_i hs
      refine ⟨hs, ?_⟩
      cases hk : kst wide vars t [] with
      | none => rw [hk] at h; simp [kind1] at h
      | some st =>
        rw [hk] at h
        rcases st with _ | ⟨a, _ | ⟨b, st⟩⟩
        · simp [kind1] at h
        · exact ⟨a, rfl, kst_pos hk (by simp) a (by simp)⟩
        · simp [kind1] at h
    · simp at h
  · rintro ⟨hs, c, hk, hc⟩
    simp [hs, hk, kind1]
    omega
theorem goodTermS_ok {k : Nat} (hk : 1000101 ≤ k) (wide vars : Int) (t : List Nd) (ht : t.length ≤ 100000) : c22 k wide vars (encT t) = r22 (goodT wide vars t) := by
  obtain ⟨k, rfl⟩ : ∃ j, k = j + 1 := ⟨k - 1, by omega⟩
  rw [n22, l2Kind_ok (by omega) _ _ _ ht]
  simp only [R52_r, kindT_pos]
end Go.Proofs.Ytclkgblckicabaa
/- Values of terms. -/
set_option linter.unusedVariables false
set_option linter.unusedSimpArgs false
set_option maxRecDepth 4000
namespace Go.Proofs.Ytclkgblckicabaa
open Go.Dp

def mk (wide : Int) : W := maskB wide.toNat
def tr (b : Bool) : W := if b then 1#64 else 0#64
def shW (wide : Int) (a b : W) (left : Bool) : W := if wide ≤ wi b then 0#64 else if left then (a <<< b.toNat) &&& mk wide else a >>> b.toNat
def sgn (wide : Int) (a : W) : Int := shrI .i64 (IntKind.i64.wrap (wi (a <<< (64 - wide).toNat))) (64 - wide)
def divW (wide : Int) (a b : W) : W × W := if goodW wide a && goodW wide b then (if b = 0#64 then (mk wide, a) else (a / b, a % b)) else (0#64, 0#64)
def apRaw (wide op : Int) (a b : W) : W :=
  if op = 3 then a + b else if op = 4 then a - b else if op = 5 then a * b else if op = 6 then (divW wide a b).1 else if op = 7 then (divW wide a b).2
  else if op = 8 then a &&& b else if op = 17 then a &&& b else if op = 9 then a ||| b else if op = 18 then a ||| b else if op = 10 then a ^^^ b
  else if op = 11 then shW wide a b true else if op = 12 then shW wide a b false else if op = 14 then tr (a == b) else if op = 15 then tr (decide (a < b))
  else if op = 16 then tr (decide (sgn wide a < sgn wide b)) else 0#64
def apW (wide op : Int) (a b : W) : W := apRaw wide op a b &&& mk wide

theorem truth_ok {k : Nat} (hk : 1 ≤ k) (b : Bool) : c76 k b = r76 (wi (tr b)) := by
  obtain ⟨k, rfl⟩ : ∃ j, k = j + 1 := ⟨k - 1, by omega⟩
  rw [n76]
  cases b <;> rfl
theorem mk_ok {k : Nat} (hk : 1 ≤ k) {wide : Int} (h : isW wide = true) : c50 k wide = r50 (wi (mk wide)) := by
  have := isW_iff.1 h
  exact mask_ok hk (by omega) (by omega)
theorem shift_ok {k : Nat} (hk : 2 ≤ k) {wide : Int} (h : isW wide = true) (a b : W) (left : Bool) : c75 k wide (wi a) (wi b) left = r75 (wi (shW wide a b left)) := by
  obtain ⟨k, rfl⟩ : ∃ j, k = j + 1 := ⟨k - 1, by omega⟩
  have h' := isW_iff.1 h
  rw [n75, u64_id (by omega) (by omega)]
  unfold shW
  by_cases h1 : wide ≤ wi b
  · have : decide (wi b ≥ wide) = true := by simpa using h1
    simp only [this, cond_true, h1, if_true]
    rfl
  · have h2 : decide (wi b ≥ wide) = false := by simpa using h1
    have h3 : decide (wi b < 0) = false := by have := wi_nonneg b; simp; omega
    simp only [h2, h3, cond_false, h1, if_false, Bool.not_false, cond_true]
    cases left
    · simp only [cond_false, Bool.false_eq_true, if_false]
      rw [shr_wi _ (wi_nonneg b)]
      simp [wi]
    · simp only [cond_true, if_true]
      rw [mk_ok (by omega) h]
      simp only [R50_r]
      rw [shl_wi _ (wi_nonneg b), and_wi]
      simp [wi]
theorem signed_ok {k : Nat} (hk : 1 ≤ k) {wide : Int} (h : isW wide = true) (a : W) : c77 k wide (wi a) = r77 (sgn wide a) := by
  obtain ⟨k, rfl⟩ : ∃ j, k = j + 1 := ⟨k - 1, by omega⟩
  have h' := isW_iff.1 h
  rw [n77, i64_id (n := 64 - wide) (by omega) (by omega)]
  have h3 : decide (64 - wide < 0) = false := by simp; omega
  simp only [h3, Bool.not_false, cond_true]
  rw [shl_wi _ (by omega)]
  rfl
theorem div64_ok {k : Nat} (hk : 1 ≤ k) (a b : W) (hb : b ≠ 0#64) : c83 k 0 (wi a) (wi b) = r83 (wi (a / b)) (wi (a % b)) := by
  obtain ⟨k, rfl⟩ : ∃ j, k = j + 1 := ⟨k - 1, by omega⟩
  rw [n83]
  have hb0 : b.toNat ≠ 0 := fun h => hb (BitVec.eq_of_toNat_eq (by simpa using h))
  have h1 : (wi b == 0) = false := by unfold wi; simp; omega
  have h2 : decide (wi b ≤ 0) = false := by unfold wi; simp; omega
  have h3 : ((0 : Int) == 0) = true := rfl
  simp only [h1, h2, h3, cond_false, cond_true, Bool.not_false]
  have e1 : (wi a).tdiv (wi b) = wi (a / b) := by
    unfold wi
    rw [Int.tdiv_eq_ediv_of_nonneg (by omega), BitVec.toNat_udiv, Int.natCast_ediv]
  have e2 : (wi a).tmod (wi b) = wi (a % b) := by
    unfold wi
    rw [Int.tmod_eq_emod_of_nonneg (by omega), BitVec.toNat_umod, Int.natCast_emod]
  rw [e1, e2, wrap_wi]
theorem areWords_ok {k : Nat} (hk : 3 ≤ k) (wide : Int) (a b : W) : c82 k wide (wi a) (wi b) = r82 (goodW wide a && goodW wide b) := by
  obtain ⟨k, rfl⟩ : ∃ j, k = j + 1 := ⟨k - 1, by omega⟩
  rw [n82, goodWord_ok (by omega), goodWord_ok (by omega)]
  simp only [R25_r]
  cases goodW wide a <;> rfl
theorem divWord_ok {k : Nat} (hk : 4 ≤ k) {wide : Int} (h : isW wide = true) (a b : W) : c74 k wide (wi a) (wi b) = r74 (wi (divW wide a b).1) (wi (divW wide a b).2) (goodW wide a && goodW wide b) := by
  obtain ⟨k, rfl⟩ : ∃ j, k = j + 1 := ⟨k - 1, by omega⟩
  rw [n74, areWords_ok (by omega)]
  simp only [R82_r]
  unfold divW
  cases h1 : (goodW wide a && goodW wide b)
  · rfl
  · simp only [Bool.not_true, cond_false, if_true]
    by_cases hb : b = 0#64
    · subst hb
      have e : (wi 0#64 == 0) = true := rfl
      simp only [e, cond_true, if_true]
      rw [mk_ok (by omega) h]
      simp only [R50_r]
    · have h2 : (wi b == 0) = false := by
        have e : (0 : Int) = wi 0#64 := rfl
        rw [e, wi_beq]; simpa using hb
      simp only [h2, cond_false, hb, if_false]
      rw [div64_ok (by omega) a b hb]
      simp only [R83_r]
theorem apply_ok {k : Nat} (hk : 5 ≤ k) {wide : Int} (h : isW wide = true) (op : Int) (a b : W) : c61 k wide op (wi a) (wi b) = r61 (wi (apW wide op a b)) := by
  obtain ⟨k, rfl⟩ : ∃ j, k = j + 1 := ⟨k - 1, by omega⟩
  rw [n61]
  have hm := mk_ok (k := k) (by omega) h
  have hd := divWord_ok (k := k) (by omega) h a b
  have hs := fun l => shift_ok (k := k) (by omega) h a b l
  have ht := fun x => truth_ok (k := k) (by omega) x
  have hg := fun x => signed_ok (k := k) (by omega) h x
  simp only [hm, hd, hs, ht, hg, R50_r, R74_r, R75_r, R76_r, R77_r, add_wi, sub_wi, mul_wi, and_wi, or_wi, xor_wi, wi_beq, wi_lt_iff]
  unfold apW apRaw
  by_cases h1 : op = 3
  · subst h1; rfl
  by_cases h2 : op = 4
  · subst h2; rfl
  by_cases h3 : op = 5
  · subst h3; rfl
  by_cases h4 : op = 6
  · subst h4; rfl
  by_cases h5 : op = 7
  · subst h5; rfl
  by_cases h6 : op = 8
  · subst h6; rfl
  by_cases h7 : op = 17
  · subst h7; rfl
  by_cases h8 : op = 9
  · subst h8; rfl
  by_cases h9 : op = 18
  · subst h9; rfl
  by_cases h10 : op = 10
  · subst h10; rfl
  by_cases h11 : op = 11
  · subst h11; rfl
  by_cases h12 : op = 12
  · subst h12; rfl
  by_cases h13 : op = 14
  · subst h13; rfl
  by_cases h14 : op = 15
  · subst h14; rfl
  by_cases h15 : op = 16
  · subst h15; rfl
  have q : ∀ c : Int, op ≠ c → (op == c) = false := fun c hc => by simpa using hc
  simp only [q _ h1, q _ h2, q _ h3, q _ h4, q _ h5, q _ h6, q _ h7, q _ h8, q _ h9, q _ h10, q _ h11, q _ h12, q _ h13, q _ h14, q _ h15, cond_false, h1, h2, h3, h4, h5, h6, h7, h8, h9, h10, h11, h12, h13, h14, h15, if_false]
  have e : (0 : Int) = wi 0#64 := rfl
  rw [e, and_wi]

/-! ### The pile of values -/
def vrun (wide : Int) (state : List W) : List Nd → List W → Option (List W)
  | [], vs => some vs
  | x :: t, vs =>
    if x.1 = 1 ∨ x.1 = 20 then vrun wide state t (x.2 :: vs)
    else if x.1 = 2 then (state[x.2.toNat]?).bind fun s => vrun wide state t (s :: vs)
    else if x.1 = 13 then match vs with
      | a :: r => vrun wide state t ((~~~a &&& mk wide) :: r)
      | [] => none
    else if x.1 = 19 then match vs with
      | a :: r => vrun wide state t ((1#64 - a) :: r)
      | [] => none
    else match vs with
      | b :: a :: r => vrun wide state t (apW wide x.1 a b :: r)
      | _ => none
theorem encW_top {a : W} {r : List W} : (encW (a :: r).reverse)[r.length]? = some (.int .u64 (wi a)) := by rw [encW_get]; simp
theorem encW_top2 {a b : W} {r : List W} : (encW (b :: a :: r).reverse)[r.length]? = some (.int .u64 (wi a)) := by rw [encW_get]; simp
theorem encW_set {a b : W} {r : List W} : (encW (a :: r).reverse).set r.length (.int .u64 (wi b)) = encW (b :: r).reverse := by
  simp [encW]
theorem val_loop {k : Nat} (hk : 100 ≤ k) {wide : Int} (hw : isW wide = true) (state : List W) (t : List Nd) (ht : t.length ≤ 100000) (v : W) : ∀ (n i : Nat) (vs : List W), t.length - i < n → i ≤ t.length → vs.length ≤ i → vrun wide state (t.drop i) vs = some [v] →
    L28_1 k n wide (encW state) vs.length (encT t) (t.length : Int) (i : Int) (encW vs.reverse) = r28 (wi v)
  | 0, i, vs, h, hi, hs, hv => by omega
  | n + 1, i, vs, h, hi, hs, hv => by
    rw [sL28_1]
    by_cases hlt : i < t.length
    · have hd : decide ((i : Int) < (t.length : Int)) = true := by simpa using hlt
      rw [hd, lookT hlt]
      rw [drop_cons hlt] at hv
      generalize t[i] = x at hv
      simp only [cond_true, Option.bind_some, encN_shp, encN_op, encN_n]
      have hnext : IntKind.i64.wrap ((i : Int) + 1) = ((i + 1 : Nat) : Int) := by rw [i64_id (by omega) (by omega)]; omega
      rw [hnext]
      have push : ∀ a : W, (encW vs.reverse).take vs.length ++ [PV.int .u64 (wi a)] = encW (a :: vs).reverse := by
        intro a
        rw [List.take_of_length_le (by simp), encW_snoc]
        simp
      have ih := fun (vs : List W) (h1 : vs.length ≤ i + 1) (h2 : vrun wide state (t.drop (i + 1)) vs = some [v]) => val_loop hk hw state t ht v n (i + 1) vs (by omega) (by omega) h1 h2
      simp only [vrun] at hv
      have hlim : (decide ((vs.length + 1) * 8 ≤ LIM) && decide (vs.length + 1 ≤ LIM)) = true := lim_ok (by omega) (by omega)
      by_cases h1 : x.1 = 1
      · have e1 : (x.1 == 1) = true := by simpa using h1
        simp only [e1, cond_true, hlim, push]
        rw [if_pos (.inl h1)] at hv
        exact ih (x.2 :: vs) (by simp; omega) hv
      have e1 : (x.1 == 1) = false := by simpa using h1
      by_cases h2 : x.1 = 20
      · have e2 : (x.1 == 20) = true := by simpa using h2
        simp only [e1, e2, cond_true, cond_false, hlim, push]
        rw [if_pos (.inr h2)] at hv
        exact ih (x.2 :: vs) (by simp; omega) hv
      have e2 : (x.1 == 20) = false := by simpa using h2
      rw [if_neg (by simp [h1, h2])] at hv
      by_cases h3 : x.1 = 2
      · have e3 : (x.1 == 2) = true := by simpa using h3
        rw [if_pos h3] at hv
        obtain ⟨s, hst, hv⟩ := Option.bind_eq_some_iff.1 hv
        simp only [e1, e2, e3, cond_true, cond_false, hlim]
        rw [lookP_int (wi_nonneg _), encW_get]
        have e4 : (wi x.2).toNat = x.2.toNat := by simp [wi]
        rw [e4, hst]
        simp only [Option.map_some, Option.bind_some, int_atInt, push]
        exact ih (s :: vs) (by simp; omega) hv
      have e3 : (x.1 == 2) = false := by simpa using h3
      rw [if_neg h3] at hv
      by_cases h4 : x.1 = 13
      · have e4 : (x.1 == 13) = true := by simpa using h4
        rw [if_pos h4] at hv
        cases vs with
        | nil => cases hv
        | cons a r =>
          simp only at hv
          have hlen : IntKind.i64.wrap (((a :: r).length : Int) - 1) = (r.length : Int) := by simp only [List.length_cons] at hs ⊢; rw [i64_id (by omega) (by omega)]; omega
          have hb : (decide ((0 : Int) ≤ (r.length : Int)) && decide ((r.length : Int) < ((a :: r).length : Int))) = true := by simp; omega
          simp only [e1, e2, e3, e4, cond_true, cond_false, hlen, hb, Int.toNat_natCast, Nat.zero_add, encW_top, Option.bind_some, int_atInt]
          rw [mk_ok (by omega) hw]
          simp only [R50_r]
          have ex : (18446744073709551615 : Int) = wi (BitVec.allOnes 64) := rfl
          rw [ex, xor_wi, and_wi, BitVec.allOnes_xor, encW_set]
          exact ih ((~~~a &&& mk wide) :: r) (by simp at hs ⊢; omega) hv
      have e4 : (x.1 == 13) = false := by simpa using h4
      rw [if_neg h4] at hv
      by_cases h5 : x.1 = 19
      · have e5 : (x.1 == 19) = true := by simpa using h5
        rw [if_pos h5] at hv
        cases vs with
        | nil => cases hv
        | cons a r =>
          simp only at hv
          have hlen : IntKind.i64.wrap (((a :: r).length : Int) - 1) = (r.length : Int) := by simp only [List.length_cons] at hs ⊢; rw [i64_id (by omega) (by omega)]; omega
          have hb : (decide ((0 : Int) ≤ (r.length : Int)) && decide ((r.length : Int) < ((a :: r).length : Int))) = true := by simp; omega
          simp only [e1, e2, e3, e4, e5, cond_true, cond_false, hlen, hb, Int.toNat_natCast, Nat.zero_add, encW_top, Option.bind_some, int_atInt]
          have ex : (1 : Int) = wi 1#64 := rfl
          rw [ex, sub_wi, encW_set]
          exact ih ((1#64 - a) :: r) (by simp at hs ⊢; omega) hv
      have e5 : (x.1 == 19) = false := by simpa using h5
      rw [if_neg h5] at hv
      rcases vs with _ | ⟨b, _ | ⟨a, r⟩⟩
      · cases hv
      · cases hv
      · simp only at hv
        have hlen : IntKind.i64.wrap (((b :: a :: r).length : Int) - 1) = ((r.length + 1 : Nat) : Int) := by simp only [List.length_cons] at hs ⊢; rw [i64_id (by omega) (by omega)]; omega
        have hlen2 : IntKind.i64.wrap (((r.length + 1 : Nat) : Int) - 1) = (r.length : Int) := by simp only [List.length_cons] at hs; rw [i64_id (by omega) (by omega)]; omega
        have hb : (decide ((0 : Int) ≤ (r.length : Int)) && decide ((r.length : Int) < ((b :: a :: r).length : Int))) = true := by simp; omega
        have hb2 : (decide ((0 : Int) ≤ (r.length : Int)) && decide ((r.length : Int) ≤ ((b :: a :: r).length : Int))) = true := by simp; omega
        have hb3 : (decide ((0 : Int) ≤ ((r.length + 1 : Nat) : Int)) && decide (((r.length + 1 : Nat) : Int) < ((b :: a :: r).length : Int))) = true := by simp; omega
        have ht1 : (encW (b :: a :: r).reverse)[r.length + 1]? = some (.int .u64 (wi b)) := encW_top (a := b) (r := a :: r)
        simp only [e1, e2, e3, e4, e5, cond_true, cond_false, hlen, hlen2, hb, hb2, hb3, Int.toNat_natCast, Nat.zero_add, encW_top2, ht1, Option.bind_some, int_atInt]
        rw [apply_ok (by omega) hw]
        simp only [R61_r]
        have hlim2 : (decide ((r.length + 1) * 8 ≤ LIM) && decide (r.length + 1 ≤ LIM)) = true := lim_ok (by simp at hs; omega) (by omega)
        have hp : (encW (b :: a :: r).reverse).take r.length ++ [PV.int .u64 (wi (apW wide x.1 a b))] = encW (apW wide x.1 a b :: r).reverse := by
          rw [encW_take, encW_snoc]
          simp
        rw [hlim2, hp]
        exact ih (apW wide x.1 a b :: r) (by simp at hs ⊢; omega) hv
    · have hd : decide ((i : Int) < (t.length : Int)) = false := by simpa using hlt
      rw [hd]
      rw [List.drop_eq_nil_of_le (by omega)] at hv
      simp only [vrun] at hv
      injection hv with hv
      subst hv
      rfl
theorem valueOf_ok {k : Nat} (hk : 200000 ≤ k) {wide : Int} (hw : isW wide = true) (state : List W) (t : List Nd) (ht : t.length ≤ 100000) {v : W} (hv : vrun wide state t [] = some [v]) : c28 k wide (encT t) (encW state) = r28 (wi v) := by
  obtain ⟨k, rfl⟩ : ∃ j, k = j + 1 := ⟨k - 1, by omega⟩
  rw [n28, encT_length]
  exact val_loop (by omega) hw state t ht v k 0 [] (by omega) (by omega) (by simp) hv
end Go.Proofs.Ytclkgblckicabaa
/- States, values, what is put for variables: the functions. -/
set_option linter.unusedVariables false
set_option linter.unusedSimpArgs false
set_option maxRecDepth 4000
namespace Go.Proofs.Ytclkgblckicabaa
open Go.Dp

def stateOK (wide vars : Int) (s : List W) : Bool := isW wide && isV vars && decide ((s.length : Int) = vars) && s.all (goodW wide)
theorem words_loop {k : Nat} (hk : 10 ≤ k) (l : List W) (hl : l.length ≤ 1000000) (wide : Int) : ∀ (n i : Nat), l.length - i < n → i ≤ l.length → ∃ v, L73f60_1 k n (encW l) (l.length : Int) (i : Int) wide = r73f60 wide v ∧ decide (v ≥ 0) = (l.drop i).any (fun a => !goodW wide a)
  | 0, i, h, hi => by omega
  | n + 1, i, h, hi => by
    obtain ⟨k, rfl⟩ : ∃ j, k = j + 1 := ⟨k - 1, by omega⟩
    rw [sL73f60_1]
    by_cases hlt : i < l.length
    · have hd : decide ((i : Int) < (l.length : Int)) = true := by simpa using hlt
      rw [hd, lookP_nat, encW_get, List.getElem?_eq_getElem hlt]
      simp only [cond_true, Option.map_some, Option.bind_some, int_atInt, n60, goodWord_ok (show 2 ≤ k by omega), R25_r, R60_r]
      rw [drop_cons hlt, List.any_cons]
      cases hne : goodW wide l[i]
      · simp only [Bool.not_false, cond_true, Bool.true_or]
        exact ⟨_, rfl, by simp⟩
      · simp only [Bool.not_true, cond_false, Bool.false_or]
        rw [i64_id (by omega) (by omega)]
        exact words_loop (k := k + 1) (by omega) l hl wide n (i + 1) (by omega) (by omega)
    · have hd : decide ((i : Int) < (l.length : Int)) = false := by simpa using hlt
      rw [hd, List.drop_eq_nil_of_le (by omega)]
      exact ⟨_, rfl, by simp⟩
theorem isState_ok {k : Nat} (hk : 1000020 ≤ k) (wide vars : Int) (s : List W) (hs : s.length ≤ 1000000) : c26 k wide vars (encW s) = r26 (stateOK wide vars s) := by
  obtain ⟨k, rfl⟩ : ∃ j, k = j + 3 := ⟨k - 3, by omega⟩
  rw [n26, isWide_ok (by omega), isVars_ok (by omega), n59f60, n73f60]
  simp only [R45_r, R42_r, encW_length]
  unfold stateOK
  cases h1 : isW wide
  · simp
  · cases h2 : isV vars
    · simp
    · simp only [cond_true, Bool.true_and]
      by_cases h3 : (s.length : Int) = vars
      · have h3' : ((s.length : Int) == vars) = true := by simpa using h3
        obtain ⟨v, h, hv⟩ := words_loop (k := k) (by omega) s hs wide k 0 (by omega) (by omega)
        have h' : L73f60_1 k k (encW s) (s.length : Int) 0 wide = r73f60 wide v := h
        rw [h3', h']
        simp only [cond_true, R73f60_r, R59f60_r, hv, List.drop_zero, h3, decide_true, Bool.true_and]
        congr 1
        rw [List.all_eq_not_any_not]
      · have h3' : ((s.length : Int) == vars) = false := by simpa using h3
        simp [h3', h3]
theorem valueOf_full {k : Nat} (hk : 1000200 ≤ k) (wide : Int) (t : List Nd) (ht : t.length ≤ 100000) (s : List W) (hs : s.length ≤ 1000000) (h1 : stateOK wide s.length s = true) (h2 : goodT wide s.length t = true) {v : W} (hv : vrun wide s t [] = some [v]) :
    c11 k wide (encT t) (encW s) = r11 (wi v) true := by
  obtain ⟨k, rfl⟩ : ∃ j, k = j + 1 := ⟨k - 1, by omega⟩
  have hw : isW wide = true := by simp only [stateOK, Bool.and_eq_true] at h1; exact h1.1.1.1
  rw [n11, encW_length, isState_ok (by omega) _ _ _ hs, goodTerm_ok (by omega) _ _ _ ht, h1, h2]
  simp only [R26_r, R20_r, Bool.not_true, cond_false]
  rw [valueOf_ok (by omega) hw s t ht hv]
  simp only [R28_r]
theorem number_loop {k : Nat} (hk : 1 ≤ k) {bs : List Nat} (hc : CodeOK bs) : ∀ (n i : Nat) (v : Int), bs.length - i < n → i ≤ bs.length → 0 ≤ v → v < 1000003 → ∃ r, L9_1 k n v (encB bs) (bs.length : Int) (i : Int) = r9 r ∧ 0 ≤ r ∧ r < 1000003
  | 0, i, v, h, hi, h0, h1 => by omega
  | n + 1, i, v, h, hi, h0, h1 => by
    have hl := hc.len
    rw [sL9_1]
    by_cases hlt : i < bs.length
    · have hd : decide ((i : Int) < (bs.length : Int)) = true := by simpa using hlt
      rw [hd, lookP_nat, encB_get, List.getElem?_eq_getElem hlt]
      have hb := hc.lt bs[i] (List.getElem_mem hlt)
      simp only [cond_true, Option.map_some, Option.bind_some, int_atInt]
      rw [i64_id (n := 31 * v) (by omega) (by omega), i64_id (n := (bs[i] : Int)) (by omega) (by omega), i64_id (n := 31 * v + (bs[i] : Int)) (by omega) (by omega), i64_id (n := (i : Int) + 1) (by omega) (by omega)]
      have h6 := Int.tmod_nonneg 1000003 (a := 31 * v + (bs[i] : Int)) (by omega)
      have h7 := Int.tmod_lt_of_pos (31 * v + (bs[i] : Int)) (b := 1000003) (by omega)
      exact number_loop hk hc n (i + 1) _ (by omega) (by omega) h6 h7
    · have hd : decide ((i : Int) < (bs.length : Int)) = false := by simpa using hlt
      rw [hd]
      exact ⟨v, rfl, h0, h1⟩
theorem numberOf_ok {k : Nat} (hk : 1048580 ≤ k) {bs : List Nat} (hc : CodeOK bs) : ∃ r, c9 k (encB bs) = r9 r ∧ 0 ≤ r ∧ r < 1000003 := by
  have hl := hc.len
  obtain ⟨k, rfl⟩ : ∃ j, k = j + 1 := ⟨k - 1, by omega⟩
  rw [n9, encB_length]
  exact number_loop (by omega) hc k 0 0 (by omega) (by omega) (by omega) (by omega)
/-! ### Putting -/
def putT (by1 : List (List Nd)) : List Nd → List Nd
  | [] => []
  | x :: t => (if x.1 = 2 then (by1[x.2.toNat]?).getD [] else [x]) ++ putT by1 t
def byOK (wide vars : Int) (by1 : List (List Nd)) : Bool := by1.all fun b => kindT wide vars b == 1
def putOK (wide vars : Int) (t : List Nd) (by1 : List (List Nd)) : Bool := goodT wide vars t && decide ((by1.length : Int) = vars) && byOK wide vars by1
theorem putT_len {by1 : List (List Nd)} (hb : ∀ b ∈ by1, b.length ≤ 100) : ∀ t : List Nd, (putT by1 t).length ≤ 100 * t.length
  | [] => by simp [putT]
  | x :: t => by
    have ih := putT_len hb t
    simp only [putT, List.length_append, List.length_cons]
    split
    · cases h : by1[x.2.toNat]? with
      | none => simp; omega
      | some b => have := hb b (List.mem_of_getElem? h); simp; omega
    · simp; omega
theorem kst_leaf {wide vars : Int} : ∀ {t : List Nd} {st st' : List Int}, kst wide vars t st = some st' → ∀ x ∈ t, leafOK wide vars x = true
  | [], st, st', h => by simp
  | x :: t, st, st', h => by
    simp only [kst] at h
    split at h
    · cases h
    · split at h
      · cases h
      · rename_i h2
        split at h
        · cases h
        · split at h
          · cases h
          · intro y hy
            rcases List.mem_cons.1 hy with rfl | hy
            · simpa using h2
            · exact kst_leaf h y hy
theorem goodT_vars {wide vars : Int} {t : List Nd} (h : goodT wide vars t = true) : ∀ x ∈ t, x.1 = 2 → (x.2.toNat : Int) < vars := by
  obtain ⟨hs, c, hk, _⟩ := goodT_iff.1 h
  have hv : isV vars = true := by simp only [sizeT, Bool.and_eq_true] at hs; exact hs.1.1.2
  have hv' := isV_iff.1 hv
  intro x hx h2
  have := kst_leaf hk x hx
  simp [leafOK, h2] at this
  rw [u64_id (by omega) (by omega)] at this
  exact this
end Go.Proofs.Ytclkgblckicabaa
