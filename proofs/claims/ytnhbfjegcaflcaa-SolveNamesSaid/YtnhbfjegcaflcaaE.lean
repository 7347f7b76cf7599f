/- The tables of the program, and that they are true. -/
import Derived.Test.YtnhbfjegcaflcaaS
import Derived.Test.YtnhbfjegcaflcaaProg
namespace Go.Proofs.Ytnhbfjegcaflcaa
open Go Go.Proofs.Ytnhbfjegcaflcaa.R
set_option maxRecDepth 100000
noncomputable def E : Env := ⟨[(2, (.int .i64)), (3, (.int .i64)), (4, .bool), (5, (.int .u8)), (6, (.int .u8)), (7, (.pair (.int .i64) (.pair (.int .i64) (.pair .bool (.int .u8))))), (8, (.pair (.int .i64) (.pair (.int .i64) (.pair .bool (.int .u8))))), (12, (.int .u64)), (21, (.int .i32)), (22, (.list (.list (.int .i64)))), (25, (.list .bool)), (26, (.list (.int .i64))), (27, (.pair .bool (.pair (.list .bool) (.pair (.list (.int .i64)) (.pair (.list (.list (.int .i64))) (.int .i64)))))), (28, (.pair .bool (.pair (.list .bool) (.pair (.list (.int .i64)) (.pair (.list (.list (.int .i64))) (.int .i64)))))), (29, (.int .i64)), (48, (.pair (.int .i64) (.pair (.list (.int .i64)) (.list (.int .i64))))), (49, (.pair (.int .i64) (.pair (.list (.int .i64)) (.list (.int .i64))))), (50, (.pair (.int .i64) (.pair (.list (.list (.int .i64))) (.pair (.pair (.int .i64) (.pair (.list (.int .i64)) (.list (.int .i64)))) (.pair .bool (.pair (.list .bool) (.pair (.list (.int .i64)) (.pair (.list (.list (.int .i64))) (.int .i64))))))))), (51, (.pair (.int .i64) (.pair (.list (.list (.int .i64))) (.pair (.pair (.int .i64) (.pair (.list (.int .i64)) (.list (.int .i64)))) (.pair .bool (.pair (.list .bool) (.pair (.list (.int .i64)) (.pair (.list (.list (.int .i64))) (.int .i64))))))))), (63, (.int .u64)), (69, (.list (.int .u8))), (86, (.list (.pair (.int .i64) (.int .i64)))), (89, (.pair (.int .i64) (.int .i64))), (90, (.pair (.int .i64) (.int .i64))), (108, (.int .i64)), (116, (.int .u32)), (118, (.int .u64)), (124, (.int .u64)), (147, (.int .u8)), (148, (.int .u8)), (151, (.int .i32)), (152, (.int .i32))],
  [(7, (4, [(0, 2), (1, 3), (2, 4), (3, 6)])), (8, (4, [(0, 2), (1, 3), (2, 4), (3, 6)])), (27, (5, [(0, 4), (1, 25), (2, 26), (3, 22), (4, 3)])), (28, (5, [(0, 4), (1, 25), (2, 26), (3, 22), (4, 3)])), (48, (3, [(0, 3), (1, 26), (2, 26)])), (49, (3, [(0, 3), (1, 26), (2, 26)])), (50, (10, [(0, 3), (1, 22), (2, 49), (5, 28)])), (51, (10, [(0, 3), (1, 22), (2, 49), (5, 28)])), (89, (2, [(0, 3), (1, 3)])), (90, (2, [(0, 3), (1, 3)]))],
  [(106, (4001, .bool))],
  [(1, ()), (15, ()), (16, ()), (17, ()), (23, ()), (24, ()), (31, ()), (32, ()), (33, ()), (34, ()), (35, ()), (36, ()), (37, ()), (39, ()), (40, ()), (42, ()), (43, ()), (44, ()), (45, ()), (46, ()), (47, ()), (53, ()), (54, ()), (55, ()), (56, ()), (57, ()), (58, ()), (59, ()), (60, ()), (61, ()), (62, ()), (64, ()), (65, ()), (66, ()), (67, ()), (68, ()), (70, ()), (72, ()), (74, ()), (75, ()), (77, ()), (79, ()), (80, ()), (81, ()), (83, ()), (84, ()), (85, ()), (88, ()), (91, ()), (92, ()), (93, ()), (95, ()), (96, ()), (97, ()), (98, ()), (100, ()), (102, ()), (103, ()), (104, ()), (105, ()), (107, ()), (110, ()), (111, ()), (112, ()), (114, ()), (115, ()), (117, ()), (119, ()), (120, ()), (121, ()), (122, ()), (123, ()), (125, ()), (126, ()), (127, ()), (128, ()), (129, ()), (130, ()), (131, ()), (132, ()), (133, ()), (134, ()), (135, ()), (136, ()), (137, ()), (138, ()), (139, ()), (140, ()), (146, ()), (149, ()), (150, ())],
  [(49, ([.ro, .ro], [(.d .bool)])), (38, ([.ro, .ro], [(.d (.int .i64))])), (22, ([.ro, .ro], [(.d (.int .i64))])), (23, ([.ro], [(.own (.list (.int .i64)))])), (50, ([.ro, .ro], [(.d .bool)])), (39, ([.ro], [(.d (.int .i64))])), (40, ([.ro], [(.own (.int .i64))])), (41, ([.ro], [(.own (.int .u8))])), (51, ([.ro, .ro], [(.d (.int .u8)), (.d (.int .i64))])), (42, ([.ro, .ro], [(.d (.int .i64)), (.d (.int .i64))])), (24, ([.ro, .ro], [(.agg (.d (.int .i64)) (.agg (.own (.int .i64)) (.own (.int .i64)))), (.d (.int .i64)), (.d (.int .i64))])), (32, ([.ro, .ro, .ro], [(.d (.int .i64))])), (33, ([.ro, .ro, .ro], [(.d .bool)])), (52, ([.ro, .ro], [(.d (.int .i64))])), (43, ([.ro, .ro, .ro], [(.own (.int .i64)), (.d (.int .i64))])), (44, ([.io (.agg (.d (.int .i64)) (.agg (.own (.list (.int .i64))) (.agg (.agg (.d (.int .i64)) (.agg (.own (.int .i64)) (.own (.int .i64)))) (.agg (.d .bool) (.agg (.own .bool) (.agg (.own (.int .i64)) (.agg (.own (.list (.int .i64))) (.d (.int .i64))))))))), .ro], [])), (64, ([.ro, .ro], [(.d (.int .u8)), (.d (.int .i64)), (.d (.int .i64))])), (81, ([.ro, .ro], [(.d (.int .i64))])), (83, ([.ro], [(.d .bool)])), (82, ([.ro, .ro], [(.d (.int .i64))])), (85, ([.ro], [(.d .bool)])), (76, ([.ro, .ro], [(.d .bool)])), (93, ([.ro], [(.d .bool)])), (84, ([.ro, .ro], [(.d (.int .i64)), (.d .bool)])), (65, ([.ro, .ro], [(.d (.int .i64)), (.d (.int .i64))])), (67, ([.ro, .ro], [(.d (.int .i64))])), (66, ([.ro, .ro], [(.d (.int .i64))])), (55, ([.ro, .ro], [(.own (.pair (.int .i64) (.int .i64))), (.d (.int .i64))])), (56, ([.ro], [(.d (.int .i64))])), (57, ([.ro, .ro], [(.agg (.d (.int .i64)) (.agg (.own (.int .i64)) (.own (.int .i64)))), (.d (.int .i64))])), (87, ([.ro, .ro], [(.d .bool)])), (69, ([.ro, .ro], [(.agg (.d (.int .i64)) (.agg (.own (.int .i64)) (.own (.int .i64)))), (.d (.int .i64))])), (58, ([.ro, .ro], [(.agg (.d (.int .i64)) (.agg (.own (.int .i64)) (.own (.int .i64)))), (.d (.int .i64))])), (45, ([.ro, .ro], [(.agg (.d (.int .i64)) (.agg (.own (.int .i64)) (.own (.int .i64)))), (.d (.int .i64))])), (25, ([.io (.agg (.d (.int .i64)) (.agg (.own (.list (.int .i64))) (.agg (.agg (.d (.int .i64)) (.agg (.own (.int .i64)) (.own (.int .i64)))) (.agg (.d .bool) (.agg (.own .bool) (.agg (.own (.int .i64)) (.agg (.own (.list (.int .i64))) (.d (.int .i64)))))))))], [(.d .bool), (.d (.int .i64))])), (59, ([.ro], [(.d (.int .i64))])), (60, ([.mv (.own (.int .i64))], [(.d (.int .i64)), (.own (.int .i64))])), (46, ([.ro, .ro], [(.d (.int .i64)), (.own (.int .i64)), (.d (.int .i64))])), (26, ([.io (.agg (.d (.int .i64)) (.agg (.own (.list (.int .i64))) (.agg (.agg (.d (.int .i64)) (.agg (.own (.int .i64)) (.own (.int .i64)))) (.agg (.d .bool) (.agg (.own .bool) (.agg (.own (.int .i64)) (.agg (.own (.list (.int .i64))) (.d (.int .i64))))))))), .ro], [(.d .bool)])), (27, ([.io (.agg (.d (.int .i64)) (.agg (.own (.list (.int .i64))) (.agg (.agg (.d (.int .i64)) (.agg (.own (.int .i64)) (.own (.int .i64)))) (.agg (.d .bool) (.agg (.own .bool) (.agg (.own (.int .i64)) (.agg (.own (.list (.int .i64))) (.d (.int .i64)))))))))], [])), (11, ([.ro, .ro, .ro], [(.agg (.d .bool) (.agg (.own .bool) (.agg (.own (.int .i64)) (.agg (.own (.list (.int .i64))) (.d (.int .i64)))))), (.d (.int .i64))])), (13, ([.ro, .ro], [(.d .bool)])), (28, ([.ro, .ro], [(.d .bool)])), (29, ([.ro, .ro], [(.d .bool)])), (12, ([.ro, .ro], [(.d .bool)])), (19, ([.ro, .ro], [(.d .bool)])), (9, ([], [(.d .bool)])), (20, ([.ro, .ro], [(.d .bool)])), (30, ([.ro], [(.d .bool)])), (47, ([.ro, .ro], [(.d .bool)])), (31, ([.ro, .ro], [(.d .bool)])), (14, ([.ro, .ro], [(.d (.int .i64))])), (37, ([.ro, .ro], [(.d (.int .i64))])), (21, ([.ro, .ro], [(.d (.int .i64))])), (10, ([.ro, .ro], [(.d .bool)])), (15, ([.ro], [(.d (.int .i64))])), (16, ([.ro, .ro, .ro], [(.d .bool), (.d (.int .i64))])), (34, ([.ro, .ro], [(.d .bool), (.d (.int .i64))])), (17, ([.ro, .ro, .ro], [(.d .bool), (.d (.int .i64))])), (7, ([], [(.d .bool)])), (35, ([.ro, .ro], [(.own .bool)])), (61, ([.ro, .ro], [(.d .bool)])), (48, ([.ro, .ro], [(.d .bool)])), (36, ([.ro, .ro], [(.d .bool)])), (18, ([.ro, .ro], [(.own .bool), (.d .bool)]))],
  [(49, Try.f49), (38, Try.f38), (22, Try.f22), (23, Try.f23), (50, Try.f50), (39, Try.f39), (40, Try.f40), (41, Try.f41), (51, Try.f51), (42, Try.f42), (24, Try.f24), (32, Try.f32), (33, Try.f33), (52, Try.f52), (53, Try.f53), (54, Try.f54), (43, Try.f43), (44, Try.f44), (64, Try.f64), (81, Try.f81), (83, Try.f83), (82, Try.f82), (85, Try.f85), (76, Try.f76), (93, Try.f93), (84, Try.f84), (65, Try.f65), (67, Try.f67), (66, Try.f66), (68, Try.f68), (55, Try.f55), (56, Try.f56), (57, Try.f57), (87, Try.f87), (69, Try.f69), (58, Try.f58), (45, Try.f45), (25, Try.f25), (59, Try.f59), (60, Try.f60), (46, Try.f46), (26, Try.f26), (27, Try.f27), (11, Try.f11), (13, Try.f13), (28, Try.f28), (29, Try.f29), (12, Try.f12), (19, Try.f19), (9, Try.f9), (20, Try.f20), (30, Try.f30), (47, Try.f47), (31, Try.f31), (14, Try.f14), (37, Try.f37), (21, Try.f21), (10, Try.f10), (15, Try.f15), (16, Try.f16), (34, Try.f34), (17, Try.f17), (7, Try.f7), (35, Try.f35), (61, Try.f61), (48, Try.f48), (36, Try.f36), (18, Try.f18)],
  [(23, (.list (.int .i64))), (40, (.int .i64))],
  [(38, [(4, [0, 1, 13, 14, 15])]), (22, [(4, [0, 10, 11, 12])]), (39, [(5, [1, 3, 21, 22, 23]), (12, [1, 45, 46, 47])]), (41, [(3, [1, 3, 13, 14]), (8, [3, 22, 23, 24])]), (51, [(3, [0, 6, 7, 10, 11, 12])]), (42, [(3, [0, 6, 11, 12, 13])]), (24, [(7, [1, 2, 4, 25, 26, 27]), (15, [1, 4, 11, 12])]), (32, [(8, [0, 23, 24, 25])]), (52, [(2, [0, 1, 7, 8])]), (43, [(8, [0, 1, 9, 31, 32, 33]), (17, [14, 52, 53, 54])]), (82, [(2, [0, 1, 7, 8])]), (84, [(3, [0, 1, 6, 7, 8])]), (55, [(8, [2, 9, 27, 28, 29])]), (25, [(3, [0, 4, 15, 16, 17])]), (59, [(5, [0, 3, 9, 10, 11])]), (60, [(5, [0, 4, 5, 6]), (7, [0, 4, 5, 6, 7, 26])]), (46, [(9, [0, 3, 9, 29, 30, 31]), (14, [3, 9, 12])]), (27, [(2, [0, 21, 22, 23])]), (11, [(9, [0, 2, 6, 9, 10, 11]), (12, [2, 6, 9, 10])]), (13, [(4, [0, 1, 5])]), (28, [(4, [0, 1, 5])]), (29, [(4, [0, 1, 5])]), (20, [(2, [0, 1, 5])]), (31, [(2, [0, 1, 5])]), (37, [(4, [0, 1, 5])]), (34, [(5, [1, 16, 17, 18])]), (17, [(7, [2, 31, 32, 33])]), (35, [(3, [1, 5, 6])]), (48, [(2, [0, 1, 5])]), (36, [(2, [0, 1, 5])]), (18, [(2, [0, 1, 6])])],
  [(11, [(12, [10])])],
  [(7, [(20, 41)]), (11, [(12, 14)]), (13, [(6, 8)]), (24, [(13, 10)]), (25, [(10, 13)]), (26, [(4, 13)]), (27, [(0, 10)]), (28, [(6, 8)]), (29, [(6, 8)]), (31, [(4, 47)]), (45, [(4, 10), (6, 8), (9, 7)]), (57, [(9, 12)]), (60, [(10, 12), (15, 12)]), (69, [(6, 7), (7, 17)])],
  [],
  [(53, .cut (.int .i64)), (54, .inplace (.int .i64) sortI none), (68, .inplace (.pair (.int .i64) (.int .i64)) sortAt (some 66))]⟩
def opsIn : Code → Array Oper
  | .region _ ops _ => ops
  | _ => #[]
noncomputable def b49 : Code := (Try.f49.body).getD .skip
noncomputable def b38 : Code := (Try.f38.body).getD .skip
noncomputable def b22 : Code := (Try.f22.body).getD .skip
noncomputable def b23 : Code := (Try.f23.body).getD .skip
noncomputable def b50 : Code := (Try.f50.body).getD .skip
noncomputable def b39 : Code := (Try.f39.body).getD .skip
noncomputable def b40 : Code := (Try.f40.body).getD .skip
noncomputable def b41 : Code := (Try.f41.body).getD .skip
noncomputable def b51 : Code := (Try.f51.body).getD .skip
noncomputable def b42 : Code := (Try.f42.body).getD .skip
noncomputable def b24 : Code := (Try.f24.body).getD .skip
noncomputable def b32 : Code := (Try.f32.body).getD .skip
noncomputable def b33 : Code := (Try.f33.body).getD .skip
noncomputable def b52 : Code := (Try.f52.body).getD .skip
noncomputable def b53 : Code := (Try.f53.body).getD .skip
noncomputable def b54 : Code := (Try.f54.body).getD .skip
noncomputable def b43 : Code := (Try.f43.body).getD .skip
noncomputable def b44 : Code := (Try.f44.body).getD .skip
noncomputable def b64 : Code := (Try.f64.body).getD .skip
noncomputable def b81 : Code := (Try.f81.body).getD .skip
noncomputable def b83 : Code := (Try.f83.body).getD .skip
noncomputable def b82 : Code := (Try.f82.body).getD .skip
noncomputable def b85 : Code := (Try.f85.body).getD .skip
noncomputable def b76 : Code := (Try.f76.body).getD .skip
noncomputable def b93 : Code := (Try.f93.body).getD .skip
noncomputable def b84 : Code := (Try.f84.body).getD .skip
noncomputable def b65 : Code := (Try.f65.body).getD .skip
noncomputable def b67 : Code := (Try.f67.body).getD .skip
noncomputable def b66 : Code := (Try.f66.body).getD .skip
noncomputable def b68 : Code := (Try.f68.body).getD .skip
noncomputable def b55 : Code := (Try.f55.body).getD .skip
noncomputable def b56 : Code := (Try.f56.body).getD .skip
noncomputable def b57 : Code := (Try.f57.body).getD .skip
noncomputable def b87 : Code := (Try.f87.body).getD .skip
noncomputable def b69 : Code := (Try.f69.body).getD .skip
noncomputable def b58 : Code := (Try.f58.body).getD .skip
noncomputable def b45 : Code := (Try.f45.body).getD .skip
noncomputable def b25 : Code := (Try.f25.body).getD .skip
noncomputable def b59 : Code := (Try.f59.body).getD .skip
noncomputable def b60 : Code := (Try.f60.body).getD .skip
noncomputable def b46 : Code := (Try.f46.body).getD .skip
noncomputable def b26 : Code := (Try.f26.body).getD .skip
noncomputable def b27 : Code := (Try.f27.body).getD .skip
noncomputable def b11 : Code := (Try.f11.body).getD .skip
noncomputable def b13 : Code := (Try.f13.body).getD .skip
noncomputable def b28 : Code := (Try.f28.body).getD .skip
noncomputable def b29 : Code := (Try.f29.body).getD .skip
noncomputable def b12 : Code := (Try.f12.body).getD .skip
noncomputable def b19 : Code := (Try.f19.body).getD .skip
noncomputable def b9 : Code := (Try.f9.body).getD .skip
noncomputable def b20 : Code := (Try.f20.body).getD .skip
noncomputable def b30 : Code := (Try.f30.body).getD .skip
noncomputable def b47 : Code := (Try.f47.body).getD .skip
noncomputable def b31 : Code := (Try.f31.body).getD .skip
noncomputable def b14 : Code := (Try.f14.body).getD .skip
noncomputable def b37 : Code := (Try.f37.body).getD .skip
noncomputable def b21 : Code := (Try.f21.body).getD .skip
noncomputable def b10 : Code := (Try.f10.body).getD .skip
noncomputable def b15 : Code := (Try.f15.body).getD .skip
noncomputable def b16 : Code := (Try.f16.body).getD .skip
noncomputable def b34 : Code := (Try.f34.body).getD .skip
noncomputable def b17 : Code := (Try.f17.body).getD .skip
noncomputable def b7 : Code := (Try.f7.body).getD .skip
noncomputable def b35 : Code := (Try.f35.body).getD .skip
noncomputable def b61 : Code := (Try.f61.body).getD .skip
noncomputable def b48 : Code := (Try.f48.body).getD .skip
noncomputable def b36 : Code := (Try.f36.body).getD .skip
noncomputable def b18 : Code := (Try.f18.body).getD .skip
theorem e_ok : AllOk Try.prog E := allOk (by kernel_rfl) (by kernel_rfl) (by kernel_rfl) (by kernel_rfl) (by kernel_rfl)
  (List.forall_mem_cons.2 ⟨Try.func49, (List.forall_mem_cons.2 ⟨Try.func38, (List.forall_mem_cons.2 ⟨Try.func22, (List.forall_mem_cons.2 ⟨Try.func23, (List.forall_mem_cons.2 ⟨Try.func50, (List.forall_mem_cons.2 ⟨Try.func39, (List.forall_mem_cons.2 ⟨Try.func40, (List.forall_mem_cons.2 ⟨Try.func41, (List.forall_mem_cons.2 ⟨Try.func51, (List.forall_mem_cons.2 ⟨Try.func42, (List.forall_mem_cons.2 ⟨Try.func24, (List.forall_mem_cons.2 ⟨Try.func32, (List.forall_mem_cons.2 ⟨Try.func33, (List.forall_mem_cons.2 ⟨Try.func52, (List.forall_mem_cons.2 ⟨Try.func53, (List.forall_mem_cons.2 ⟨Try.func54, (List.forall_mem_cons.2 ⟨Try.func43, (List.forall_mem_cons.2 ⟨Try.func44, (List.forall_mem_cons.2 ⟨Try.func64, (List.forall_mem_cons.2 ⟨Try.func81, (List.forall_mem_cons.2 ⟨Try.func83, (List.forall_mem_cons.2 ⟨Try.func82, (List.forall_mem_cons.2 ⟨Try.func85, (List.forall_mem_cons.2 ⟨Try.func76, (List.forall_mem_cons.2 ⟨Try.func93, (List.forall_mem_cons.2 ⟨Try.func84, (List.forall_mem_cons.2 ⟨Try.func65, (List.forall_mem_cons.2 ⟨Try.func67, (List.forall_mem_cons.2 ⟨Try.func66, (List.forall_mem_cons.2 ⟨Try.func68, (List.forall_mem_cons.2 ⟨Try.func55, (List.forall_mem_cons.2 ⟨Try.func56, (List.forall_mem_cons.2 ⟨Try.func57, (List.forall_mem_cons.2 ⟨Try.func87, (List.forall_mem_cons.2 ⟨Try.func69, (List.forall_mem_cons.2 ⟨Try.func58, (List.forall_mem_cons.2 ⟨Try.func45, (List.forall_mem_cons.2 ⟨Try.func25, (List.forall_mem_cons.2 ⟨Try.func59, (List.forall_mem_cons.2 ⟨Try.func60, (List.forall_mem_cons.2 ⟨Try.func46, (List.forall_mem_cons.2 ⟨Try.func26, (List.forall_mem_cons.2 ⟨Try.func27, (List.forall_mem_cons.2 ⟨Try.func11, (List.forall_mem_cons.2 ⟨Try.func13, (List.forall_mem_cons.2 ⟨Try.func28, (List.forall_mem_cons.2 ⟨Try.func29, (List.forall_mem_cons.2 ⟨Try.func12, (List.forall_mem_cons.2 ⟨Try.func19, (List.forall_mem_cons.2 ⟨Try.func9, (List.forall_mem_cons.2 ⟨Try.func20, (List.forall_mem_cons.2 ⟨Try.func30, (List.forall_mem_cons.2 ⟨Try.func47, (List.forall_mem_cons.2 ⟨Try.func31, (List.forall_mem_cons.2 ⟨Try.func14, (List.forall_mem_cons.2 ⟨Try.func37, (List.forall_mem_cons.2 ⟨Try.func21, (List.forall_mem_cons.2 ⟨Try.func10, (List.forall_mem_cons.2 ⟨Try.func15, (List.forall_mem_cons.2 ⟨Try.func16, (List.forall_mem_cons.2 ⟨Try.func34, (List.forall_mem_cons.2 ⟨Try.func17, (List.forall_mem_cons.2 ⟨Try.func7, (List.forall_mem_cons.2 ⟨Try.func35, (List.forall_mem_cons.2 ⟨Try.func61, (List.forall_mem_cons.2 ⟨Try.func48, (List.forall_mem_cons.2 ⟨Try.func36, (List.forall_mem_cons.2 ⟨Try.func18, (by intro x h; cases h)⟩)⟩)⟩)⟩)⟩)⟩)⟩)⟩)⟩)⟩)⟩)⟩)⟩)⟩)⟩)⟩)⟩)⟩)⟩)⟩)⟩)⟩)⟩)⟩)⟩)⟩)⟩)⟩)⟩)⟩)⟩)⟩)⟩)⟩)⟩)⟩)⟩)⟩)⟩)⟩)⟩)⟩)⟩)⟩)⟩)⟩)⟩)⟩)⟩)⟩)⟩)⟩)⟩)⟩)⟩)⟩)⟩)⟩)⟩)⟩)⟩)⟩)⟩)⟩)⟩)⟩)⟩)⟩)
  (List.forall_mem_cons.2 ⟨clone_ok (t := 22) (te := 26) (b := 4) (e := (.list (.int .i64))) Try.func23 rfl rfl rfl (by kernel_rfl) (by kernel_rfl) ⟨40, by kernel_rfl⟩, (List.forall_mem_cons.2 ⟨clone_ok (t := 26) (te := 3) (b := 4) (e := (.int .i64)) Try.func40 rfl rfl rfl (by kernel_rfl) (by kernel_rfl) ⟨40, by kernel_rfl⟩, (by intro x h; cases h)⟩)⟩)
  (by intro x h; cases h)
  (List.forall_mem_cons.2 ⟨⟨⟨_, Try.func53, by kernel_rfl, rfl⟩, cut_do layDelete⟩, (List.forall_mem_cons.2 ⟨⟨⟨_, Try.func54, by kernel_rfl, rfl⟩, sort_do laySort⟩, (List.forall_mem_cons.2 ⟨⟨⟨_, Try.func68, by kernel_rfl, rfl⟩, sortBy_do laySortBy aggAt sizeAt entersAt cmpAt⟩, (by intro x h; cases h)⟩)⟩)⟩)
theorem mixed : Try.prog.follows .mixedOrders = true := by kernel_rfl
end Go.Proofs.Ytnhbfjegcaflcaa
