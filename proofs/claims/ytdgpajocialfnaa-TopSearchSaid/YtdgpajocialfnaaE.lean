/- The tables of the program, and that they are true. -/
import Derived.Test.YtdgpajocialfnaaS
import Derived.Test.YtdgpajocialfnaaProg
namespace Go.Proofs.Ytdgpajocialfnaa
open Go Go.Proofs.Ytdgpajocialfnaa.R
set_option maxRecDepth 100000
noncomputable def E : Env := ⟨[(2, (.int .i64)), (3, (.int .i64)), (4, .bool), (5, (.int .u8)), (6, (.int .u8)), (7, (.pair (.int .i64) (.pair (.int .i64) (.pair .bool (.int .u8))))), (8, (.pair (.int .i64) (.pair (.int .i64) (.pair .bool (.int .u8))))), (12, (.int .u64)), (21, (.int .i32)), (22, (.list (.list (.int .i64)))), (23, (.list (.int .i64))), (28, (.pair (.int .i64) (.pair (.list (.int .i64)) (.list (.int .i64))))), (29, (.pair (.int .i64) (.pair (.list (.int .i64)) (.list (.int .i64))))), (30, (.int .i64)), (40, (.list (.pair (.int .i64) (.int .i64)))), (41, (.list (.pair (.int .i64) (.int .i64)))), (42, (.pair (.int .i64) (.pair (.list (.pair (.int .i64) (.int .i64))) (.pair (.list (.pair (.int .i64) (.int .i64))) (.pair (.list (.int .i64)) (.list (.int .i64))))))), (43, (.pair (.int .i64) (.pair (.list (.pair (.int .i64) (.int .i64))) (.pair (.list (.pair (.int .i64) (.int .i64))) (.pair (.list (.int .i64)) (.list (.int .i64))))))), (45, (.pair (.int .i64) (.pair (.list (.list (.int .i64))) (.list (.list (.int .i64)))))), (46, (.pair (.int .i64) (.pair (.list (.list (.int .i64))) (.list (.list (.int .i64)))))), (52, (.pair (.int .i64) (.int .i64))), (53, (.pair (.int .i64) (.int .i64))), (54, (.pair (.int .i64) (.int .i64))), (55, (.pair (.int .i64) (.int .i64))), (56, (.list (.pair (.int .i64) (.pair (.list (.list (.int .i64))) (.list (.list (.int .i64))))))), (59, (.list .bool)), (79, (.list (.int .u8))), (117, (.list (.pair (.int .i64) (.int .i64)))), (121, (.pair (.int .i64) (.int .i64))), (122, (.pair (.int .i64) (.int .i64))), (129, (.int .u64)), (142, (.int .i64)), (150, (.int .u32)), (152, (.int .u64)), (157, (.int .u64)), (180, (.int .u8)), (181, (.int .u8)), (184, (.int .i32)), (185, (.int .i32))],
  [(7, (4, [(0, 2), (1, 3), (2, 4), (3, 6)])), (8, (4, [(0, 2), (1, 3), (2, 4), (3, 6)])), (28, (3, [(0, 3), (1, 23), (2, 23)])), (29, (3, [(0, 3), (1, 23), (2, 23)])), (42, (5, [(0, 3), (1, 40), (2, 41), (3, 23), (4, 23)])), (43, (5, [(0, 3), (1, 40), (2, 41), (3, 23), (4, 23)])), (45, (3, [(0, 3), (1, 22), (2, 22)])), (46, (3, [(0, 3), (1, 22), (2, 22)])), (52, (2, [(0, 3), (1, 3)])), (53, (2, [(0, 3), (1, 3)])), (54, (2, [(0, 3), (1, 3)])), (55, (2, [(0, 3), (1, 3)])), (121, (2, [(0, 3), (1, 3)])), (122, (2, [(0, 3), (1, 3)]))],
  [(124, (4, (.int .i64))), (130, (2, (.int .i64))), (133, (4001, .bool))],
  [(1, ()), (15, ()), (16, ()), (17, ()), (24, ()), (25, ()), (26, ()), (27, ()), (32, ()), (33, ()), (34, ()), (36, ()), (37, ()), (38, ()), (39, ()), (44, ()), (48, ()), (49, ()), (50, ()), (51, ()), (57, ()), (58, ()), (61, ()), (62, ()), (64, ()), (65, ()), (67, ()), (68, ()), (69, ()), (70, ()), (71, ()), (73, ()), (75, ()), (76, ()), (77, ()), (78, ()), (80, ()), (82, ()), (83, ()), (84, ()), (85, ()), (87, ()), (89, ()), (90, ()), (91, ()), (92, ()), (93, ()), (94, ()), (95, ()), (96, ()), (97, ()), (98, ()), (99, ()), (101, ()), (102, ()), (103, ()), (104, ()), (105, ()), (106, ()), (107, ()), (108, ()), (109, ()), (110, ()), (111, ()), (113, ()), (114, ()), (116, ()), (119, ()), (120, ()), (123, ()), (125, ()), (127, ()), (128, ()), (131, ()), (132, ()), (134, ()), (135, ()), (136, ()), (137, ()), (138, ()), (139, ()), (140, ()), (141, ()), (144, ()), (145, ()), (146, ()), (148, ()), (149, ()), (151, ()), (153, ()), (154, ()), (155, ()), (156, ()), (158, ()), (159, ()), (160, ()), (161, ()), (162, ()), (163, ()), (164, ()), (165, ()), (166, ()), (167, ()), (168, ()), (169, ()), (170, ()), (171, ()), (172, ()), (173, ()), (179, ()), (182, ()), (183, ())],
  [(74, ([.ro, .ro], [(.d .bool)])), (37, ([.ro], [(.d (.int .i64))])), (75, ([.ro, .ro], [(.d .bool)])), (38, ([.ro, .ro], [(.d (.int .i64))])), (65, ([.ro, .ro, .ro], [(.d (.int .i64))])), (39, ([.ro], [(.own (.int .i64))])), (40, ([.ro], [(.own (.int .u8))])), (76, ([.ro, .ro], [(.d (.int .u8)), (.d (.int .i64))])), (41, ([.ro, .ro], [(.d (.int .i64)), (.d (.int .i64))])), (15, ([.ro, .ro], [(.agg (.d (.int .i64)) (.agg (.own (.int .i64)) (.own (.int .i64)))), (.d (.int .i64)), (.d (.int .i64))])), (66, ([.ro, .ro, .ro], [(.d .bool)])), (67, ([.ro, .ro], [(.d (.int .i64))])), (31, ([.ro, .ro, .ro], [(.own (.int .i64)), (.d (.int .i64))])), (32, ([.ro, .ro], [(.d .bool)])), (8, ([], [(.d .bool)])), (9, ([.ro, .ro], [(.d .bool)])), (10, ([.ro], [(.d .bool)])), (42, ([.ro, .ro], [(.d .bool)])), (69, ([.ro, .ro], [(.d .bool)])), (33, ([.ro, .ro], [(.d (.int .i64))])), (11, ([.ro, .ro], [(.d (.int .i64))])), (12, ([.ro], [(.agg (.d (.int .i64)) (.agg (.own (.int .i64)) (.own (.int .i64)))), (.d (.int .i64))])), (70, ([.ro], [(.d (.int .i64))])), (71, ([.mv (.own (.int .i64))], [(.d (.int .i64)), (.own (.int .i64))])), (34, ([.ro, .ro], [(.d (.int .i64)), (.own (.int .i64)), (.d (.int .i64))])), (72, ([.ro, .ro], [(.d (.int .i64))])), (73, ([.ro, .ro], [(.d .bool)])), (35, ([.ro, .ro], [(.d (.int .u8)), (.d (.int .i64))])), (13, ([.ro], [(.d .bool)])), (36, ([.ro, .ro], [(.agg (.d (.int .i64)) (.agg (.own (.int .i64)) (.own (.int .i64)))), (.d (.int .i64))])), (14, ([.ro, .ro], [(.agg (.d (.int .i64)) (.agg (.own (.int .i64)) (.own (.int .i64)))), (.d (.int .i64))])), (21, ([.ro], [(.d (.int .i64))])), (43, ([.ro, .ro], [(.d (.int .u8))])), (16, ([.ro], [(.d (.int .i64))])), (44, ([.ro, .ro, .ro], [(.d .bool), (.d (.int .i64))])), (45, ([.ro, .ro], [(.d (.int .u8)), (.d (.int .i64)), (.d (.int .i64))])), (107, ([.ro], [(.d .bool)])), (106, ([.ro, .ro], [(.d (.int .i64))])), (109, ([.ro], [(.d .bool)])), (101, ([.ro, .ro], [(.d .bool)])), (117, ([.ro], [(.d .bool)])), (108, ([.ro, .ro], [(.d (.int .i64)), (.d .bool)])), (86, ([.ro, .ro], [(.d (.int .i64)), (.d (.int .i64))])), (88, ([.ro, .ro], [(.d (.int .i64))])), (87, ([.ro, .ro], [(.d (.int .i64))])), (77, ([.ro, .ro], [(.own (.pair (.int .i64) (.int .i64))), (.d (.int .i64))])), (78, ([.ro], [(.d (.int .i64))])), (46, ([.ro, .ro], [(.d (.int .i64)), (.d (.int .i64))])), (48, ([.ro, .ro], [(.agg (.d (.int .i64)) (.agg (.own (.int .i64)) (.own (.int .i64)))), (.d (.int .i64))])), (79, ([.ro, .ro], [(.agg (.d (.int .i64)) (.agg (.own (.int .i64)) (.own (.int .i64)))), (.d (.int .i64))])), (47, ([.ro, .ro], [(.agg (.d (.int .i64)) (.agg (.own (.int .i64)) (.own (.int .i64)))), (.d (.int .i64))])), (17, ([.ro, .ro], [(.d .bool)])), (3, ([.ro, .ro, .ro], [(.d .bool)])), (49, ([], [(.agg (.d (.int .i64)) (.agg (.own (.pair (.int .i64) (.int .i64))) (.agg (.own (.pair (.int .i64) (.int .i64))) (.agg (.own (.int .i64)) (.own (.int .i64))))))])), (54, ([.ro, .ro], [(.d (.int .i64))])), (82, ([.ro, .ro], [(.own (.int .i64)), (.d .bool), (.d (.int .i64))])), (55, ([.mv (.own (.list (.int .i64))), .ro, .ro], [(.own (.list (.int .i64)))])), (56, ([.ro, .ro], [(.d .bool)])), (22, ([.ro, .ro], [(.d .bool)])), (50, ([.ro], [(.d .bool)])), (25, ([.ro], [(.d (.int .i64))])), (57, ([.ro, .ro], [(.d .bool)])), (24, ([.ro], [(.d (.int .i64))])), (51, ([.ro, .ro], [(.d (.int .i64))])), (19, ([.ro, .ro], [(.d .bool)])), (23, ([.ro], [(.d (.int .i64))])), (83, ([.ro], [(.d (.int .i64))])), (58, ([.ro], [(.d (.int .i64)), (.d .bool), (.d (.int .i64))])), (27, ([.ro, .ro], [(.d (.int .i64))])), (62, ([.ro, .ro], [(.d .bool)])), (29, ([.ro], [(.d (.int .i64))])), (63, ([.ro, .ro], [(.d (.int .i64))])), (64, ([.ro, .ro], [(.d .bool), (.d (.int .i64))])), (30, ([.ro, .ro, .ro], [(.d .bool), (.d (.int .i64))]))],
  [(74, Try.f74), (37, Try.f37), (75, Try.f75), (38, Try.f38), (65, Try.f65), (39, Try.f39), (40, Try.f40), (76, Try.f76), (41, Try.f41), (15, Try.f15), (66, Try.f66), (67, Try.f67), (68, Try.f68), (61, Try.f61), (31, Try.f31), (32, Try.f32), (8, Try.f8), (9, Try.f9), (10, Try.f10), (42, Try.f42), (69, Try.f69), (33, Try.f33), (11, Try.f11), (12, Try.f12), (70, Try.f70), (71, Try.f71), (34, Try.f34), (72, Try.f72), (73, Try.f73), (35, Try.f35), (13, Try.f13), (36, Try.f36), (14, Try.f14), (21, Try.f21), (43, Try.f43), (16, Try.f16), (44, Try.f44), (45, Try.f45), (107, Try.f107), (106, Try.f106), (109, Try.f109), (101, Try.f101), (117, Try.f117), (108, Try.f108), (86, Try.f86), (88, Try.f88), (87, Try.f87), (89, Try.f89), (77, Try.f77), (78, Try.f78), (46, Try.f46), (48, Try.f48), (79, Try.f79), (47, Try.f47), (17, Try.f17), (3, Try.f3), (49, Try.f49), (54, Try.f54), (94, Try.f94), (82, Try.f82), (55, Try.f55), (56, Try.f56), (22, Try.f22), (50, Try.f50), (25, Try.f25), (57, Try.f57), (24, Try.f24), (51, Try.f51), (19, Try.f19), (23, Try.f23), (83, Try.f83), (58, Try.f58), (27, Try.f27), (62, Try.f62), (29, Try.f29), (63, Try.f63), (64, Try.f64), (30, Try.f30)],
  [(39, (.int .i64))],
  [(37, [(5, [1, 3, 21, 22, 23]), (12, [1, 45, 46, 47])]), (38, [(4, [0, 1, 13, 14, 15])]), (65, [(8, [0, 23, 24, 25])]), (40, [(3, [1, 3, 13, 14]), (8, [3, 22, 23, 24])]), (76, [(3, [0, 6, 7, 10, 11, 12])]), (41, [(3, [0, 6, 11, 12, 13])]), (15, [(7, [1, 2, 4, 25, 26, 27]), (15, [1, 4, 11, 12])]), (67, [(2, [0, 1, 7, 8])]), (31, [(8, [0, 1, 9, 31, 32, 33]), (17, [14, 52, 53, 54])]), (32, [(4, [0, 1, 5])]), (9, [(2, [0, 1, 5])]), (69, [(2, [0, 1, 5])]), (11, [(4, [0, 1, 5])]), (70, [(5, [0, 3, 9, 10, 11])]), (71, [(5, [0, 4, 5, 6]), (7, [0, 4, 5, 6, 7, 26])]), (34, [(9, [0, 3, 9, 29, 30, 31]), (14, [3, 9, 12])]), (13, [(3, [1, 3, 4]), (8, [1, 5, 7, 8])]), (43, [(2, [1, 2, 5])]), (16, [(4, [1, 3]), (10, [1, 4, 5])]), (106, [(2, [0, 1, 7, 8])]), (108, [(3, [0, 1, 6, 7, 8])]), (77, [(8, [2, 9, 27, 28, 29])]), (17, [(3, [1, 2, 5, 6])]), (3, [(8, [1, 2, 7, 8, 10])]), (94, [(4, [0, 3]), (9, [0, 3, 4, 5])]), (82, [(4, [0, 1, 16, 17, 18]), (13, [4, 34, 35])]), (55, [(3, [0, 1, 7, 13, 14, 15])]), (56, [(4, [0, 1, 5])]), (57, [(2, [0, 1, 5])]), (24, [(9, [1, 3, 4]), (14, [1, 5])]), (51, [(5, [1, 2, 6])]), (23, [(6, [1, 22, 23, 24]), (11, [1, 22, 23, 24, 47, 48, 49]), (18, [1, 66, 67, 68])]), (83, [(2, [5, 6, 7])]), (29, [(6, [1, 3]), (11, [1, 3, 4])]), (63, [(4, [0, 10, 11, 12])]), (64, [(5, [1, 16, 17, 18])]), (30, [(7, [2, 31, 32, 33])])],
  [],
  [(3, [(12, 10)]), (15, [(13, 10)]), (16, [(6, 20), (12, 16)]), (17, [(5, 11)]), (29, [(8, 25)]), (32, [(6, 8)]), (36, [(6, 7), (7, 17)]), (43, [(6, 7)]), (47, [(4, 10), (6, 8), (9, 8)]), (48, [(9, 12)]), (51, [(7, 14)]), (56, [(6, 8)]), (69, [(4, 47)]), (71, [(10, 12), (15, 13)]), (82, [(15, 14)])],
  [],
  [(68, .cut (.int .i64)), (61, .inplace (.int .i64) sortI none), (89, .inplace (.pair (.int .i64) (.int .i64)) sortAt (some 87)), (94, .take (.int .i64) Lib.compact)]⟩
noncomputable def b74 : Code := (Try.f74.body).getD .skip
noncomputable def b37 : Code := (Try.f37.body).getD .skip
noncomputable def b75 : Code := (Try.f75.body).getD .skip
noncomputable def b38 : Code := (Try.f38.body).getD .skip
noncomputable def b65 : Code := (Try.f65.body).getD .skip
noncomputable def b39 : Code := (Try.f39.body).getD .skip
noncomputable def b40 : Code := (Try.f40.body).getD .skip
noncomputable def b76 : Code := (Try.f76.body).getD .skip
noncomputable def b41 : Code := (Try.f41.body).getD .skip
noncomputable def b15 : Code := (Try.f15.body).getD .skip
noncomputable def b66 : Code := (Try.f66.body).getD .skip
noncomputable def b67 : Code := (Try.f67.body).getD .skip
noncomputable def b68 : Code := (Try.f68.body).getD .skip
noncomputable def b61 : Code := (Try.f61.body).getD .skip
noncomputable def b31 : Code := (Try.f31.body).getD .skip
noncomputable def b32 : Code := (Try.f32.body).getD .skip
noncomputable def b8 : Code := (Try.f8.body).getD .skip
noncomputable def b9 : Code := (Try.f9.body).getD .skip
noncomputable def b10 : Code := (Try.f10.body).getD .skip
noncomputable def b42 : Code := (Try.f42.body).getD .skip
noncomputable def b69 : Code := (Try.f69.body).getD .skip
noncomputable def b33 : Code := (Try.f33.body).getD .skip
noncomputable def b11 : Code := (Try.f11.body).getD .skip
noncomputable def b12 : Code := (Try.f12.body).getD .skip
noncomputable def b70 : Code := (Try.f70.body).getD .skip
noncomputable def b71 : Code := (Try.f71.body).getD .skip
noncomputable def b34 : Code := (Try.f34.body).getD .skip
noncomputable def b72 : Code := (Try.f72.body).getD .skip
noncomputable def b73 : Code := (Try.f73.body).getD .skip
noncomputable def b35 : Code := (Try.f35.body).getD .skip
noncomputable def b13 : Code := (Try.f13.body).getD .skip
noncomputable def b36 : Code := (Try.f36.body).getD .skip
noncomputable def b14 : Code := (Try.f14.body).getD .skip
noncomputable def b21 : Code := (Try.f21.body).getD .skip
noncomputable def b43 : Code := (Try.f43.body).getD .skip
noncomputable def b16 : Code := (Try.f16.body).getD .skip
noncomputable def b44 : Code := (Try.f44.body).getD .skip
noncomputable def b45 : Code := (Try.f45.body).getD .skip
noncomputable def b107 : Code := (Try.f107.body).getD .skip
noncomputable def b106 : Code := (Try.f106.body).getD .skip
noncomputable def b109 : Code := (Try.f109.body).getD .skip
noncomputable def b101 : Code := (Try.f101.body).getD .skip
noncomputable def b117 : Code := (Try.f117.body).getD .skip
noncomputable def b108 : Code := (Try.f108.body).getD .skip
noncomputable def b86 : Code := (Try.f86.body).getD .skip
noncomputable def b88 : Code := (Try.f88.body).getD .skip
noncomputable def b87 : Code := (Try.f87.body).getD .skip
noncomputable def b89 : Code := (Try.f89.body).getD .skip
noncomputable def b77 : Code := (Try.f77.body).getD .skip
noncomputable def b78 : Code := (Try.f78.body).getD .skip
noncomputable def b46 : Code := (Try.f46.body).getD .skip
noncomputable def b48 : Code := (Try.f48.body).getD .skip
noncomputable def b79 : Code := (Try.f79.body).getD .skip
noncomputable def b47 : Code := (Try.f47.body).getD .skip
noncomputable def b17 : Code := (Try.f17.body).getD .skip
noncomputable def b3 : Code := (Try.f3.body).getD .skip
noncomputable def b49 : Code := (Try.f49.body).getD .skip
noncomputable def b54 : Code := (Try.f54.body).getD .skip
noncomputable def b94 : Code := (Try.f94.body).getD .skip
noncomputable def b82 : Code := (Try.f82.body).getD .skip
noncomputable def b55 : Code := (Try.f55.body).getD .skip
noncomputable def b56 : Code := (Try.f56.body).getD .skip
noncomputable def b22 : Code := (Try.f22.body).getD .skip
noncomputable def b50 : Code := (Try.f50.body).getD .skip
noncomputable def b25 : Code := (Try.f25.body).getD .skip
noncomputable def b57 : Code := (Try.f57.body).getD .skip
noncomputable def b24 : Code := (Try.f24.body).getD .skip
noncomputable def b51 : Code := (Try.f51.body).getD .skip
noncomputable def b19 : Code := (Try.f19.body).getD .skip
noncomputable def b23 : Code := (Try.f23.body).getD .skip
noncomputable def b83 : Code := (Try.f83.body).getD .skip
noncomputable def b58 : Code := (Try.f58.body).getD .skip
noncomputable def b27 : Code := (Try.f27.body).getD .skip
noncomputable def b62 : Code := (Try.f62.body).getD .skip
noncomputable def b29 : Code := (Try.f29.body).getD .skip
noncomputable def b63 : Code := (Try.f63.body).getD .skip
noncomputable def b64 : Code := (Try.f64.body).getD .skip
noncomputable def b30 : Code := (Try.f30.body).getD .skip
theorem e_ok : AllOk Try.prog E := allOk (by kernel_rfl) (by kernel_rfl) (by kernel_rfl) (by kernel_rfl) (by kernel_rfl)
  (List.forall_mem_cons.2 ⟨Try.func74, (List.forall_mem_cons.2 ⟨Try.func37, (List.forall_mem_cons.2 ⟨Try.func75, (List.forall_mem_cons.2 ⟨Try.func38, (List.forall_mem_cons.2 ⟨Try.func65, (List.forall_mem_cons.2 ⟨Try.func39, (List.forall_mem_cons.2 ⟨Try.func40, (List.forall_mem_cons.2 ⟨Try.func76, (List.forall_mem_cons.2 ⟨Try.func41, (List.forall_mem_cons.2 ⟨Try.func15, (List.forall_mem_cons.2 ⟨Try.func66, (List.forall_mem_cons.2 ⟨Try.func67, (List.forall_mem_cons.2 ⟨Try.func68, (List.forall_mem_cons.2 ⟨Try.func61, (List.forall_mem_cons.2 ⟨Try.func31, (List.forall_mem_cons.2 ⟨Try.func32, (List.forall_mem_cons.2 ⟨Try.func8, (List.forall_mem_cons.2 ⟨Try.func9, (List.forall_mem_cons.2 ⟨Try.func10, (List.forall_mem_cons.2 ⟨Try.func42, (List.forall_mem_cons.2 ⟨Try.func69, (List.forall_mem_cons.2 ⟨Try.func33, (List.forall_mem_cons.2 ⟨Try.func11, (List.forall_mem_cons.2 ⟨Try.func12, (List.forall_mem_cons.2 ⟨Try.func70, (List.forall_mem_cons.2 ⟨Try.func71, (List.forall_mem_cons.2 ⟨Try.func34, (List.forall_mem_cons.2 ⟨Try.func72, (List.forall_mem_cons.2 ⟨Try.func73, (List.forall_mem_cons.2 ⟨Try.func35, (List.forall_mem_cons.2 ⟨Try.func13, (List.forall_mem_cons.2 ⟨Try.func36, (List.forall_mem_cons.2 ⟨Try.func14, (List.forall_mem_cons.2 ⟨Try.func21, (List.forall_mem_cons.2 ⟨Try.func43, (List.forall_mem_cons.2 ⟨Try.func16, (List.forall_mem_cons.2 ⟨Try.func44, (List.forall_mem_cons.2 ⟨Try.func45, (List.forall_mem_cons.2 ⟨Try.func107, (List.forall_mem_cons.2 ⟨Try.func106, (List.forall_mem_cons.2 ⟨Try.func109, (List.forall_mem_cons.2 ⟨Try.func101, (List.forall_mem_cons.2 ⟨Try.func117, (List.forall_mem_cons.2 ⟨Try.func108, (List.forall_mem_cons.2 ⟨Try.func86, (List.forall_mem_cons.2 ⟨Try.func88, (List.forall_mem_cons.2 ⟨Try.func87, (List.forall_mem_cons.2 ⟨Try.func89, (List.forall_mem_cons.2 ⟨Try.func77, (List.forall_mem_cons.2 ⟨Try.func78, (List.forall_mem_cons.2 ⟨Try.func46, (List.forall_mem_cons.2 ⟨Try.func48, (List.forall_mem_cons.2 ⟨Try.func79, (List.forall_mem_cons.2 ⟨Try.func47, (List.forall_mem_cons.2 ⟨Try.func17, (List.forall_mem_cons.2 ⟨Try.func3, (List.forall_mem_cons.2 ⟨Try.func49, (List.forall_mem_cons.2 ⟨Try.func54, (List.forall_mem_cons.2 ⟨Try.func94, (List.forall_mem_cons.2 ⟨Try.func82, (List.forall_mem_cons.2 ⟨Try.func55, (List.forall_mem_cons.2 ⟨Try.func56, (List.forall_mem_cons.2 ⟨Try.func22, (List.forall_mem_cons.2 ⟨Try.func50, (List.forall_mem_cons.2 ⟨Try.func25, (List.forall_mem_cons.2 ⟨Try.func57, (List.forall_mem_cons.2 ⟨Try.func24, (List.forall_mem_cons.2 ⟨Try.func51, (List.forall_mem_cons.2 ⟨Try.func19, (List.forall_mem_cons.2 ⟨Try.func23, (List.forall_mem_cons.2 ⟨Try.func83, (List.forall_mem_cons.2 ⟨Try.func58, (List.forall_mem_cons.2 ⟨Try.func27, (List.forall_mem_cons.2 ⟨Try.func62, (List.forall_mem_cons.2 ⟨Try.func29, (List.forall_mem_cons.2 ⟨Try.func63, (List.forall_mem_cons.2 ⟨Try.func64, (List.forall_mem_cons.2 ⟨Try.func30, (by intro x h; cases h)⟩)⟩)⟩)⟩)⟩)⟩)⟩)⟩)⟩)⟩)⟩)⟩)⟩)⟩)⟩)⟩)⟩)⟩)⟩)⟩)⟩)⟩)⟩)⟩)⟩)⟩)⟩)⟩)⟩)⟩)⟩)⟩)⟩)⟩)⟩)⟩)⟩)⟩)⟩)⟩)⟩)⟩)⟩)⟩)⟩)⟩)⟩)⟩)⟩)⟩)⟩)⟩)⟩)⟩)⟩)⟩)⟩)⟩)⟩)⟩)⟩)⟩)⟩)⟩)⟩)⟩)⟩)⟩)⟩)⟩)⟩)⟩)⟩)⟩)⟩)⟩)⟩)⟩)
  (List.forall_mem_cons.2 ⟨clone_ok (t := 23) (te := 3) (b := 4) (e := (.int .i64)) Try.func39 rfl rfl rfl (by kernel_rfl) (by kernel_rfl) ⟨40, by kernel_rfl⟩, (by intro x h; cases h)⟩)
  (by intro x h; cases h)
  (List.forall_mem_cons.2 ⟨⟨⟨_, Try.func68, by kernel_rfl, rfl⟩, cut_do layDelete⟩, (List.forall_mem_cons.2 ⟨⟨⟨_, Try.func61, by kernel_rfl, rfl⟩, sort_do laySort⟩, (List.forall_mem_cons.2 ⟨⟨⟨_, Try.func89, by kernel_rfl, rfl⟩, sortBy_do laySortBy aggAt sizeAt entersAt cmpAt⟩, (List.forall_mem_cons.2 ⟨⟨⟨_, Try.func94, by kernel_rfl, rfl⟩, compact_do layCompact⟩, (by intro x h; cases h)⟩)⟩)⟩)⟩)
theorem mixed : Try.prog.follows .mixedOrders = true := by kernel_rfl
end Go.Proofs.Ytdgpajocialfnaa
