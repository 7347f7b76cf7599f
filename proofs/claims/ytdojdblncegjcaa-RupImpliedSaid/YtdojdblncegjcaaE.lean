/- The tables of the program, and that they are true. -/
import Derived.Test.YtdojdblncegjcaaS
import Derived.Test.YtdojdblncegjcaaProg
namespace Go.Proofs.Ytdojdblncegjcaa
open Go Go.Proofs.Ytdojdblncegjcaa.R
set_option maxRecDepth 100000
noncomputable def E : Env := ⟨[(2, (.int .i64)), (3, (.int .i64)), (4, .bool), (5, (.int .u8)), (6, (.int .u8)), (7, (.pair (.int .i64) (.pair (.int .i64) (.pair .bool (.int .u8))))), (8, (.pair (.int .i64) (.pair (.int .i64) (.pair .bool (.int .u8))))), (12, (.int .u64)), (21, (.int .i32)), (22, (.list (.list (.int .i64)))), (23, (.list (.int .i64))), (25, (.int .i64)), (38, (.int .u64)), (39, (.list .bool)), (43, (.pair (.int .i64) (.pair (.list (.int .i64)) (.list (.int .i64))))), (44, (.pair (.int .i64) (.pair (.list (.int .i64)) (.list (.int .i64))))), (82, (.list (.pair (.int .i64) (.int .i64)))), (87, (.pair (.int .i64) (.int .i64))), (88, (.pair (.int .i64) (.int .i64))), (97, (.list (.int .u8))), (106, (.list (.list (.list (.int .i64))))), (122, (.int .i64)), (129, (.int .u32)), (131, (.int .u64)), (140, (.int .u64)), (159, (.int .u8)), (160, (.int .u8)), (163, (.int .i32)), (164, (.int .i32))],
  [(7, (4, [(0, 2), (1, 3), (2, 4), (3, 6)])), (8, (4, [(0, 2), (1, 3), (2, 4), (3, 6)])), (43, (3, [(0, 3), (1, 23), (2, 23)])), (44, (3, [(0, 3), (1, 23), (2, 23)])), (87, (2, [(0, 3), (1, 3)])), (88, (2, [(0, 3), (1, 3)]))],
  [],
  [(1, ()), (15, ()), (16, ()), (17, ()), (24, ()), (27, ()), (29, ()), (31, ()), (33, ()), (34, ()), (35, ()), (36, ()), (37, ()), (40, ()), (41, ()), (42, ()), (45, ()), (46, ()), (47, ()), (48, ()), (50, ()), (52, ()), (53, ()), (54, ()), (55, ()), (56, ()), (57, ()), (59, ()), (60, ()), (61, ()), (62, ()), (63, ()), (64, ()), (65, ()), (66, ()), (68, ()), (69, ()), (70, ()), (71, ()), (72, ()), (73, ()), (74, ()), (75, ()), (76, ()), (77, ()), (78, ()), (79, ()), (80, ()), (81, ()), (84, ()), (85, ()), (86, ()), (89, ()), (90, ()), (91, ()), (92, ()), (93, ()), (94, ()), (96, ()), (98, ()), (99, ()), (100, ()), (102, ()), (103, ()), (104, ()), (105, ()), (107, ()), (108, ()), (109, ()), (110, ()), (111, ()), (112, ()), (113, ()), (114, ()), (115, ()), (116, ()), (117, ()), (119, ()), (120, ()), (121, ()), (124, ()), (125, ()), (126, ()), (127, ()), (128, ()), (130, ()), (133, ()), (134, ()), (135, ()), (136, ()), (137, ()), (138, ()), (139, ()), (141, ()), (142, ()), (143, ()), (144, ()), (145, ()), (146, ()), (147, ()), (148, ()), (149, ()), (150, ()), (151, ()), (152, ()), (158, ()), (161, ()), (162, ())],
  [(45, ([.ro, .ro], [(.d .bool)])), (14, ([.ro, .ro, .ro], [(.d .bool)])), (84, ([.ro, .ro], [(.own (.list (.int .i64)))])), (51, ([.ro], [(.own (.list (.int .i64)))])), (78, ([.ro, .ro], [(.d .bool)])), (47, ([.ro, .ro], [(.d (.int .i64))])), (46, ([.ro, .ro, .ro], [(.d (.int .i64))])), (92, ([.ro, .ro], [(.d .bool)])), (68, ([.ro], [(.d (.int .i64))])), (97, ([.ro, .ro, .ro], [(.d (.int .i64))])), (69, ([.ro], [(.own (.int .i64))])), (71, ([.ro], [(.own (.int .u8))])), (70, ([.ro, .ro], [(.d (.int .u8)), (.d (.int .i64))])), (128, ([.ro, .ro], [(.d (.int .i64)), (.d (.int .i64))])), (113, ([.ro, .ro], [(.agg (.d (.int .i64)) (.agg (.own (.int .i64)) (.own (.int .i64)))), (.d (.int .i64)), (.d (.int .i64))])), (98, ([.ro, .ro, .ro], [(.d .bool)])), (82, ([.ro, .ro, .ro], [(.d .bool), (.d (.int .i64))])), (48, ([.ro, .ro, .ro], [(.d .bool), (.d (.int .i64))])), (15, ([.ro, .ro, .ro], [(.d .bool), (.d (.int .i64))])), (54, ([.ro], [(.d .bool)])), (66, ([.ro, .ro], [(.d .bool)])), (49, ([.ro, .ro], [(.d .bool)])), (21, ([.ro, .ro], [(.d (.int .i64))])), (55, ([.ro, .ro], [(.d (.int .i64))])), (20, ([.ro, .ro, .ro], [(.d (.int .i64))])), (41, ([.ro], [(.d (.int .i64))])), (77, ([.ro, .ro], [(.d .bool)])), (99, ([.ro, .ro], [(.own (.int .i64)), (.d .bool)])), (83, ([.ro, .ro], [(.d .bool)])), (50, ([.ro, .ro], [(.d .bool)])), (16, ([.ro, .ro, .ro], [(.d .bool), (.d (.int .i64))])), (17, ([.ro, .ro, .ro], [(.d (.int .i64)), (.d (.int .i64))])), (18, ([.ro, .ro, .ro], [(.d (.int .i64)), (.d (.int .i64))])), (3, ([.ro, .ro, .ro, .ro], [(.d .bool)])), (52, ([], [(.own (.list (.int .i64)))])), (53, ([.ro], [(.d .bool)])), (19, ([], [(.d .bool)])), (4, ([], [(.d .bool)])), (5, ([.ro, .ro, .ro, .ro], [(.d .bool)])), (22, ([.ro, .ro], [(.own .bool)])), (85, ([.ro, .ro], [(.d .bool)])), (56, ([.ro, .ro], [(.d .bool)])), (23, ([.ro, .ro], [(.d .bool)])), (24, ([.ro, .ro], [(.d .bool), (.d (.int .i64))])), (6, ([.ro, .ro, .ro, .ro], [(.d .bool)])), (25, ([.ro], [(.d .bool)])), (26, ([.ro], [(.agg (.d (.int .i64)) (.agg (.own (.int .i64)) (.own (.int .i64))))])), (37, ([.ro, .ro], [(.d (.int .u8)), (.d (.int .i64)), (.d (.int .i64))])), (72, ([.ro, .ro], [(.d (.int .i64))])), (74, ([.ro], [(.d .bool)])), (73, ([.ro, .ro], [(.d (.int .i64))])), (100, ([.ro], [(.d .bool)])), (93, ([.ro, .ro], [(.d .bool)])), (94, ([.ro], [(.d .bool)])), (75, ([.ro, .ro], [(.d (.int .i64)), (.d .bool)])), (38, ([.ro, .ro], [(.d (.int .i64)), (.d (.int .i64))])), (87, ([.ro, .ro], [(.d (.int .i64))])), (86, ([.ro, .ro], [(.d (.int .i64))])), (57, ([.ro, .ro], [(.own (.pair (.int .i64) (.int .i64))), (.d (.int .i64))])), (58, ([.ro], [(.d (.int .i64))])), (27, ([.ro, .ro], [(.d (.int .i64)), (.d (.int .i64))])), (67, ([.ro, .ro], [(.d (.int .u8))])), (35, ([.ro], [(.d (.int .i64))])), (89, ([.ro, .ro], [(.d (.int .u8)), (.d (.int .i64))])), (59, ([.ro, .ro], [(.d (.int .i64))])), (76, ([.ro, .ro], [(.d (.int .i64))])), (40, ([.ro, .ro], [(.d (.int .i64))])), (90, ([.ro, .ro, .ro], [(.d (.int .i64))])), (60, ([.ro, .ro], [(.d (.int .i64))])), (28, ([.ro, .ro], [(.d (.int .i64)), (.d (.int .i64))])), (36, ([.ro, .ro], [(.agg (.d (.int .i64)) (.agg (.own (.int .i64)) (.own (.int .i64)))), (.d (.int .i64))])), (122, ([.ro, .ro], [(.d (.int .i64))])), (102, ([.ro, .ro], [(.d .bool)])), (91, ([.ro, .ro], [(.agg (.d (.int .i64)) (.agg (.own (.int .i64)) (.own (.int .i64)))), (.d (.int .i64))])), (61, ([.ro, .ro], [(.agg (.d (.int .i64)) (.agg (.own (.int .i64)) (.own (.int .i64)))), (.d (.int .i64))])), (29, ([.ro, .ro], [(.agg (.d (.int .i64)) (.agg (.own (.int .i64)) (.own (.int .i64)))), (.d (.int .i64))])), (62, ([.ro, .ro], [(.d (.int .i64))])), (64, ([.ro, .ro], [(.agg (.d (.int .i64)) (.agg (.own (.int .i64)) (.own (.int .i64))))])), (63, ([.ro, .ro, .ro], [(.agg (.d (.int .i64)) (.agg (.own (.int .i64)) (.own (.int .i64))))])), (30, ([.ro, .ro], [(.agg (.d (.int .i64)) (.agg (.own (.int .i64)) (.own (.int .i64)))), (.d (.int .i64))])), (39, ([.ro, .ro], [(.d .bool)])), (31, ([.ro, .ro], [(.d .bool)])), (7, ([.ro, .ro], [(.d .bool)])), (32, ([], [(.agg (.d (.int .i64)) (.agg (.own (.int .i64)) (.own (.int .i64))))])), (65, ([.ro, .ro, .ro], [(.d .bool)])), (33, ([], [(.d .bool)])), (8, ([], [(.d .bool)])), (34, ([.ro, .ro], [(.d .bool)])), (9, ([.ro, .ro], [(.d .bool)])), (10, ([.ro, .ro, .ro], [(.d .bool)])), (11, ([.ro, .ro], [(.d .bool)])), (42, ([.ro], [(.own (.int .i64))])), (12, ([.ro, .ro], [(.d .bool)])), (43, ([.ro, .ro], [(.own (.int .i64)), (.d .bool), (.d (.int .i64))])), (81, ([.ro, .ro, .ro], [(.d (.int .i64))])), (44, ([.ro, .ro, .ro], [(.d .bool), (.d (.int .i64))])), (13, ([.ro, .ro, .ro, .ro], [(.d .bool)]))],
  [(45, Try.f45), (14, Try.f14), (84, Try.f84), (51, Try.f51), (78, Try.f78), (47, Try.f47), (46, Try.f46), (92, Try.f92), (68, Try.f68), (97, Try.f97), (69, Try.f69), (71, Try.f71), (70, Try.f70), (128, Try.f128), (113, Try.f113), (98, Try.f98), (82, Try.f82), (48, Try.f48), (15, Try.f15), (54, Try.f54), (66, Try.f66), (49, Try.f49), (21, Try.f21), (55, Try.f55), (20, Try.f20), (41, Try.f41), (77, Try.f77), (99, Try.f99), (83, Try.f83), (50, Try.f50), (16, Try.f16), (17, Try.f17), (18, Try.f18), (3, Try.f3), (52, Try.f52), (53, Try.f53), (19, Try.f19), (4, Try.f4), (5, Try.f5), (22, Try.f22), (85, Try.f85), (56, Try.f56), (23, Try.f23), (24, Try.f24), (6, Try.f6), (25, Try.f25), (26, Try.f26), (37, Try.f37), (72, Try.f72), (74, Try.f74), (73, Try.f73), (100, Try.f100), (93, Try.f93), (94, Try.f94), (75, Try.f75), (38, Try.f38), (87, Try.f87), (86, Try.f86), (88, Try.f88), (57, Try.f57), (58, Try.f58), (27, Try.f27), (67, Try.f67), (35, Try.f35), (89, Try.f89), (59, Try.f59), (76, Try.f76), (40, Try.f40), (90, Try.f90), (60, Try.f60), (28, Try.f28), (36, Try.f36), (122, Try.f122), (102, Try.f102), (91, Try.f91), (61, Try.f61), (29, Try.f29), (62, Try.f62), (64, Try.f64), (63, Try.f63), (30, Try.f30), (39, Try.f39), (31, Try.f31), (7, Try.f7), (32, Try.f32), (65, Try.f65), (33, Try.f33), (8, Try.f8), (34, Try.f34), (9, Try.f9), (10, Try.f10), (11, Try.f11), (42, Try.f42), (12, Try.f12), (79, Try.f79), (80, Try.f80), (43, Try.f43), (81, Try.f81), (44, Try.f44), (13, Try.f13)],
  [(69, (.int .i64))],
  [(45, [(2, [0, 1, 5])]), (51, [(3, [0, 3, 9, 10, 11]), (11, [6, 25, 26, 27])]), (47, [(4, [0, 1, 13, 14, 15])]), (46, [(6, [0, 24, 25, 26])]), (68, [(5, [1, 3, 21, 22, 23]), (12, [1, 45, 46, 47])]), (97, [(8, [0, 23, 24, 25])]), (71, [(3, [1, 3, 13, 14]), (8, [3, 22, 23, 24])]), (70, [(3, [0, 6, 7, 10, 11, 12])]), (128, [(3, [0, 6, 11, 12, 13])]), (113, [(7, [1, 2, 4, 25, 26, 27]), (15, [1, 4, 11, 12])]), (48, [(3, [0, 1, 8, 11, 12, 13])]), (49, [(2, [0, 1, 5])]), (55, [(4, [0, 1, 5])]), (77, [(2, [0, 1, 5])]), (99, [(2, [0, 6]), (4, [0, 6, 7, 8]), (9, [0, 6, 7, 8, 9, 10, 11])]), (50, [(3, [0, 1, 5, 6])]), (17, [(6, [0, 1, 9, 25, 26, 27])]), (18, [(6, [2, 9, 10])]), (5, [(6, [0, 1, 2, 3, 9, 10, 11])]), (22, [(3, [1, 5, 6])]), (56, [(2, [0, 1, 5])]), (23, [(2, [0, 1, 5])]), (24, [(5, [1, 16, 17, 18])]), (6, [(12, [0, 1, 2, 3, 9, 10, 14, 15]), (21, [0, 1, 2, 3, 9, 10, 14, 15, 16, 19])]), (73, [(2, [0, 1, 7, 8])]), (75, [(3, [0, 1, 6, 7, 8])]), (57, [(8, [2, 9, 27, 28, 29])]), (67, [(2, [1, 2, 5])]), (35, [(4, [1, 3]), (10, [1, 4, 5])]), (89, [(3, [1, 2, 6, 7])]), (76, [(3, [1, 2, 5, 6])]), (40, [(2, [1, 2, 5])]), (90, [(3, [1, 2, 3, 7, 8])]), (60, [(2, [1, 2, 5])]), (122, [(2, [0, 1, 7, 8])]), (62, [(3, [1, 2, 5, 6, 7])]), (64, [(3, [1, 2, 4, 5, 6])]), (39, [(4, [0, 1, 5])]), (10, [(10, [1, 2, 3, 7, 8, 12, 13])]), (11, [(8, [1, 2, 5, 6, 7, 9, 10, 11, 12])]), (42, [(3, [0, 3, 4]), (8, [0, 3, 4, 5])]), (12, [(7, [1, 2, 5, 6, 7, 8, 9, 10])]), (80, [(4, [0, 3]), (9, [0, 3, 4, 5])]), (43, [(4, [0, 1, 16, 17, 18]), (13, [4, 34, 35])]), (44, [(5, [2, 20, 21, 22])])],
  [],
  [(4, [(5, 8)]), (9, [(16, 54)]), (10, [(12, 7)]), (11, [(10, 9)]), (12, [(10, 7)]), (26, [(1, 10)]), (29, [(4, 10), (6, 8), (9, 8)]), (30, [(6, 7)]), (35, [(6, 20), (12, 16)]), (36, [(9, 12)]), (39, [(6, 8)]), (42, [(8, 12), (10, 15)]), (43, [(15, 14)]), (49, [(4, 47)]), (62, [(5, 7)]), (64, [(1, 10), (6, 8)]), (67, [(6, 7)]), (89, [(5, 5), (13, 4)]), (90, [(5, 7)]), (91, [(6, 7), (7, 17)]), (113, [(13, 10)])],
  [(84, (.list (.int .i64)))],
  [(88, .inplace (.pair (.int .i64) (.int .i64)) sortAt (some 86)), (79, .inplace (.int .i64) sortI none), (80, .take (.int .i64) Lib.compact)]⟩
noncomputable def b45 : Code := (Try.f45.body).getD .skip
noncomputable def b14 : Code := (Try.f14.body).getD .skip
noncomputable def b84 : Code := (Try.f84.body).getD .skip
noncomputable def b51 : Code := (Try.f51.body).getD .skip
noncomputable def b78 : Code := (Try.f78.body).getD .skip
noncomputable def b47 : Code := (Try.f47.body).getD .skip
noncomputable def b46 : Code := (Try.f46.body).getD .skip
noncomputable def b92 : Code := (Try.f92.body).getD .skip
noncomputable def b68 : Code := (Try.f68.body).getD .skip
noncomputable def b97 : Code := (Try.f97.body).getD .skip
noncomputable def b69 : Code := (Try.f69.body).getD .skip
noncomputable def b71 : Code := (Try.f71.body).getD .skip
noncomputable def b70 : Code := (Try.f70.body).getD .skip
noncomputable def b128 : Code := (Try.f128.body).getD .skip
noncomputable def b113 : Code := (Try.f113.body).getD .skip
noncomputable def b98 : Code := (Try.f98.body).getD .skip
noncomputable def b82 : Code := (Try.f82.body).getD .skip
noncomputable def b48 : Code := (Try.f48.body).getD .skip
noncomputable def b15 : Code := (Try.f15.body).getD .skip
noncomputable def b54 : Code := (Try.f54.body).getD .skip
noncomputable def b66 : Code := (Try.f66.body).getD .skip
noncomputable def b49 : Code := (Try.f49.body).getD .skip
noncomputable def b21 : Code := (Try.f21.body).getD .skip
noncomputable def b55 : Code := (Try.f55.body).getD .skip
noncomputable def b20 : Code := (Try.f20.body).getD .skip
noncomputable def b41 : Code := (Try.f41.body).getD .skip
noncomputable def b77 : Code := (Try.f77.body).getD .skip
noncomputable def b99 : Code := (Try.f99.body).getD .skip
noncomputable def b83 : Code := (Try.f83.body).getD .skip
noncomputable def b50 : Code := (Try.f50.body).getD .skip
noncomputable def b16 : Code := (Try.f16.body).getD .skip
noncomputable def b17 : Code := (Try.f17.body).getD .skip
noncomputable def b18 : Code := (Try.f18.body).getD .skip
noncomputable def b3 : Code := (Try.f3.body).getD .skip
noncomputable def b52 : Code := (Try.f52.body).getD .skip
noncomputable def b53 : Code := (Try.f53.body).getD .skip
noncomputable def b19 : Code := (Try.f19.body).getD .skip
noncomputable def b4 : Code := (Try.f4.body).getD .skip
noncomputable def b5 : Code := (Try.f5.body).getD .skip
noncomputable def b22 : Code := (Try.f22.body).getD .skip
noncomputable def b85 : Code := (Try.f85.body).getD .skip
noncomputable def b56 : Code := (Try.f56.body).getD .skip
noncomputable def b23 : Code := (Try.f23.body).getD .skip
noncomputable def b24 : Code := (Try.f24.body).getD .skip
noncomputable def b6 : Code := (Try.f6.body).getD .skip
noncomputable def b25 : Code := (Try.f25.body).getD .skip
noncomputable def b26 : Code := (Try.f26.body).getD .skip
noncomputable def b37 : Code := (Try.f37.body).getD .skip
noncomputable def b72 : Code := (Try.f72.body).getD .skip
noncomputable def b74 : Code := (Try.f74.body).getD .skip
noncomputable def b73 : Code := (Try.f73.body).getD .skip
noncomputable def b100 : Code := (Try.f100.body).getD .skip
noncomputable def b93 : Code := (Try.f93.body).getD .skip
noncomputable def b94 : Code := (Try.f94.body).getD .skip
noncomputable def b75 : Code := (Try.f75.body).getD .skip
noncomputable def b38 : Code := (Try.f38.body).getD .skip
noncomputable def b87 : Code := (Try.f87.body).getD .skip
noncomputable def b86 : Code := (Try.f86.body).getD .skip
noncomputable def b88 : Code := (Try.f88.body).getD .skip
noncomputable def b57 : Code := (Try.f57.body).getD .skip
noncomputable def b58 : Code := (Try.f58.body).getD .skip
noncomputable def b27 : Code := (Try.f27.body).getD .skip
noncomputable def b67 : Code := (Try.f67.body).getD .skip
noncomputable def b35 : Code := (Try.f35.body).getD .skip
noncomputable def b89 : Code := (Try.f89.body).getD .skip
noncomputable def b59 : Code := (Try.f59.body).getD .skip
noncomputable def b76 : Code := (Try.f76.body).getD .skip
noncomputable def b40 : Code := (Try.f40.body).getD .skip
noncomputable def b90 : Code := (Try.f90.body).getD .skip
noncomputable def b60 : Code := (Try.f60.body).getD .skip
noncomputable def b28 : Code := (Try.f28.body).getD .skip
noncomputable def b36 : Code := (Try.f36.body).getD .skip
noncomputable def b122 : Code := (Try.f122.body).getD .skip
noncomputable def b102 : Code := (Try.f102.body).getD .skip
noncomputable def b91 : Code := (Try.f91.body).getD .skip
noncomputable def b61 : Code := (Try.f61.body).getD .skip
noncomputable def b29 : Code := (Try.f29.body).getD .skip
noncomputable def b62 : Code := (Try.f62.body).getD .skip
noncomputable def b64 : Code := (Try.f64.body).getD .skip
noncomputable def b63 : Code := (Try.f63.body).getD .skip
noncomputable def b30 : Code := (Try.f30.body).getD .skip
noncomputable def b39 : Code := (Try.f39.body).getD .skip
noncomputable def b31 : Code := (Try.f31.body).getD .skip
noncomputable def b7 : Code := (Try.f7.body).getD .skip
noncomputable def b32 : Code := (Try.f32.body).getD .skip
noncomputable def b65 : Code := (Try.f65.body).getD .skip
noncomputable def b33 : Code := (Try.f33.body).getD .skip
noncomputable def b8 : Code := (Try.f8.body).getD .skip
noncomputable def b34 : Code := (Try.f34.body).getD .skip
noncomputable def b9 : Code := (Try.f9.body).getD .skip
noncomputable def b10 : Code := (Try.f10.body).getD .skip
noncomputable def b11 : Code := (Try.f11.body).getD .skip
noncomputable def b42 : Code := (Try.f42.body).getD .skip
noncomputable def b12 : Code := (Try.f12.body).getD .skip
noncomputable def b79 : Code := (Try.f79.body).getD .skip
noncomputable def b80 : Code := (Try.f80.body).getD .skip
noncomputable def b43 : Code := (Try.f43.body).getD .skip
noncomputable def b81 : Code := (Try.f81.body).getD .skip
noncomputable def b44 : Code := (Try.f44.body).getD .skip
noncomputable def b13 : Code := (Try.f13.body).getD .skip
theorem e_ok : AllOk Try.prog E := allOk (by kernel_rfl) (by kernel_rfl) (by kernel_rfl) (by kernel_rfl) (by kernel_rfl)
  (List.forall_mem_cons.2 ⟨Try.func45, (List.forall_mem_cons.2 ⟨Try.func14, (List.forall_mem_cons.2 ⟨Try.func84, (List.forall_mem_cons.2 ⟨Try.func51, (List.forall_mem_cons.2 ⟨Try.func78, (List.forall_mem_cons.2 ⟨Try.func47, (List.forall_mem_cons.2 ⟨Try.func46, (List.forall_mem_cons.2 ⟨Try.func92, (List.forall_mem_cons.2 ⟨Try.func68, (List.forall_mem_cons.2 ⟨Try.func97, (List.forall_mem_cons.2 ⟨Try.func69, (List.forall_mem_cons.2 ⟨Try.func71, (List.forall_mem_cons.2 ⟨Try.func70, (List.forall_mem_cons.2 ⟨Try.func128, (List.forall_mem_cons.2 ⟨Try.func113, (List.forall_mem_cons.2 ⟨Try.func98, (List.forall_mem_cons.2 ⟨Try.func82, (List.forall_mem_cons.2 ⟨Try.func48, (List.forall_mem_cons.2 ⟨Try.func15, (List.forall_mem_cons.2 ⟨Try.func54, (List.forall_mem_cons.2 ⟨Try.func66, (List.forall_mem_cons.2 ⟨Try.func49, (List.forall_mem_cons.2 ⟨Try.func21, (List.forall_mem_cons.2 ⟨Try.func55, (List.forall_mem_cons.2 ⟨Try.func20, (List.forall_mem_cons.2 ⟨Try.func41, (List.forall_mem_cons.2 ⟨Try.func77, (List.forall_mem_cons.2 ⟨Try.func99, (List.forall_mem_cons.2 ⟨Try.func83, (List.forall_mem_cons.2 ⟨Try.func50, (List.forall_mem_cons.2 ⟨Try.func16, (List.forall_mem_cons.2 ⟨Try.func17, (List.forall_mem_cons.2 ⟨Try.func18, (List.forall_mem_cons.2 ⟨Try.func3, (List.forall_mem_cons.2 ⟨Try.func52, (List.forall_mem_cons.2 ⟨Try.func53, (List.forall_mem_cons.2 ⟨Try.func19, (List.forall_mem_cons.2 ⟨Try.func4, (List.forall_mem_cons.2 ⟨Try.func5, (List.forall_mem_cons.2 ⟨Try.func22, (List.forall_mem_cons.2 ⟨Try.func85, (List.forall_mem_cons.2 ⟨Try.func56, (List.forall_mem_cons.2 ⟨Try.func23, (List.forall_mem_cons.2 ⟨Try.func24, (List.forall_mem_cons.2 ⟨Try.func6, (List.forall_mem_cons.2 ⟨Try.func25, (List.forall_mem_cons.2 ⟨Try.func26, (List.forall_mem_cons.2 ⟨Try.func37, (List.forall_mem_cons.2 ⟨Try.func72, (List.forall_mem_cons.2 ⟨Try.func74, (List.forall_mem_cons.2 ⟨Try.func73, (List.forall_mem_cons.2 ⟨Try.func100, (List.forall_mem_cons.2 ⟨Try.func93, (List.forall_mem_cons.2 ⟨Try.func94, (List.forall_mem_cons.2 ⟨Try.func75, (List.forall_mem_cons.2 ⟨Try.func38, (List.forall_mem_cons.2 ⟨Try.func87, (List.forall_mem_cons.2 ⟨Try.func86, (List.forall_mem_cons.2 ⟨Try.func88, (List.forall_mem_cons.2 ⟨Try.func57, (List.forall_mem_cons.2 ⟨Try.func58, (List.forall_mem_cons.2 ⟨Try.func27, (List.forall_mem_cons.2 ⟨Try.func67, (List.forall_mem_cons.2 ⟨Try.func35, (List.forall_mem_cons.2 ⟨Try.func89, (List.forall_mem_cons.2 ⟨Try.func59, (List.forall_mem_cons.2 ⟨Try.func76, (List.forall_mem_cons.2 ⟨Try.func40, (List.forall_mem_cons.2 ⟨Try.func90, (List.forall_mem_cons.2 ⟨Try.func60, (List.forall_mem_cons.2 ⟨Try.func28, (List.forall_mem_cons.2 ⟨Try.func36, (List.forall_mem_cons.2 ⟨Try.func122, (List.forall_mem_cons.2 ⟨Try.func102, (List.forall_mem_cons.2 ⟨Try.func91, (List.forall_mem_cons.2 ⟨Try.func61, (List.forall_mem_cons.2 ⟨Try.func29, (List.forall_mem_cons.2 ⟨Try.func62, (List.forall_mem_cons.2 ⟨Try.func64, (List.forall_mem_cons.2 ⟨Try.func63, (List.forall_mem_cons.2 ⟨Try.func30, (List.forall_mem_cons.2 ⟨Try.func39, (List.forall_mem_cons.2 ⟨Try.func31, (List.forall_mem_cons.2 ⟨Try.func7, (List.forall_mem_cons.2 ⟨Try.func32, (List.forall_mem_cons.2 ⟨Try.func65, (List.forall_mem_cons.2 ⟨Try.func33, (List.forall_mem_cons.2 ⟨Try.func8, (List.forall_mem_cons.2 ⟨Try.func34, (List.forall_mem_cons.2 ⟨Try.func9, (List.forall_mem_cons.2 ⟨Try.func10, (List.forall_mem_cons.2 ⟨Try.func11, (List.forall_mem_cons.2 ⟨Try.func42, (List.forall_mem_cons.2 ⟨Try.func12, (List.forall_mem_cons.2 ⟨Try.func79, (List.forall_mem_cons.2 ⟨Try.func80, (List.forall_mem_cons.2 ⟨Try.func43, (List.forall_mem_cons.2 ⟨Try.func81, (List.forall_mem_cons.2 ⟨Try.func44, (List.forall_mem_cons.2 ⟨Try.func13, (by intro x h; cases h)⟩)⟩)⟩)⟩)⟩)⟩)⟩)⟩)⟩)⟩)⟩)⟩)⟩)⟩)⟩)⟩)⟩)⟩)⟩)⟩)⟩)⟩)⟩)⟩)⟩)⟩)⟩)⟩)⟩)⟩)⟩)⟩)⟩)⟩)⟩)⟩)⟩)⟩)⟩)⟩)⟩)⟩)⟩)⟩)⟩)⟩)⟩)⟩)⟩)⟩)⟩)⟩)⟩)⟩)⟩)⟩)⟩)⟩)⟩)⟩)⟩)⟩)⟩)⟩)⟩)⟩)⟩)⟩)⟩)⟩)⟩)⟩)⟩)⟩)⟩)⟩)⟩)⟩)⟩)⟩)⟩)⟩)⟩)⟩)⟩)⟩)⟩)⟩)⟩)⟩)⟩)⟩)⟩)⟩)⟩)⟩)⟩)⟩)⟩)⟩)
  (List.forall_mem_cons.2 ⟨clone_ok (t := 23) (te := 3) (b := 4) (e := (.int .i64)) Try.func69 rfl rfl rfl (by kernel_rfl) (by kernel_rfl) ⟨40, by kernel_rfl⟩, (by intro x h; cases h)⟩)
  (List.forall_mem_cons.2 ⟨grow_ok (t := 22) (it := 3) (b := 4) (st := 9) (at_ := 20) (te := 23) (e := (.list (.int .i64))) Try.func84 rfl rfl rfl (by kernel_rfl) (by kernel_rfl) (by kernel_rfl) ⟨40, by kernel_rfl⟩, (by intro x h; cases h)⟩)
  (List.forall_mem_cons.2 ⟨⟨⟨_, Try.func88, by kernel_rfl, rfl⟩, sortBy_do laySortBy aggAt sizeAt entersAt cmpAt⟩, (List.forall_mem_cons.2 ⟨⟨⟨_, Try.func79, by kernel_rfl, rfl⟩, sort_do laySort⟩, (List.forall_mem_cons.2 ⟨⟨⟨_, Try.func80, by kernel_rfl, rfl⟩, compact_do layCompact⟩, (by intro x h; cases h)⟩)⟩)⟩)
theorem mixed : Try.prog.follows .mixedOrders = true := by kernel_rfl
end Go.Proofs.Ytdojdblncegjcaa
