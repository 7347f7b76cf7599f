/- The tables of the program, and that they are true. -/
import Derived.Test.YtmefbjdhmlhkjaaR3
import Derived.Test.YtmefbjdhmlhkjaaProg
namespace Go.Proofs.Ytmefbjdhmlhkjaa
open Go Go.Proofs.Ytmefbjdhmlhkjaa.R
set_option maxRecDepth 100000
noncomputable def E : Env := ⟨[(2, (.int .i64)), (3, (.int .i64)), (4, .bool), (5, (.int .u8)), (6, (.int .u8)), (7, (.pair (.int .i64) (.pair (.int .i64) (.pair .bool (.int .u8))))), (8, (.pair (.int .i64) (.pair (.int .i64) (.pair .bool (.int .u8))))), (12, (.int .u64)), (21, (.int .i32)), (22, (.list (.pair (.int .i64) (.int .i64)))), (23, (.list (.pair (.int .i64) (.int .i64)))), (24, (.list (.int .i64))), (25, (.pair (.int .i64) (.pair (.list (.pair (.int .i64) (.int .i64))) (.pair (.list (.pair (.int .i64) (.int .i64))) (.pair (.list (.int .i64)) (.list (.int .i64))))))), (26, (.pair (.int .i64) (.pair (.list (.pair (.int .i64) (.int .i64))) (.pair (.list (.pair (.int .i64) (.int .i64))) (.pair (.list (.int .i64)) (.list (.int .i64))))))), (28, (.list (.int .u64))), (29, (.int .i64)), (34, (.int .u64)), (35, (.pair (.int .i64) (.pair (.list (.int .i64)) (.list (.int .i64))))), (36, (.pair (.int .i64) (.pair (.list (.int .i64)) (.list (.int .i64))))), (37, (.list (.list (.int .i64)))), (46, (.int .u64)), (47, (.list .bool)), (67, (.list (.int .u8))), (76, (.pair (.int .i64) (.int .i64))), (77, (.pair (.int .i64) (.int .i64))), (98, (.pair (.int .i64) (.int .i64))), (99, (.pair (.int .i64) (.int .i64))), (114, (.int .u32)), (115, (.int .u8)), (116, (.int .u8)), (119, (.int .i32)), (120, (.int .i32))],
  [(7, (4, [(0, 2), (1, 3), (2, 4), (3, 6)])), (8, (4, [(0, 2), (1, 3), (2, 4), (3, 6)])), (25, (5, [(0, 3), (1, 22), (2, 23), (3, 24), (4, 24)])), (26, (5, [(0, 3), (1, 22), (2, 23), (3, 24), (4, 24)])), (35, (3, [(0, 3), (1, 24), (2, 24)])), (36, (3, [(0, 3), (1, 24), (2, 24)])), (76, (2, [(0, 3), (1, 3)])), (77, (2, [(0, 3), (1, 3)])), (98, (2, [(0, 3), (1, 3)])), (99, (2, [(0, 3), (1, 3)]))],
  [(68, (3, (.int .i64))), (74, (6, (.int .u64))), (96, (4, (.int .i64)))],
  [(1, ()), (15, ()), (16, ()), (17, ()), (27, ()), (31, ()), (33, ()), (38, ()), (39, ()), (41, ()), (42, ()), (43, ()), (44, ()), (45, ()), (48, ()), (49, ()), (50, ()), (51, ()), (52, ()), (53, ()), (54, ()), (55, ()), (56, ()), (57, ()), (58, ()), (60, ()), (62, ()), (64, ()), (65, ()), (66, ()), (69, ()), (70, ()), (72, ()), (73, ()), (75, ()), (78, ()), (79, ()), (80, ()), (81, ()), (82, ()), (83, ()), (84, ()), (86, ()), (87, ()), (88, ()), (89, ()), (91, ()), (92, ()), (94, ()), (95, ()), (97, ()), (100, ()), (101, ()), (102, ()), (103, ()), (104, ()), (105, ()), (106, ()), (107, ()), (113, ()), (117, ()), (118, ())],
  [(11, ([.ro], [(.d .bool)])), (37, ([.ro], [(.d (.int .u64))])), (56, ([.ro], [(.d (.int .i64))])), (57, ([.ro, .ro], [(.d .bool)])), (39, ([.ro], [(.d (.int .i64))])), (58, ([.ro], [(.d (.int .u64))])), (59, ([.ro, .ro, .ro], [(.d (.int .u64))])), (40, ([.ro], [(.own (.int .u64))])), (60, ([.ro, .ro], [(.d .bool)])), (43, ([.ro], [(.d (.int .i64))])), (61, ([.ro, .ro], [(.d .bool)])), (44, ([.ro, .ro], [(.d (.int .i64))])), (45, ([.ro], [(.own (.int .i64))])), (46, ([.ro], [(.own (.int .u8))])), (51, ([.ro, .ro], [(.d (.int .u8)), (.d (.int .i64))])), (47, ([.ro, .ro], [(.d (.int .i64)), (.d (.int .i64))])), (16, ([.ro, .ro], [(.agg (.d (.int .i64)) (.agg (.own (.int .i64)) (.own (.int .i64)))), (.d (.int .i64)), (.d (.int .i64))])), (18, ([.ro, .ro], [(.d .bool)])), (41, ([.ro, .ro, .ro], [(.d .bool)])), (14, ([], [(.d .bool)])), (28, ([.ro], [(.d .bool)])), (29, ([.ro, .ro], [(.d .bool)])), (48, ([.ro], [(.d .bool)])), (25, ([.ro, .ro], [(.d .bool)])), (50, ([.ro], [(.d (.int .i64))])), (26, ([.ro, .ro], [(.d (.int .u8))])), (19, ([.ro], [(.d (.int .i64))])), (49, ([.ro, .ro], [(.d .bool)])), (23, ([.ro, .ro], [(.d (.int .i64))])), (42, ([.ro, .ro], [(.d (.int .i64))])), (15, ([.ro, .ro], [(.d .bool)])), (35, ([.ro, .ro], [(.d .bool)])), (17, ([.ro], [(.own (.int .i64))])), (4, ([.ro, .ro, .ro], [(.d .bool)])), (20, ([.ro, .ro], [(.own .bool)])), (21, ([.ro, .ro], [(.d .bool)])), (22, ([.ro, .ro], [(.d .bool)])), (5, ([.ro, .ro], [(.d .bool)])), (24, ([.ro, .ro], [(.d .bool)])), (30, ([.ro], [(.agg (.d (.int .i64)) (.agg (.own (.int .i64)) (.own (.int .i64))))])), (27, ([.ro, .ro, .ro], [(.agg (.d (.int .i64)) (.agg (.own (.int .i64)) (.own (.int .i64))))])), (6, ([.ro, .ro, .ro, .ro], [(.d .bool)])), (31, ([.ro, .ro], [(.d (.int .u8)), (.d (.int .i64)), (.d (.int .i64))])), (52, ([.ro, .ro], [(.d (.int .u8)), (.d (.int .i64))])), (32, ([.ro, .ro], [(.d (.int .u8)), (.d (.int .i64)), (.d (.int .i64))])), (62, ([.ro, .ro], [(.d (.int .i64)), (.d (.int .i64))])), (53, ([.ro, .ro], [(.agg (.d (.int .i64)) (.agg (.d (.list (.int .i64))) (.d (.list (.int .i64))))), (.d (.int .i64))])), (33, ([.ro, .ro], [(.agg (.d (.int .i64)) (.agg (.d (.list (.int .i64))) (.d (.list (.int .i64))))), (.d (.int .i64)), (.d (.int .i64))])), (34, ([.ro, .ro], [(.d .bool)])), (7, ([.ro, .ro, .ro], [(.d .bool)])), (8, ([], [(.d .bool)])), (9, ([.ro, .ro], [(.d .bool)])), (10, ([.ro, .ro, .ro], [(.d .bool)]))],
  [(11, Try.f11), (37, Try.f37), (56, Try.f56), (57, Try.f57), (39, Try.f39), (58, Try.f58), (59, Try.f59), (40, Try.f40), (60, Try.f60), (43, Try.f43), (61, Try.f61), (44, Try.f44), (45, Try.f45), (46, Try.f46), (51, Try.f51), (47, Try.f47), (16, Try.f16), (18, Try.f18), (41, Try.f41), (14, Try.f14), (28, Try.f28), (29, Try.f29), (48, Try.f48), (25, Try.f25), (50, Try.f50), (26, Try.f26), (19, Try.f19), (49, Try.f49), (23, Try.f23), (42, Try.f42), (15, Try.f15), (35, Try.f35), (17, Try.f17), (4, Try.f4), (20, Try.f20), (21, Try.f21), (22, Try.f22), (5, Try.f5), (24, Try.f24), (30, Try.f30), (27, Try.f27), (6, Try.f6), (31, Try.f31), (52, Try.f52), (32, Try.f32), (62, Try.f62), (53, Try.f53), (33, Try.f33), (34, Try.f34), (7, Try.f7), (8, Try.f8), (9, Try.f9), (10, Try.f10)],
  [(45, (.int .i64))],
  [(57, [(2, [0, 1, 5])]), (39, [(9, [1, 3, 4]), (14, [1, 5])]), (40, [(6, [1, 3, 4, 5, 6, 7]), (11, [1, 3, 4, 5, 6, 7, 8, 9]), (18, [1, 3, 4, 10])]), (43, [(5, [1, 3, 21, 22, 23]), (12, [1, 45, 46, 47])]), (44, [(4, [0, 1, 13, 14, 15])]), (46, [(3, [1, 3, 13, 14]), (8, [3, 22, 23, 24])]), (51, [(3, [0, 6, 7, 10, 11, 12])]), (47, [(3, [0, 6, 11, 12, 13])]), (16, [(7, [1, 2, 4, 25, 26, 27]), (15, [1, 4, 11, 12])]), (18, [(4, [0, 1, 5])]), (29, [(2, [0, 1, 5])]), (26, [(2, [1, 2, 5])]), (19, [(4, [1, 3]), (10, [1, 4, 5])]), (49, [(2, [0, 1, 5])]), (42, [(4, [0, 1, 5])]), (35, [(2, [0, 1, 5])]), (17, [(3, [0, 3, 4]), (8, [0, 3, 4, 5])]), (4, [(7, [1, 3, 7, 8, 9, 10])]), (20, [(3, [1, 5, 6])]), (22, [(2, [0, 1, 5])]), (5, [(8, [1, 2, 5, 6, 7, 9]), (13, [1, 2, 5, 6, 7, 9, 10, 11, 12]), (17, [1, 2, 5, 6, 7, 9, 10, 11, 13]), (24, [1, 2, 5, 6, 7, 9, 10, 14])]), (24, [(2, [0, 1, 5])]), (52, [(3, [1, 2, 6, 7])]), (62, [(3, [1, 2, 6, 7, 8])]), (53, [(2, [1, 2, 4, 6])]), (8, [(6, [1, 2, 3, 4, 5])]), (9, [(8, [1, 5, 6, 7, 9])]), (10, [(7, [1, 2, 3, 7, 8, 9, 10, 11, 12])])],
  [(53, [(2, [2])])],
  [(4, [(4, 8)]), (6, [(5, 13)]), (8, [(8, 10), (16, 8), (17, 8)]), (9, [(5, 34), (10, 10)]), (10, [(9, 5), (17, 16)]), (16, [(13, 10)]), (17, [(8, 12), (10, 15)]), (18, [(6, 8)]), (19, [(6, 20), (12, 16)]), (26, [(6, 7)]), (30, [(1, 10)]), (38, [(2, 7)]), (40, [(20, 21)]), (41, [(2, 13)]), (49, [(4, 47)]), (52, [(5, 5), (13, 4)]), (62, [(5, 9)])]⟩
noncomputable def b11 : Code := (Try.f11.body).getD .skip
noncomputable def b37 : Code := (Try.f37.body).getD .skip
noncomputable def b56 : Code := (Try.f56.body).getD .skip
noncomputable def b57 : Code := (Try.f57.body).getD .skip
noncomputable def b39 : Code := (Try.f39.body).getD .skip
noncomputable def b58 : Code := (Try.f58.body).getD .skip
noncomputable def b59 : Code := (Try.f59.body).getD .skip
noncomputable def b40 : Code := (Try.f40.body).getD .skip
noncomputable def b60 : Code := (Try.f60.body).getD .skip
noncomputable def b43 : Code := (Try.f43.body).getD .skip
noncomputable def b61 : Code := (Try.f61.body).getD .skip
noncomputable def b44 : Code := (Try.f44.body).getD .skip
noncomputable def b45 : Code := (Try.f45.body).getD .skip
noncomputable def b46 : Code := (Try.f46.body).getD .skip
noncomputable def b51 : Code := (Try.f51.body).getD .skip
noncomputable def b47 : Code := (Try.f47.body).getD .skip
noncomputable def b16 : Code := (Try.f16.body).getD .skip
noncomputable def b18 : Code := (Try.f18.body).getD .skip
noncomputable def b41 : Code := (Try.f41.body).getD .skip
noncomputable def b14 : Code := (Try.f14.body).getD .skip
noncomputable def b28 : Code := (Try.f28.body).getD .skip
noncomputable def b29 : Code := (Try.f29.body).getD .skip
noncomputable def b48 : Code := (Try.f48.body).getD .skip
noncomputable def b25 : Code := (Try.f25.body).getD .skip
noncomputable def b50 : Code := (Try.f50.body).getD .skip
noncomputable def b26 : Code := (Try.f26.body).getD .skip
noncomputable def b19 : Code := (Try.f19.body).getD .skip
noncomputable def b49 : Code := (Try.f49.body).getD .skip
noncomputable def b23 : Code := (Try.f23.body).getD .skip
noncomputable def b42 : Code := (Try.f42.body).getD .skip
noncomputable def b15 : Code := (Try.f15.body).getD .skip
noncomputable def b35 : Code := (Try.f35.body).getD .skip
noncomputable def b17 : Code := (Try.f17.body).getD .skip
noncomputable def b4 : Code := (Try.f4.body).getD .skip
noncomputable def b20 : Code := (Try.f20.body).getD .skip
noncomputable def b21 : Code := (Try.f21.body).getD .skip
noncomputable def b22 : Code := (Try.f22.body).getD .skip
noncomputable def b5 : Code := (Try.f5.body).getD .skip
noncomputable def b24 : Code := (Try.f24.body).getD .skip
noncomputable def b30 : Code := (Try.f30.body).getD .skip
noncomputable def b27 : Code := (Try.f27.body).getD .skip
noncomputable def b6 : Code := (Try.f6.body).getD .skip
noncomputable def b31 : Code := (Try.f31.body).getD .skip
noncomputable def b52 : Code := (Try.f52.body).getD .skip
noncomputable def b32 : Code := (Try.f32.body).getD .skip
noncomputable def b62 : Code := (Try.f62.body).getD .skip
noncomputable def b53 : Code := (Try.f53.body).getD .skip
noncomputable def b33 : Code := (Try.f33.body).getD .skip
noncomputable def b34 : Code := (Try.f34.body).getD .skip
noncomputable def b7 : Code := (Try.f7.body).getD .skip
noncomputable def b8 : Code := (Try.f8.body).getD .skip
noncomputable def b9 : Code := (Try.f9.body).getD .skip
noncomputable def b10 : Code := (Try.f10.body).getD .skip
theorem e_ok : AllOk Try.prog E := allOk (by kernel_rfl) (by kernel_rfl) (by kernel_rfl) (by kernel_rfl) (by kernel_rfl)
  (List.forall_mem_cons.2 ⟨Try.func11, (List.forall_mem_cons.2 ⟨Try.func37, (List.forall_mem_cons.2 ⟨Try.func56, (List.forall_mem_cons.2 ⟨Try.func57, (List.forall_mem_cons.2 ⟨Try.func39, (List.forall_mem_cons.2 ⟨Try.func58, (List.forall_mem_cons.2 ⟨Try.func59, (List.forall_mem_cons.2 ⟨Try.func40, (List.forall_mem_cons.2 ⟨Try.func60, (List.forall_mem_cons.2 ⟨Try.func43, (List.forall_mem_cons.2 ⟨Try.func61, (List.forall_mem_cons.2 ⟨Try.func44, (List.forall_mem_cons.2 ⟨Try.func45, (List.forall_mem_cons.2 ⟨Try.func46, (List.forall_mem_cons.2 ⟨Try.func51, (List.forall_mem_cons.2 ⟨Try.func47, (List.forall_mem_cons.2 ⟨Try.func16, (List.forall_mem_cons.2 ⟨Try.func18, (List.forall_mem_cons.2 ⟨Try.func41, (List.forall_mem_cons.2 ⟨Try.func14, (List.forall_mem_cons.2 ⟨Try.func28, (List.forall_mem_cons.2 ⟨Try.func29, (List.forall_mem_cons.2 ⟨Try.func48, (List.forall_mem_cons.2 ⟨Try.func25, (List.forall_mem_cons.2 ⟨Try.func50, (List.forall_mem_cons.2 ⟨Try.func26, (List.forall_mem_cons.2 ⟨Try.func19, (List.forall_mem_cons.2 ⟨Try.func49, (List.forall_mem_cons.2 ⟨Try.func23, (List.forall_mem_cons.2 ⟨Try.func42, (List.forall_mem_cons.2 ⟨Try.func15, (List.forall_mem_cons.2 ⟨Try.func35, (List.forall_mem_cons.2 ⟨Try.func17, (List.forall_mem_cons.2 ⟨Try.func4, (List.forall_mem_cons.2 ⟨Try.func20, (List.forall_mem_cons.2 ⟨Try.func21, (List.forall_mem_cons.2 ⟨Try.func22, (List.forall_mem_cons.2 ⟨Try.func5, (List.forall_mem_cons.2 ⟨Try.func24, (List.forall_mem_cons.2 ⟨Try.func30, (List.forall_mem_cons.2 ⟨Try.func27, (List.forall_mem_cons.2 ⟨Try.func6, (List.forall_mem_cons.2 ⟨Try.func31, (List.forall_mem_cons.2 ⟨Try.func52, (List.forall_mem_cons.2 ⟨Try.func32, (List.forall_mem_cons.2 ⟨Try.func62, (List.forall_mem_cons.2 ⟨Try.func53, (List.forall_mem_cons.2 ⟨Try.func33, (List.forall_mem_cons.2 ⟨Try.func34, (List.forall_mem_cons.2 ⟨Try.func7, (List.forall_mem_cons.2 ⟨Try.func8, (List.forall_mem_cons.2 ⟨Try.func9, (List.forall_mem_cons.2 ⟨Try.func10, (by intro x h; cases h)⟩)⟩)⟩)⟩)⟩)⟩)⟩)⟩)⟩)⟩)⟩)⟩)⟩)⟩)⟩)⟩)⟩)⟩)⟩)⟩)⟩)⟩)⟩)⟩)⟩)⟩)⟩)⟩)⟩)⟩)⟩)⟩)⟩)⟩)⟩)⟩)⟩)⟩)⟩)⟩)⟩)⟩)⟩)⟩)⟩)⟩)⟩)⟩)⟩)⟩)⟩)⟩)⟩)
  (List.forall_mem_cons.2 ⟨clone_ok (t := 24) (te := 3) (b := 4) (e := (.int .i64)) Try.func45 rfl rfl rfl (by kernel_rfl) (by kernel_rfl) ⟨40, by kernel_rfl⟩, (by intro x h; cases h)⟩)
theorem mixed : Try.prog.follows .mixedOrders = true := by kernel_rfl
end Go.Proofs.Ytmefbjdhmlhkjaa
