/- The tables of the program, and that they are true. -/
import Derived.Test.YthbkhndapkbgbaaS
import Derived.Test.YthbkhndapkbgbaaProg
namespace Go.Proofs.Ythbkhndapkbgbaa
open Go Go.Proofs.Ythbkhndapkbgbaa.R
set_option maxRecDepth 100000
noncomputable def E : Env := ⟨[(2, (.int .i64)), (3, (.int .i64)), (4, .bool), (5, (.int .u8)), (6, (.int .u8)), (7, (.pair (.int .i64) (.pair (.int .i64) (.pair .bool (.int .u8))))), (8, (.pair (.int .i64) (.pair (.int .i64) (.pair .bool (.int .u8))))), (12, (.int .u64)), (21, (.int .i32)), (22, (.list (.pair (.int .i64) (.int .i64)))), (23, (.list (.pair (.int .i64) (.int .i64)))), (24, (.list (.int .i64))), (25, (.pair (.int .i64) (.pair (.list (.pair (.int .i64) (.int .i64))) (.pair (.list (.pair (.int .i64) (.int .i64))) (.pair (.list (.int .i64)) (.list (.int .i64))))))), (26, (.pair (.int .i64) (.pair (.list (.pair (.int .i64) (.int .i64))) (.pair (.list (.pair (.int .i64) (.int .i64))) (.pair (.list (.int .i64)) (.list (.int .i64))))))), (28, (.list (.int .u64))), (29, (.int .i64)), (34, (.int .u64)), (37, (.list (.list (.int .i64)))), (38, (.pair (.int .i64) (.pair (.list (.list (.int .i64))) (.list (.list (.int .i64)))))), (39, (.pair (.int .i64) (.pair (.list (.list (.int .i64))) (.list (.list (.int .i64)))))), (45, (.pair (.int .i64) (.int .i64))), (46, (.pair (.int .i64) (.int .i64))), (47, (.pair (.int .i64) (.int .i64))), (48, (.pair (.int .i64) (.int .i64))), (49, (.list (.pair (.int .i64) (.pair (.list (.list (.int .i64))) (.list (.list (.int .i64))))))), (52, (.list .bool)), (89, (.int .u64)), (105, (.int .i64)), (113, (.int .u32)), (118, (.int .u64)), (134, (.int .u8)), (135, (.int .u8)), (138, (.int .i32)), (139, (.int .i32))],
  [(7, (4, [(0, 2), (1, 3), (2, 4), (3, 6)])), (8, (4, [(0, 2), (1, 3), (2, 4), (3, 6)])), (25, (5, [(0, 3), (1, 22), (2, 23), (3, 24), (4, 24)])), (26, (5, [(0, 3), (1, 22), (2, 23), (3, 24), (4, 24)])), (38, (3, [(0, 3), (1, 37), (2, 37)])), (39, (3, [(0, 3), (1, 37), (2, 37)])), (45, (2, [(0, 3), (1, 3)])), (46, (2, [(0, 3), (1, 3)])), (47, (2, [(0, 3), (1, 3)])), (48, (2, [(0, 3), (1, 3)]))],
  [(65, (6, (.int .u64))), (87, (4, (.int .i64))), (96, (2, (.int .i64)))],
  [(1, ()), (15, ()), (16, ()), (17, ()), (27, ()), (31, ()), (33, ()), (35, ()), (36, ()), (41, ()), (42, ()), (43, ()), (44, ()), (50, ()), (51, ()), (54, ()), (55, ()), (57, ()), (58, ()), (60, ()), (61, ()), (63, ()), (64, ()), (66, ()), (67, ()), (68, ()), (69, ()), (70, ()), (71, ()), (72, ()), (73, ()), (74, ()), (75, ()), (77, ()), (78, ()), (79, ()), (80, ()), (81, ()), (82, ()), (83, ()), (84, ()), (85, ()), (86, ()), (88, ()), (90, ()), (92, ()), (93, ()), (94, ()), (95, ()), (97, ()), (98, ()), (99, ()), (100, ()), (101, ()), (102, ()), (103, ()), (104, ()), (107, ()), (108, ()), (109, ()), (111, ()), (112, ()), (114, ()), (115, ()), (116, ()), (117, ()), (119, ()), (120, ()), (121, ()), (122, ()), (123, ()), (124, ()), (126, ()), (127, ()), (133, ()), (136, ()), (137, ())],
  [(28, ([], [(.agg (.d (.int .i64)) (.agg (.own (.pair (.int .i64) (.int .i64))) (.agg (.own (.pair (.int .i64) (.int .i64))) (.agg (.own (.int .i64)) (.own (.int .i64))))))])), (45, ([.ro], [(.d (.int .i64))])), (24, ([.ro], [(.d (.int .i64)), (.d (.int .i64))])), (30, ([.ro, .ro, .io (.own .bool)], [])), (31, ([.ro, .ro], [(.d (.int .i64))])), (51, ([.ro, .ro], [(.d .bool)])), (60, ([.ro], [(.own (.int .i64))])), (49, ([.ro, .ro], [(.own (.int .i64)), (.d .bool), (.d (.int .i64))])), (32, ([.mv (.own (.list (.int .i64))), .ro, .ro], [(.own (.list (.int .i64)))])), (13, ([.ro, .ro], [(.agg (.d (.int .i64)) (.agg (.own (.list (.int .i64))) (.own (.list (.int .i64))))), (.d (.int .i64))])), (50, ([.ro, .ro], [(.d .bool)])), (33, ([.ro, .ro], [(.d .bool)])), (15, ([.ro, .ro], [(.d .bool)])), (11, ([], [(.d .bool)])), (8, ([.ro], [(.d .bool)])), (18, ([.ro], [(.d (.int .i64))])), (35, ([.ro, .ro], [(.d .bool)])), (17, ([.ro], [(.d (.int .i64))])), (29, ([.ro, .ro], [(.d (.int .i64))])), (12, ([.ro, .ro], [(.d .bool)])), (40, ([.ro, .ro], [(.d .bool)])), (21, ([.ro, .ro, .ro], [(.own .bool), (.d (.int .i64))])), (41, ([.ro], [(.d .bool)])), (82, ([.ro, .ro], [(.d .bool)])), (73, ([.ro, .ro], [(.d .bool)])), (55, ([.ro, .ro], [(.d (.int .i64))])), (42, ([.ro, .ro], [(.d (.int .i64))])), (22, ([.ro], [(.d (.int .i64))])), (20, ([.ro, .ro], [(.d (.int .i64))])), (34, ([.ro, .ro], [(.d (.int .i64))])), (43, ([.ro, .ro], [(.d (.int .i64))])), (44, ([.ro, .ro], [(.d .bool), (.d (.int .i64))])), (23, ([.ro, .ro, .ro], [(.d .bool), (.d (.int .i64))])), (7, ([.ro, .ro, .ro, .ro, .ro], [(.d .bool)]))],
  [(28, Try.f28), (46, Try.f46), (58, Try.f58), (59, Try.f59), (45, Try.f45), (24, Try.f24), (30, Try.f30), (31, Try.f31), (51, Try.f51), (60, Try.f60), (39, Try.f39), (61, Try.f61), (49, Try.f49), (32, Try.f32), (13, Try.f13), (50, Try.f50), (33, Try.f33), (15, Try.f15), (11, Try.f11), (8, Try.f8), (18, Try.f18), (35, Try.f35), (17, Try.f17), (29, Try.f29), (12, Try.f12), (40, Try.f40), (21, Try.f21), (41, Try.f41), (82, Try.f82), (73, Try.f73), (55, Try.f55), (42, Try.f42), (22, Try.f22), (20, Try.f20), (34, Try.f34), (43, Try.f43), (44, Try.f44), (23, Try.f23), (7, Try.f7)],
  [(60, (.int .i64))],
  [(45, [(11, [3, 52, 53, 54])]), (30, [(3, [2, 3, 12, 13, 14]), (9, [2, 3, 8, 9])]), (61, [(4, [0, 3]), (9, [0, 3, 4, 5])]), (49, [(4, [0, 1, 16, 17, 18]), (13, [4, 34, 35])]), (32, [(3, [0, 1, 7, 13, 14, 15])]), (13, [(5, [1, 2, 4, 6, 29, 30, 31]), (15, [2, 4, 6, 10, 11, 12, 13]), (23, [4, 10, 11, 12, 14, 85, 86, 87])]), (50, [(4, [0, 1, 5])]), (33, [(4, [0, 1, 5])]), (35, [(2, [0, 1, 5])]), (17, [(9, [1, 3, 4]), (14, [1, 5])]), (29, [(5, [1, 2, 6])]), (21, [(11, [3, 10, 11, 61, 62])]), (73, [(2, [0, 1, 5])]), (42, [(4, [0, 1, 5])]), (22, [(6, [1, 3]), (11, [1, 3, 4])]), (34, [(4, [0, 1, 13, 14, 15])]), (43, [(4, [0, 10, 11, 12])]), (44, [(5, [1, 16, 17, 18])]), (23, [(7, [2, 31, 32, 33])]), (7, [(11, [4, 5, 11, 12, 14, 16, 17, 18])])],
  [],
  [(13, [(26, 14)]), (22, [(8, 25)]), (29, [(7, 14)]), (30, [(13, 1000)]), (33, [(6, 8)]), (49, [(15, 14)]), (50, [(6, 8)]), (73, [(4, 47)])],
  [],
  [(46, .calc startsF), (58, .calc (outsF 56)), (59, .calc (wrongsF 56 57)), (39, .inplace (.int .i64) sortI none), (61, .take (.int .i64) Lib.compact)]⟩
def opsIn : Code → Array Oper
  | .region _ ops _ => ops
  | _ => #[]
noncomputable def b28 : Code := (Try.f28.body).getD .skip
noncomputable def b46 : Code := (Try.f46.body).getD .skip
noncomputable def b58 : Code := (Try.f58.body).getD .skip
noncomputable def b59 : Code := (Try.f59.body).getD .skip
noncomputable def b45 : Code := (Try.f45.body).getD .skip
noncomputable def b24 : Code := (Try.f24.body).getD .skip
noncomputable def b30 : Code := (Try.f30.body).getD .skip
noncomputable def b31 : Code := (Try.f31.body).getD .skip
noncomputable def b51 : Code := (Try.f51.body).getD .skip
noncomputable def b60 : Code := (Try.f60.body).getD .skip
noncomputable def b39 : Code := (Try.f39.body).getD .skip
noncomputable def b61 : Code := (Try.f61.body).getD .skip
noncomputable def b49 : Code := (Try.f49.body).getD .skip
noncomputable def b32 : Code := (Try.f32.body).getD .skip
noncomputable def b13 : Code := (Try.f13.body).getD .skip
noncomputable def b50 : Code := (Try.f50.body).getD .skip
noncomputable def b33 : Code := (Try.f33.body).getD .skip
noncomputable def b15 : Code := (Try.f15.body).getD .skip
noncomputable def b11 : Code := (Try.f11.body).getD .skip
noncomputable def b8 : Code := (Try.f8.body).getD .skip
noncomputable def b18 : Code := (Try.f18.body).getD .skip
noncomputable def b35 : Code := (Try.f35.body).getD .skip
noncomputable def b17 : Code := (Try.f17.body).getD .skip
noncomputable def b29 : Code := (Try.f29.body).getD .skip
noncomputable def b12 : Code := (Try.f12.body).getD .skip
noncomputable def b40 : Code := (Try.f40.body).getD .skip
noncomputable def b21 : Code := (Try.f21.body).getD .skip
noncomputable def b41 : Code := (Try.f41.body).getD .skip
noncomputable def b82 : Code := (Try.f82.body).getD .skip
noncomputable def b73 : Code := (Try.f73.body).getD .skip
noncomputable def b55 : Code := (Try.f55.body).getD .skip
noncomputable def b42 : Code := (Try.f42.body).getD .skip
noncomputable def b22 : Code := (Try.f22.body).getD .skip
noncomputable def b20 : Code := (Try.f20.body).getD .skip
noncomputable def b34 : Code := (Try.f34.body).getD .skip
noncomputable def b43 : Code := (Try.f43.body).getD .skip
noncomputable def b44 : Code := (Try.f44.body).getD .skip
noncomputable def b23 : Code := (Try.f23.body).getD .skip
noncomputable def b7 : Code := (Try.f7.body).getD .skip
theorem e_ok : AllOk Try.prog E := allOk (by kernel_rfl) (by kernel_rfl) (by kernel_rfl) (by kernel_rfl) (by kernel_rfl)
  (List.forall_mem_cons.2 ⟨Try.func28, (List.forall_mem_cons.2 ⟨Try.func46, (List.forall_mem_cons.2 ⟨Try.func58, (List.forall_mem_cons.2 ⟨Try.func59, (List.forall_mem_cons.2 ⟨Try.func45, (List.forall_mem_cons.2 ⟨Try.func24, (List.forall_mem_cons.2 ⟨Try.func30, (List.forall_mem_cons.2 ⟨Try.func31, (List.forall_mem_cons.2 ⟨Try.func51, (List.forall_mem_cons.2 ⟨Try.func60, (List.forall_mem_cons.2 ⟨Try.func39, (List.forall_mem_cons.2 ⟨Try.func61, (List.forall_mem_cons.2 ⟨Try.func49, (List.forall_mem_cons.2 ⟨Try.func32, (List.forall_mem_cons.2 ⟨Try.func13, (List.forall_mem_cons.2 ⟨Try.func50, (List.forall_mem_cons.2 ⟨Try.func33, (List.forall_mem_cons.2 ⟨Try.func15, (List.forall_mem_cons.2 ⟨Try.func11, (List.forall_mem_cons.2 ⟨Try.func8, (List.forall_mem_cons.2 ⟨Try.func18, (List.forall_mem_cons.2 ⟨Try.func35, (List.forall_mem_cons.2 ⟨Try.func17, (List.forall_mem_cons.2 ⟨Try.func29, (List.forall_mem_cons.2 ⟨Try.func12, (List.forall_mem_cons.2 ⟨Try.func40, (List.forall_mem_cons.2 ⟨Try.func21, (List.forall_mem_cons.2 ⟨Try.func41, (List.forall_mem_cons.2 ⟨Try.func82, (List.forall_mem_cons.2 ⟨Try.func73, (List.forall_mem_cons.2 ⟨Try.func55, (List.forall_mem_cons.2 ⟨Try.func42, (List.forall_mem_cons.2 ⟨Try.func22, (List.forall_mem_cons.2 ⟨Try.func20, (List.forall_mem_cons.2 ⟨Try.func34, (List.forall_mem_cons.2 ⟨Try.func43, (List.forall_mem_cons.2 ⟨Try.func44, (List.forall_mem_cons.2 ⟨Try.func23, (List.forall_mem_cons.2 ⟨Try.func7, (by intro x h; cases h)⟩)⟩)⟩)⟩)⟩)⟩)⟩)⟩)⟩)⟩)⟩)⟩)⟩)⟩)⟩)⟩)⟩)⟩)⟩)⟩)⟩)⟩)⟩)⟩)⟩)⟩)⟩)⟩)⟩)⟩)⟩)⟩)⟩)⟩)⟩)⟩)⟩)⟩)⟩)
  (List.forall_mem_cons.2 ⟨clone_ok (t := 24) (te := 3) (b := 4) (e := (.int .i64)) Try.func60 rfl rfl rfl (by kernel_rfl) (by kernel_rfl) ⟨40, by kernel_rfl⟩, (by intro x h; cases h)⟩)
  (by intro x h; cases h)
  (List.forall_mem_cons.2 ⟨⟨⟨_, Try.func46, by kernel_rfl, rfl⟩, startsAt⟩, (List.forall_mem_cons.2 ⟨⟨⟨_, Try.func58, by kernel_rfl, rfl⟩, outsAt⟩, (List.forall_mem_cons.2 ⟨⟨⟨_, Try.func59, by kernel_rfl, rfl⟩, wrongsAt⟩, (List.forall_mem_cons.2 ⟨⟨⟨_, Try.func39, by kernel_rfl, rfl⟩, sort_do laySort⟩, (List.forall_mem_cons.2 ⟨⟨⟨_, Try.func61, by kernel_rfl, rfl⟩, compact_do layCompact⟩, (by intro x h; cases h)⟩)⟩)⟩)⟩)⟩)
theorem mixed : Try.prog.follows .mixedOrders = true := by kernel_rfl
end Go.Proofs.Ythbkhndapkbgbaa
