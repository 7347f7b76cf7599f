/- The tables of the program, and that they are true. -/
import Derived.Test.YthbkhndapkbgbaaS
import Derived.Test.YthbkhndapkbgbaaProg
namespace Go.Proofs.Ythbkhndapkbgbaa
open Go Go.Proofs.Ythbkhndapkbgbaa.R
set_option maxRecDepth 100000
noncomputable def E : Env := ⟨[(2, (.int .i64)), (3, (.int .i64)), (4, .bool), (5, (.int .u8)), (6, (.int .u8)), (7, (.pair (.int .i64) (.pair (.int .i64) (.pair .bool (.int .u8))))), (8, (.pair (.int .i64) (.pair (.int .i64) (.pair .bool (.int .u8))))), (12, (.int .u64)), (21, (.int .i32)), (22, (.list (.pair (.int .i64) (.int .i64)))), (23, (.list (.pair (.int .i64) (.int .i64)))), (24, (.list (.int .i64))), (25, (.pair (.int .i64) (.pair (.list (.pair (.int .i64) (.int .i64))) (.pair (.list (.pair (.int .i64) (.int .i64))) (.pair (.list (.int .i64)) (.list (.int .i64))))))), (26, (.pair (.int .i64) (.pair (.list (.pair (.int .i64) (.int .i64))) (.pair (.list (.pair (.int .i64) (.int .i64))) (.pair (.list (.int .i64)) (.list (.int .i64))))))), (28, (.list (.int .u64))), (29, (.int .i64)), (34, (.int .u64)), (37, (.list (.list (.int .i64)))), (38, (.pair (.int .i64) (.pair (.list (.list (.int .i64))) (.list (.list (.int .i64)))))), (39, (.pair (.int .i64) (.pair (.list (.list (.int .i64))) (.list (.list (.int .i64)))))), (45, (.pair (.int .i64) (.int .i64))), (46, (.pair (.int .i64) (.int .i64))), (47, (.pair (.int .i64) (.int .i64))), (48, (.pair (.int .i64) (.int .i64))), (49, (.list (.pair (.int .i64) (.pair (.list (.list (.int .i64))) (.list (.list (.int .i64))))))), (52, (.list .bool)), (89, (.int .u64)), (105, (.int .i64)), (113, (.int .u32)), (118, (.int .u64)), (134, (.int .u8)), (135, (.int .u8)), (138, (.int .i32)), (139, (.int .i32))],
  [(7, (4, [(0, 2), (1, 3), (2, 4), (3, 6)])), (8, (4, [(0, 2), (1, 3), (2, 4), (3, 6)])), (25, (5, [(0, 3), (1, 22), (2, 23), (3, 24), (4, 24)])), (26, (5, [(0, 3), (1, 22), (2, 23), (3, 24), (4, 24)])), (38, (3, [(0, 3), (1, 37), (2, 37)])), (39, (3, [(0, 3), (1, 37), (2, 37)])), (45, (2, [(0, 3), (1, 3)])), (46, (2, [(0, 3), (1, 3)])), (47, (2, [(0, 3), (1, 3)])), (48, (2, [(0, 3), (1, 3)]))],
  [(65, (6, (.int .u64))), (87, (4, (.int .i64))), (96, (2, (.int .i64)))],
  [(1, ()), (15, ()), (16, ()), (17, ()), (27, ()), (31, ()), (33, ()), (35, ()), (36, ()), (41, ()), (42, ()), (43, ()), (44, ()), (50, ()), (51, ()), (54, ()), (55, ()), (57, ()), (58, ()), (60, ()), (61, ()), (63, ()), (64, ()), (66, ()), (67, ()), (68, ()), (69, ()), (70, ()), (71, ()), (72, ()), (73, ()), (74, ()), (75, ()), (77, ()), (78, ()), (79, ()), (80, ()), (81, ()), (82, ()), (83, ()), (84, ()), (85, ()), (86, ()), (88, ()), (90, ()), (92, ()), (93, ()), (94, ()), (95, ()), (97, ()), (98, ()), (99, ()), (100, ()), (101, ()), (102, ()), (103, ()), (104, ()), (107, ()), (108, ()), (109, ()), (111, ()), (112, ()), (114, ()), (115, ()), (116, ()), (117, ()), (119, ()), (120, ()), (121, ()), (122, ()), (123, ()), (124, ()), (126, ()), (127, ()), (133, ()), (136, ()), (137, ())],
  [(8, ([.ro], [(.d .bool)])), (45, ([.ro], [(.d (.int .i64))])), (24, ([.ro], [(.d (.int .i64)), (.d (.int .i64))])), (25, ([.ro], [(.d (.int .u64))])), (26, ([.ro], [(.d (.int .u64))])), (9, ([.ro], [(.own (.int .u64)), (.d (.int .i64))])), (18, ([.ro], [(.d (.int .i64))])), (35, ([.ro, .ro], [(.d .bool)])), (17, ([.ro], [(.d (.int .i64))])), (47, ([.ro], [(.d (.int .u64))])), (48, ([.ro, .ro, .ro], [(.d (.int .u64))])), (27, ([.ro], [(.own (.int .u64))])), (10, ([.ro], [(.own (.int .u64)), (.d (.int .i64))])), (3, ([.ro], [(.d .bool)]))],
  [(8, Try.f8), (46, Try.f46), (58, Try.f58), (59, Try.f59), (45, Try.f45), (24, Try.f24), (25, Try.f25), (26, Try.f26), (9, Try.f9), (18, Try.f18), (35, Try.f35), (17, Try.f17), (47, Try.f47), (48, Try.f48), (27, Try.f27), (10, Try.f10), (3, Try.f3)],
  [],
  [(45, [(11, [3, 52, 53, 54])]), (9, [(10, [1, 6, 7, 8, 9, 10, 11]), (18, [7, 9, 12, 62, 63, 64])]), (35, [(2, [0, 1, 5])]), (17, [(9, [1, 3, 4]), (14, [1, 5])]), (27, [(6, [1, 3, 4, 5, 6, 7]), (11, [1, 3, 4, 5, 6, 7, 8, 9]), (18, [1, 3, 4, 10])]), (3, [(8, [3, 5, 7])])],
  [],
  [(3, [(10, 8)]), (9, [(14, 8), (20, 13)]), (26, [(2, 7)]), (27, [(20, 18)])],
  [],
  [(46, .calc startsF), (58, .calc (outsF 56)), (59, .calc (wrongsF 56 57))]⟩
def opsIn : Code → Array Oper
  | .region _ ops _ => ops
  | _ => #[]
noncomputable def b8 : Code := (Try.f8.body).getD .skip
noncomputable def b46 : Code := (Try.f46.body).getD .skip
noncomputable def b58 : Code := (Try.f58.body).getD .skip
noncomputable def b59 : Code := (Try.f59.body).getD .skip
noncomputable def b45 : Code := (Try.f45.body).getD .skip
noncomputable def b24 : Code := (Try.f24.body).getD .skip
noncomputable def b25 : Code := (Try.f25.body).getD .skip
noncomputable def b26 : Code := (Try.f26.body).getD .skip
noncomputable def b9 : Code := (Try.f9.body).getD .skip
noncomputable def b18 : Code := (Try.f18.body).getD .skip
noncomputable def b35 : Code := (Try.f35.body).getD .skip
noncomputable def b17 : Code := (Try.f17.body).getD .skip
noncomputable def b47 : Code := (Try.f47.body).getD .skip
noncomputable def b48 : Code := (Try.f48.body).getD .skip
noncomputable def b27 : Code := (Try.f27.body).getD .skip
noncomputable def b10 : Code := (Try.f10.body).getD .skip
noncomputable def b3 : Code := (Try.f3.body).getD .skip
theorem e_ok : AllOk Try.prog E := allOk (by kernel_rfl) (by kernel_rfl) (by kernel_rfl) (by kernel_rfl) (by kernel_rfl)
  (List.forall_mem_cons.2 ⟨Try.func8, (List.forall_mem_cons.2 ⟨Try.func46, (List.forall_mem_cons.2 ⟨Try.func58, (List.forall_mem_cons.2 ⟨Try.func59, (List.forall_mem_cons.2 ⟨Try.func45, (List.forall_mem_cons.2 ⟨Try.func24, (List.forall_mem_cons.2 ⟨Try.func25, (List.forall_mem_cons.2 ⟨Try.func26, (List.forall_mem_cons.2 ⟨Try.func9, (List.forall_mem_cons.2 ⟨Try.func18, (List.forall_mem_cons.2 ⟨Try.func35, (List.forall_mem_cons.2 ⟨Try.func17, (List.forall_mem_cons.2 ⟨Try.func47, (List.forall_mem_cons.2 ⟨Try.func48, (List.forall_mem_cons.2 ⟨Try.func27, (List.forall_mem_cons.2 ⟨Try.func10, (List.forall_mem_cons.2 ⟨Try.func3, (by intro x h; cases h)⟩)⟩)⟩)⟩)⟩)⟩)⟩)⟩)⟩)⟩)⟩)⟩)⟩)⟩)⟩)⟩)⟩)
  (by intro x h; cases h)
  (by intro x h; cases h)
  (List.forall_mem_cons.2 ⟨⟨⟨_, Try.func46, by kernel_rfl, rfl⟩, startsAt⟩, (List.forall_mem_cons.2 ⟨⟨⟨_, Try.func58, by kernel_rfl, rfl⟩, outsAt⟩, (List.forall_mem_cons.2 ⟨⟨⟨_, Try.func59, by kernel_rfl, rfl⟩, wrongsAt⟩, (by intro x h; cases h)⟩)⟩)⟩)
theorem mixed : Try.prog.follows .mixedOrders = true := by kernel_rfl
end Go.Proofs.Ythbkhndapkbgbaa
