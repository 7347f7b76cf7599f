/- The tables of the program, and that they are true. -/
import Derived.Test.YtcgbilghglbgaaaW
import Derived.Test.YtcgbilghglbgaaaProg
namespace Go.Proofs.Ytcgbilghglbgaaa
open Go Go.Proofs.Ytcgbilghglbgaaa.R
set_option maxRecDepth 100000
noncomputable def E : Env := ⟨[(2, (.int .i64)), (3, (.int .i64)), (4, .bool), (5, (.int .u8)), (6, (.int .u8)), (7, (.pair (.int .i64) (.pair (.int .i64) (.pair .bool (.int .u8))))), (8, (.pair (.int .i64) (.pair (.int .i64) (.pair .bool (.int .u8))))), (12, (.int .u64)), (21, (.int .i32)), (22, (.list (.pair (.int .i64) (.int .i64)))), (23, (.list (.pair (.int .i64) (.int .i64)))), (24, (.list (.int .i64))), (25, (.pair (.int .i64) (.pair (.list (.pair (.int .i64) (.int .i64))) (.pair (.list (.pair (.int .i64) (.int .i64))) (.pair (.list (.int .i64)) (.list (.int .i64))))))), (26, (.pair (.int .i64) (.pair (.list (.pair (.int .i64) (.int .i64))) (.pair (.list (.pair (.int .i64) (.int .i64))) (.pair (.list (.int .i64)) (.list (.int .i64))))))), (29, (.list (.list (.int .i64)))), (30, (.pair (.int .i64) (.pair (.list (.list (.int .i64))) (.list (.list (.int .i64)))))), (31, (.pair (.int .i64) (.pair (.list (.list (.int .i64))) (.list (.list (.int .i64)))))), (32, (.int .i64)), (36, (.list .bool)), (47, (.pair (.int .i64) (.int .i64))), (48, (.pair (.int .i64) (.int .i64))), (63, (.int .u64)), (69, (.pair (.int .i64) (.int .i64))), (70, (.pair (.int .i64) (.int .i64))), (78, (.int .i64)), (86, (.int .u32)), (88, (.int .u64)), (91, (.int .u64)), (107, (.int .u8)), (108, (.int .u8)), (111, (.int .i32)), (112, (.int .i32))],
  [(7, (4, [(0, 2), (1, 3), (2, 4), (3, 6)])), (8, (4, [(0, 2), (1, 3), (2, 4), (3, 6)])), (25, (5, [(0, 3), (1, 22), (2, 23), (3, 24), (4, 24)])), (26, (5, [(0, 3), (1, 22), (2, 23), (3, 24), (4, 24)])), (30, (3, [(0, 3), (1, 29), (2, 29)])), (31, (3, [(0, 3), (1, 29), (2, 29)])), (47, (2, [(0, 3), (1, 3)])), (48, (2, [(0, 3), (1, 3)])), (69, (2, [(0, 3), (1, 3)])), (70, (2, [(0, 3), (1, 3)]))],
  [(58, (4, (.int .i64))), (64, (2, (.int .i64)))],
  [(1, ()), (15, ()), (16, ()), (17, ()), (27, ()), (28, ()), (34, ()), (35, ()), (38, ()), (39, ()), (40, ()), (41, ()), (42, ()), (43, ()), (45, ()), (46, ()), (49, ()), (50, ()), (52, ()), (53, ()), (54, ()), (55, ()), (56, ()), (57, ()), (59, ()), (61, ()), (62, ()), (65, ()), (66, ()), (67, ()), (68, ()), (71, ()), (72, ()), (73, ()), (74, ()), (75, ()), (76, ()), (77, ()), (80, ()), (81, ()), (82, ()), (84, ()), (85, ()), (87, ()), (89, ()), (90, ()), (92, ()), (93, ()), (94, ()), (95, ()), (96, ()), (97, ()), (99, ()), (100, ()), (106, ()), (109, ()), (110, ())],
  [(10, ([], [(.agg (.d (.int .i64)) (.agg (.own (.pair (.int .i64) (.int .i64))) (.agg (.own (.pair (.int .i64) (.int .i64))) (.agg (.own (.int .i64)) (.own (.int .i64))))))])), (24, ([.ro], [(.d (.int .i64))])), (14, ([.ro], [(.d (.int .i64)), (.d (.int .i64))])), (15, ([.ro, .ro, .io (.own .bool)], [])), (16, ([.ro, .ro], [(.d (.int .i64))])), (36, ([.ro, .ro], [(.d .bool)])), (37, ([.ro], [(.own (.int .i64))])), (26, ([.ro, .ro], [(.own (.int .i64)), (.d .bool), (.d (.int .i64))])), (17, ([.mv (.own (.list (.int .i64))), .ro, .ro], [(.own (.list (.int .i64)))])), (6, ([.ro, .ro], [(.agg (.d (.int .i64)) (.agg (.own (.list (.int .i64))) (.own (.list (.int .i64))))), (.d (.int .i64))])), (30, ([.ro, .ro], [(.d .bool)])), (22, ([.ro, .ro], [(.d .bool)])), (11, ([.ro, .ro], [(.d .bool)])), (4, ([], [(.d .bool)])), (12, ([.ro], [(.d .bool)])), (7, ([.ro], [(.d (.int .i64))])), (31, ([.ro, .ro], [(.d .bool)])), (23, ([.ro], [(.d (.int .i64))])), (13, ([.ro, .ro], [(.d (.int .i64))])), (5, ([.ro, .ro], [(.d .bool)])), (27, ([.ro], [(.d (.int .i64))])), (18, ([.ro], [(.d (.int .i64)), (.d .bool), (.d (.int .i64))])), (8, ([.ro, .ro], [(.own (.int .i64)), (.d (.int .i64))])), (9, ([.ro, .ro], [(.d (.int .i64))])), (3, ([.ro, .ro], [(.d .bool)]))],
  [(10, Try.f10), (25, Try.f25), (34, Try.f34), (35, Try.f35), (24, Try.f24), (14, Try.f14), (15, Try.f15), (16, Try.f16), (36, Try.f36), (37, Try.f37), (21, Try.f21), (38, Try.f38), (26, Try.f26), (17, Try.f17), (6, Try.f6), (30, Try.f30), (22, Try.f22), (11, Try.f11), (4, Try.f4), (12, Try.f12), (7, Try.f7), (31, Try.f31), (23, Try.f23), (13, Try.f13), (5, Try.f5), (27, Try.f27), (18, Try.f18), (9, Try.f9), (3, Try.f3)],
  [(37, (.int .i64))],
  [(24, [(11, [3, 52, 53, 54])]), (15, [(3, [2, 3, 12, 13, 14]), (9, [2, 3, 8, 9])]), (38, [(4, [0, 3]), (9, [0, 3, 4, 5])]), (26, [(4, [0, 1, 16, 17, 18]), (13, [4, 34, 35])]), (17, [(3, [0, 1, 7, 13, 14, 15])]), (6, [(5, [1, 2, 4, 6, 29, 30, 31]), (15, [2, 4, 6, 10, 11, 12, 13]), (23, [4, 10, 11, 12, 14, 85, 86, 87])]), (30, [(4, [0, 1, 5])]), (22, [(4, [0, 1, 5])]), (31, [(2, [0, 1, 5])]), (23, [(9, [1, 3, 4]), (14, [1, 5])]), (13, [(5, [1, 2, 6])]), (27, [(2, [5, 6, 7])]), (3, [(9, [1, 2, 5, 6, 8, 9]), (15, [1, 2, 5, 6, 8, 9, 10, 12]), (22, [2, 5, 6, 8, 13, 14, 15]), (33, [5, 6, 13, 14, 16])])],
  [],
  [(3, [(5, 17), (11, 9)]), (6, [(26, 14)]), (13, [(7, 14)]), (15, [(13, 1000)]), (22, [(6, 8)]), (26, [(15, 14)]), (30, [(6, 8)])],
  [],
  [(25, .calc startsF), (34, .calc (outsF 32)), (35, .calc (wrongsF 32 33)), (21, .inplace (.int .i64) sortI none), (38, .take (.int .i64) Lib.compact)],
  [(8, coneHK sortI)]⟩
def opsIn : Code → Array Oper
  | .region _ ops _ => ops
  | _ => #[]
noncomputable def b10 : Code := (Try.f10.body).getD .skip
noncomputable def b25 : Code := (Try.f25.body).getD .skip
noncomputable def b34 : Code := (Try.f34.body).getD .skip
noncomputable def b35 : Code := (Try.f35.body).getD .skip
noncomputable def b24 : Code := (Try.f24.body).getD .skip
noncomputable def b14 : Code := (Try.f14.body).getD .skip
noncomputable def b15 : Code := (Try.f15.body).getD .skip
noncomputable def b16 : Code := (Try.f16.body).getD .skip
noncomputable def b36 : Code := (Try.f36.body).getD .skip
noncomputable def b37 : Code := (Try.f37.body).getD .skip
noncomputable def b21 : Code := (Try.f21.body).getD .skip
noncomputable def b38 : Code := (Try.f38.body).getD .skip
noncomputable def b26 : Code := (Try.f26.body).getD .skip
noncomputable def b17 : Code := (Try.f17.body).getD .skip
noncomputable def b6 : Code := (Try.f6.body).getD .skip
noncomputable def b30 : Code := (Try.f30.body).getD .skip
noncomputable def b22 : Code := (Try.f22.body).getD .skip
noncomputable def b11 : Code := (Try.f11.body).getD .skip
noncomputable def b4 : Code := (Try.f4.body).getD .skip
noncomputable def b12 : Code := (Try.f12.body).getD .skip
noncomputable def b7 : Code := (Try.f7.body).getD .skip
noncomputable def b31 : Code := (Try.f31.body).getD .skip
noncomputable def b23 : Code := (Try.f23.body).getD .skip
noncomputable def b13 : Code := (Try.f13.body).getD .skip
noncomputable def b5 : Code := (Try.f5.body).getD .skip
noncomputable def b27 : Code := (Try.f27.body).getD .skip
noncomputable def b18 : Code := (Try.f18.body).getD .skip
noncomputable def b9 : Code := (Try.f9.body).getD .skip
noncomputable def b3 : Code := (Try.f3.body).getD .skip
theorem e_ok : AllOk Try.prog E := allOk (by kernel_rfl) (by kernel_rfl) (by kernel_rfl) (by kernel_rfl) (by kernel_rfl)
  (List.forall_mem_cons.2 ⟨Try.func10, (List.forall_mem_cons.2 ⟨Try.func25, (List.forall_mem_cons.2 ⟨Try.func34, (List.forall_mem_cons.2 ⟨Try.func35, (List.forall_mem_cons.2 ⟨Try.func24, (List.forall_mem_cons.2 ⟨Try.func14, (List.forall_mem_cons.2 ⟨Try.func15, (List.forall_mem_cons.2 ⟨Try.func16, (List.forall_mem_cons.2 ⟨Try.func36, (List.forall_mem_cons.2 ⟨Try.func37, (List.forall_mem_cons.2 ⟨Try.func21, (List.forall_mem_cons.2 ⟨Try.func38, (List.forall_mem_cons.2 ⟨Try.func26, (List.forall_mem_cons.2 ⟨Try.func17, (List.forall_mem_cons.2 ⟨Try.func6, (List.forall_mem_cons.2 ⟨Try.func30, (List.forall_mem_cons.2 ⟨Try.func22, (List.forall_mem_cons.2 ⟨Try.func11, (List.forall_mem_cons.2 ⟨Try.func4, (List.forall_mem_cons.2 ⟨Try.func12, (List.forall_mem_cons.2 ⟨Try.func7, (List.forall_mem_cons.2 ⟨Try.func31, (List.forall_mem_cons.2 ⟨Try.func23, (List.forall_mem_cons.2 ⟨Try.func13, (List.forall_mem_cons.2 ⟨Try.func5, (List.forall_mem_cons.2 ⟨Try.func27, (List.forall_mem_cons.2 ⟨Try.func18, (List.forall_mem_cons.2 ⟨Try.func9, (List.forall_mem_cons.2 ⟨Try.func3, (by intro x h; cases h)⟩)⟩)⟩)⟩)⟩)⟩)⟩)⟩)⟩)⟩)⟩)⟩)⟩)⟩)⟩)⟩)⟩)⟩)⟩)⟩)⟩)⟩)⟩)⟩)⟩)⟩)⟩)⟩)⟩)
  (List.forall_mem_cons.2 ⟨clone_ok (t := 24) (te := 3) (b := 4) (e := (.int .i64)) Try.func37 rfl rfl rfl (by kernel_rfl) (by kernel_rfl) ⟨40, by kernel_rfl⟩, (by intro x h; cases h)⟩)
  (by intro x h; cases h)
  (List.forall_mem_cons.2 ⟨⟨⟨_, Try.func25, by kernel_rfl, rfl⟩, startsAt⟩, (List.forall_mem_cons.2 ⟨⟨⟨_, Try.func34, by kernel_rfl, rfl⟩, outsAt⟩, (List.forall_mem_cons.2 ⟨⟨⟨_, Try.func35, by kernel_rfl, rfl⟩, wrongsAt⟩, (List.forall_mem_cons.2 ⟨⟨⟨_, Try.func21, by kernel_rfl, rfl⟩, sort_do laySort⟩, (List.forall_mem_cons.2 ⟨⟨⟨_, Try.func38, by kernel_rfl, rfl⟩, compact_do layCompact⟩, (by intro x h; cases h)⟩)⟩)⟩)⟩)⟩)
  (List.forall_mem_cons.2 ⟨⟨⟨_, Try.func8, by kernel_rfl, rfl⟩, coneDo (sort_do laySort) (by kernel_rfl) (by kernel_rfl) (by kernel_rfl)⟩, (by intro x h; cases h)⟩)
theorem mixed : Try.prog.follows .mixedOrders = true := by kernel_rfl
end Go.Proofs.Ytcgbilghglbgaaa
