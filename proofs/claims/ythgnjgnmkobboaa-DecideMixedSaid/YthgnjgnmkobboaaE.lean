/- The tables of the program, and that they are true. -/
import Derived.Test.YthgnjgnmkobboaaR3
import Derived.Test.YthgnjgnmkobboaaProg
namespace Go.Proofs.Ythgnjgnmkobboaa
open Go Go.Proofs.Ythgnjgnmkobboaa.R
set_option maxRecDepth 100000
noncomputable def E : Env := ⟨[(2, (.int .i64)), (3, (.int .i64)), (4, .bool), (5, (.int .u8)), (6, (.int .u8)), (7, (.pair (.int .i64) (.pair (.int .i64) (.pair .bool (.int .u8))))), (8, (.pair (.int .i64) (.pair (.int .i64) (.pair .bool (.int .u8))))), (12, (.int .u64)), (21, (.int .i32)), (22, (.list (.int .i64))), (23, (.pair (.int .i64) (.pair (.list (.int .i64)) (.list (.int .i64))))), (24, (.pair (.int .i64) (.pair (.list (.int .i64)) (.list (.int .i64))))), (27, (.int .i64)), (42, (.list (.list (.int .i64)))), (51, (.list .bool)), (72, (.list (.pair (.int .i64) (.pair (.list (.int .i64)) (.list (.int .i64)))))), (93, (.int .u64)), (101, (.int .u32)), (102, (.int .u8)), (103, (.int .u8)), (106, (.int .i32)), (107, (.int .i32))],
  [(7, (4, [(0, 2), (1, 3), (2, 4), (3, 6)])), (8, (4, [(0, 2), (1, 3), (2, 4), (3, 6)])), (23, (3, [(0, 3), (1, 22), (2, 22)])), (24, (3, [(0, 3), (1, 22), (2, 22)]))],
  [(81, (4001, .bool))],
  [(1, ()), (15, ()), (16, ()), (17, ()), (25, ()), (26, ()), (29, ()), (31, ()), (33, ()), (35, ()), (36, ()), (37, ()), (38, ()), (39, ()), (40, ()), (41, ()), (43, ()), (45, ()), (46, ()), (47, ()), (48, ()), (49, ()), (50, ()), (52, ()), (53, ()), (55, ()), (57, ()), (58, ()), (59, ()), (60, ()), (62, ()), (64, ()), (66, ()), (68, ()), (69, ()), (70, ()), (71, ()), (73, ()), (74, ()), (75, ()), (76, ()), (77, ()), (78, ()), (80, ()), (82, ()), (83, ()), (84, ()), (85, ()), (86, ()), (88, ()), (89, ()), (90, ()), (91, ()), (92, ()), (94, ()), (100, ()), (104, ()), (105, ())],
  [(15, ([.ro], [(.d .bool)])), (16, ([.ro], [(.d .bool)])), (24, ([.ro], [(.d (.int .i64))])), (68, ([.ro, .ro], [(.d (.int .i64))])), (52, ([.ro, .ro], [(.d .bool)])), (53, ([.ro], [(.own (.int .i64))])), (17, ([.ro, .ro], [(.own (.int .i64)), (.d (.int .i64))])), (32, ([.ro, .ro], [(.d .bool)])), (25, ([.ro], [(.d (.int .i64))])), (69, ([.ro, .ro, .ro], [(.own (.int .i64))])), (54, ([.ro, .ro], [(.own (.int .i64))])), (18, ([.ro, .ro], [(.own (.int .i64)), (.d (.int .i64))])), (55, ([.mv (.own (.int .i64))], [(.d (.int .i64)), (.own (.int .i64))])), (19, ([.ro], [(.d (.int .i64)), (.own (.int .i64)), (.d (.int .i64))])), (56, ([.ro], [(.own (.int .i64))])), (20, ([.ro], [(.d (.int .i64)), (.own (.int .i64)), (.d (.int .i64))])), (67, ([.ro, .ro], [(.d .bool)])), (47, ([.ro], [(.d (.int .i64))])), (21, ([.ro, .ro], [(.d (.int .i64)), (.own (.int .i64)), (.d (.int .i64))])), (57, ([.ro], [(.d .bool)])), (50, ([.ro, .ro], [(.d .bool)])), (51, ([.ro], [(.d (.int .i64))])), (58, ([.ro, .ro], [(.d (.int .u8))])), (30, ([.ro], [(.d (.int .i64))])), (31, ([.ro, .ro], [(.d .bool)])), (22, ([.ro, .ro], [(.d (.int .i64)), (.own (.int .i64)), (.d (.int .i64))])), (23, ([.ro, .ro], [(.d .bool)])), (3, ([.ro, .ro, .ro], [(.d .bool)])), (28, ([.ro], [(.own (.int .i64)), (.d .bool)])), (26, ([], [(.d .bool)])), (4, ([], [(.d .bool)])), (27, ([.ro], [(.d .bool)])), (29, ([.ro], [(.own (.int .i64))])), (5, ([.ro], [(.d .bool)])), (33, ([.ro, .ro], [(.d .bool)])), (6, ([.ro, .ro], [(.d .bool)])), (7, ([.ro, .ro], [(.d .bool)])), (8, ([.ro, .ro], [(.d .bool)])), (34, ([.ro], [(.agg (.d (.int .i64)) (.agg (.own (.int .i64)) (.own (.int .i64))))])), (35, ([.ro], [(.agg (.d (.int .i64)) (.agg (.own (.int .i64)) (.own (.int .i64)))), (.d (.int .i64))])), (36, ([.ro], [(.agg (.d (.int .i64)) (.agg (.own (.int .i64)) (.own (.int .i64)))), (.d (.int .i64))])), (61, ([.ro, .ro], [(.d (.int .i64))])), (59, ([.ro, .ro], [(.agg (.d (.int .i64)) (.agg (.own (.int .i64)) (.own (.int .i64)))), (.d (.int .i64))])), (37, ([.ro, .ro], [(.agg (.d (.int .i64)) (.agg (.own (.int .i64)) (.own (.int .i64)))), (.d (.int .i64))])), (60, ([.ro, .ro, .ro], [(.agg (.d (.int .i64)) (.agg (.own (.int .i64)) (.own (.int .i64))))])), (38, ([.ro, .ro, .ro], [(.agg (.d (.int .i64)) (.agg (.own (.int .i64)) (.own (.int .i64)))), (.d (.int .i64))])), (39, ([.ro, .ro], [(.agg (.d (.int .i64)) (.agg (.own (.int .i64)) (.own (.int .i64)))), (.d (.int .i64))])), (40, ([.ro, .ro], [(.d .bool)])), (41, ([.ro, .ro], [(.d (.int .u8)), (.d (.int .i64))])), (42, ([.ro, .ro], [(.d (.int .u8)), (.d (.int .i64))])), (63, ([.ro], [(.d .bool)])), (62, ([.ro, .ro], [(.d (.int .i64))])), (73, ([.ro], [(.d .bool)])), (70, ([.ro, .ro], [(.d .bool)])), (71, ([.ro], [(.d .bool)])), (64, ([.ro, .ro], [(.d (.int .i64)), (.d .bool)])), (43, ([.ro, .ro], [(.d (.int .i64)), (.d (.int .i64))])), (72, ([.ro, .ro], [(.d (.int .i64))])), (65, ([.ro, .ro], [(.d (.int .i64))])), (44, ([.ro, .ro], [(.d (.int .i64)), (.d (.int .i64))])), (45, ([.ro, .ro], [(.agg (.d (.int .i64)) (.agg (.own (.int .i64)) (.own (.int .i64)))), (.d (.int .i64))])), (66, ([.ro, .ro], [(.agg (.d (.int .i64)) (.agg (.own (.int .i64)) (.own (.int .i64))))])), (46, ([.ro, .ro], [(.agg (.d (.int .i64)) (.agg (.own (.int .i64)) (.own (.int .i64)))), (.d (.int .i64))]))],
  [(15, Try.f15), (16, Try.f16), (24, Try.f24), (68, Try.f68), (52, Try.f52), (53, Try.f53), (17, Try.f17), (32, Try.f32), (25, Try.f25), (69, Try.f69), (54, Try.f54), (18, Try.f18), (55, Try.f55), (19, Try.f19), (56, Try.f56), (20, Try.f20), (67, Try.f67), (47, Try.f47), (21, Try.f21), (57, Try.f57), (50, Try.f50), (51, Try.f51), (58, Try.f58), (30, Try.f30), (31, Try.f31), (22, Try.f22), (23, Try.f23), (3, Try.f3), (28, Try.f28), (26, Try.f26), (4, Try.f4), (27, Try.f27), (29, Try.f29), (5, Try.f5), (33, Try.f33), (6, Try.f6), (7, Try.f7), (8, Try.f8), (34, Try.f34), (35, Try.f35), (36, Try.f36), (61, Try.f61), (59, Try.f59), (37, Try.f37), (60, Try.f60), (38, Try.f38), (39, Try.f39), (40, Try.f40), (41, Try.f41), (42, Try.f42), (63, Try.f63), (62, Try.f62), (73, Try.f73), (70, Try.f70), (71, Try.f71), (64, Try.f64), (43, Try.f43), (72, Try.f72), (65, Try.f65), (44, Try.f44), (45, Try.f45), (66, Try.f66), (46, Try.f46)],
  [(53, (.int .i64))],
  [(24, [(5, [0, 3, 9, 10, 11])]), (68, [(2, [0, 1, 7, 8])]), (17, [(10, [7, 8])]), (32, [(2, [0, 1, 5])]), (25, [(4, [0, 3]), (9, [0, 3, 4])]), (54, [(3, [5, 6])]), (55, [(5, [0, 4, 5, 6]), (7, [0, 4, 5, 6, 7, 26])]), (56, [(7, [0, 3, 4, 5])]), (47, [(5, [1, 3, 21, 22, 23]), (12, [1, 45, 46, 47])]), (21, [(9, [0, 3, 9, 29, 30, 31]), (14, [3, 9, 12])]), (58, [(2, [1, 2, 5])]), (30, [(4, [1, 3]), (10, [1, 4, 5])]), (22, [(6, [0, 3])]), (23, [(4, [0, 1, 5])]), (28, [(3, [0, 4, 5])]), (4, [(3, [1, 2]), (12, [11, 12])]), (27, [(2, [0, 3])]), (29, [(3, [0, 3, 4]), (8, [0, 3, 4, 5])]), (5, [(9, [3, 4, 6, 7])]), (33, [(2, [0, 1, 5])]), (6, [(10, [3, 5, 6, 8, 9, 10, 11, 12]), (19, [5, 6, 8, 9, 13])]), (8, [(6, [0, 1, 5, 6, 7, 8])]), (62, [(2, [0, 1, 7, 8])]), (64, [(3, [0, 1, 6, 7, 8])]), (72, [(3, [1, 2, 5, 6])]), (65, [(2, [1, 2, 5])]), (66, [(3, [1, 2, 4, 5, 6])])],
  [(8, [(6, [7])]), (22, [(6, [0, 3])])],
  [(6, [(12, 15), (21, 12)]), (7, [(12, 32)]), (8, [(12, 11), (19, 4)]), (17, [(10, 13), (12, 17)]), (20, [(5, 5)]), (23, [(6, 8)]), (25, [(6, 20), (11, 8)]), (29, [(8, 12), (10, 15)]), (30, [(6, 20), (12, 16)]), (34, [(1, 10)]), (45, [(9, 12)]), (54, [(5, 8)]), (55, [(10, 12), (15, 13)]), (56, [(11, 13), (13, 13)]), (58, [(6, 7)]), (59, [(6, 7), (7, 17)]), (66, [(1, 10), (6, 8)]), (69, [(2, 13)])],
  []⟩
noncomputable def b15 : Code := (Try.f15.body).getD .skip
noncomputable def b16 : Code := (Try.f16.body).getD .skip
noncomputable def b24 : Code := (Try.f24.body).getD .skip
noncomputable def b68 : Code := (Try.f68.body).getD .skip
noncomputable def b52 : Code := (Try.f52.body).getD .skip
noncomputable def b53 : Code := (Try.f53.body).getD .skip
noncomputable def b17 : Code := (Try.f17.body).getD .skip
noncomputable def b32 : Code := (Try.f32.body).getD .skip
noncomputable def b25 : Code := (Try.f25.body).getD .skip
noncomputable def b69 : Code := (Try.f69.body).getD .skip
noncomputable def b54 : Code := (Try.f54.body).getD .skip
noncomputable def b18 : Code := (Try.f18.body).getD .skip
noncomputable def b55 : Code := (Try.f55.body).getD .skip
noncomputable def b19 : Code := (Try.f19.body).getD .skip
noncomputable def b56 : Code := (Try.f56.body).getD .skip
noncomputable def b20 : Code := (Try.f20.body).getD .skip
noncomputable def b67 : Code := (Try.f67.body).getD .skip
noncomputable def b47 : Code := (Try.f47.body).getD .skip
noncomputable def b21 : Code := (Try.f21.body).getD .skip
noncomputable def b57 : Code := (Try.f57.body).getD .skip
noncomputable def b50 : Code := (Try.f50.body).getD .skip
noncomputable def b51 : Code := (Try.f51.body).getD .skip
noncomputable def b58 : Code := (Try.f58.body).getD .skip
noncomputable def b30 : Code := (Try.f30.body).getD .skip
noncomputable def b31 : Code := (Try.f31.body).getD .skip
noncomputable def b22 : Code := (Try.f22.body).getD .skip
noncomputable def b23 : Code := (Try.f23.body).getD .skip
noncomputable def b3 : Code := (Try.f3.body).getD .skip
noncomputable def b28 : Code := (Try.f28.body).getD .skip
noncomputable def b26 : Code := (Try.f26.body).getD .skip
noncomputable def b4 : Code := (Try.f4.body).getD .skip
noncomputable def b27 : Code := (Try.f27.body).getD .skip
noncomputable def b29 : Code := (Try.f29.body).getD .skip
noncomputable def b5 : Code := (Try.f5.body).getD .skip
noncomputable def b33 : Code := (Try.f33.body).getD .skip
noncomputable def b6 : Code := (Try.f6.body).getD .skip
noncomputable def b7 : Code := (Try.f7.body).getD .skip
noncomputable def b8 : Code := (Try.f8.body).getD .skip
noncomputable def b34 : Code := (Try.f34.body).getD .skip
noncomputable def b35 : Code := (Try.f35.body).getD .skip
noncomputable def b36 : Code := (Try.f36.body).getD .skip
noncomputable def b61 : Code := (Try.f61.body).getD .skip
noncomputable def b59 : Code := (Try.f59.body).getD .skip
noncomputable def b37 : Code := (Try.f37.body).getD .skip
noncomputable def b60 : Code := (Try.f60.body).getD .skip
noncomputable def b38 : Code := (Try.f38.body).getD .skip
noncomputable def b39 : Code := (Try.f39.body).getD .skip
noncomputable def b40 : Code := (Try.f40.body).getD .skip
noncomputable def b41 : Code := (Try.f41.body).getD .skip
noncomputable def b42 : Code := (Try.f42.body).getD .skip
noncomputable def b63 : Code := (Try.f63.body).getD .skip
noncomputable def b62 : Code := (Try.f62.body).getD .skip
noncomputable def b73 : Code := (Try.f73.body).getD .skip
noncomputable def b70 : Code := (Try.f70.body).getD .skip
noncomputable def b71 : Code := (Try.f71.body).getD .skip
noncomputable def b64 : Code := (Try.f64.body).getD .skip
noncomputable def b43 : Code := (Try.f43.body).getD .skip
noncomputable def b72 : Code := (Try.f72.body).getD .skip
noncomputable def b65 : Code := (Try.f65.body).getD .skip
noncomputable def b44 : Code := (Try.f44.body).getD .skip
noncomputable def b45 : Code := (Try.f45.body).getD .skip
noncomputable def b66 : Code := (Try.f66.body).getD .skip
noncomputable def b46 : Code := (Try.f46.body).getD .skip
theorem e_ok : AllOk Try.prog E := allOk (by kernel_rfl) (by kernel_rfl) (by kernel_rfl) (by kernel_rfl) (by kernel_rfl)
  (List.forall_mem_cons.2 ⟨Try.func15, (List.forall_mem_cons.2 ⟨Try.func16, (List.forall_mem_cons.2 ⟨Try.func24, (List.forall_mem_cons.2 ⟨Try.func68, (List.forall_mem_cons.2 ⟨Try.func52, (List.forall_mem_cons.2 ⟨Try.func53, (List.forall_mem_cons.2 ⟨Try.func17, (List.forall_mem_cons.2 ⟨Try.func32, (List.forall_mem_cons.2 ⟨Try.func25, (List.forall_mem_cons.2 ⟨Try.func69, (List.forall_mem_cons.2 ⟨Try.func54, (List.forall_mem_cons.2 ⟨Try.func18, (List.forall_mem_cons.2 ⟨Try.func55, (List.forall_mem_cons.2 ⟨Try.func19, (List.forall_mem_cons.2 ⟨Try.func56, (List.forall_mem_cons.2 ⟨Try.func20, (List.forall_mem_cons.2 ⟨Try.func67, (List.forall_mem_cons.2 ⟨Try.func47, (List.forall_mem_cons.2 ⟨Try.func21, (List.forall_mem_cons.2 ⟨Try.func57, (List.forall_mem_cons.2 ⟨Try.func50, (List.forall_mem_cons.2 ⟨Try.func51, (List.forall_mem_cons.2 ⟨Try.func58, (List.forall_mem_cons.2 ⟨Try.func30, (List.forall_mem_cons.2 ⟨Try.func31, (List.forall_mem_cons.2 ⟨Try.func22, (List.forall_mem_cons.2 ⟨Try.func23, (List.forall_mem_cons.2 ⟨Try.func3, (List.forall_mem_cons.2 ⟨Try.func28, (List.forall_mem_cons.2 ⟨Try.func26, (List.forall_mem_cons.2 ⟨Try.func4, (List.forall_mem_cons.2 ⟨Try.func27, (List.forall_mem_cons.2 ⟨Try.func29, (List.forall_mem_cons.2 ⟨Try.func5, (List.forall_mem_cons.2 ⟨Try.func33, (List.forall_mem_cons.2 ⟨Try.func6, (List.forall_mem_cons.2 ⟨Try.func7, (List.forall_mem_cons.2 ⟨Try.func8, (List.forall_mem_cons.2 ⟨Try.func34, (List.forall_mem_cons.2 ⟨Try.func35, (List.forall_mem_cons.2 ⟨Try.func36, (List.forall_mem_cons.2 ⟨Try.func61, (List.forall_mem_cons.2 ⟨Try.func59, (List.forall_mem_cons.2 ⟨Try.func37, (List.forall_mem_cons.2 ⟨Try.func60, (List.forall_mem_cons.2 ⟨Try.func38, (List.forall_mem_cons.2 ⟨Try.func39, (List.forall_mem_cons.2 ⟨Try.func40, (List.forall_mem_cons.2 ⟨Try.func41, (List.forall_mem_cons.2 ⟨Try.func42, (List.forall_mem_cons.2 ⟨Try.func63, (List.forall_mem_cons.2 ⟨Try.func62, (List.forall_mem_cons.2 ⟨Try.func73, (List.forall_mem_cons.2 ⟨Try.func70, (List.forall_mem_cons.2 ⟨Try.func71, (List.forall_mem_cons.2 ⟨Try.func64, (List.forall_mem_cons.2 ⟨Try.func43, (List.forall_mem_cons.2 ⟨Try.func72, (List.forall_mem_cons.2 ⟨Try.func65, (List.forall_mem_cons.2 ⟨Try.func44, (List.forall_mem_cons.2 ⟨Try.func45, (List.forall_mem_cons.2 ⟨Try.func66, (List.forall_mem_cons.2 ⟨Try.func46, (by intro x h; cases h)⟩)⟩)⟩)⟩)⟩)⟩)⟩)⟩)⟩)⟩)⟩)⟩)⟩)⟩)⟩)⟩)⟩)⟩)⟩)⟩)⟩)⟩)⟩)⟩)⟩)⟩)⟩)⟩)⟩)⟩)⟩)⟩)⟩)⟩)⟩)⟩)⟩)⟩)⟩)⟩)⟩)⟩)⟩)⟩)⟩)⟩)⟩)⟩)⟩)⟩)⟩)⟩)⟩)⟩)⟩)⟩)⟩)⟩)⟩)⟩)⟩)⟩)⟩)
  (List.forall_mem_cons.2 ⟨clone_ok (t := 22) (te := 3) (b := 4) (e := (.int .i64)) Try.func53 rfl rfl rfl (by kernel_rfl) (by kernel_rfl) ⟨40, by kernel_rfl⟩, (by intro x h; cases h)⟩)
  (by intro x h; cases h)
theorem mixed : Try.prog.follows .mixedOrders = true := by kernel_rfl
end Go.Proofs.Ythgnjgnmkobboaa
