/- Parts of the proof, put together. -/
import Derived.Test.YtgdijpcopdgapaaDoorDC
import Derived.Test.YtgdijpcopdgapaaDoorChecked
import Derived.KernelRfl
import Derived.Test.YtgdijpcopdgapaaDoorDE
/-
  D over this seat's program: what D is told of its types and functions (printed by GenEnv.lean).
-/
namespace Go.Proofs.YtgdijpcopdgapaaDoor.DEnv
open Go.Proofs.YtgdijpcopdgapaaDoor.D
abbrev lf {α : Type} (v : α) : PM α := .node .leaf (some v) .leaf
noncomputable def i0 : DInfo := ⟨Tryd.t0.desc, 1, 0, Tryd.t0.zero, false, false, true⟩
noncomputable def i1 : DInfo := ⟨Tryd.t1.desc, 1, 8, Tryd.t1.zero, false, false, true⟩
noncomputable def i2 : DInfo := ⟨Tryd.t2.desc, 1, 8, Tryd.t2.zero, true, false, true⟩
noncomputable def i3 : DInfo := ⟨Tryd.t3.desc, 1, 8, Tryd.t3.zero, true, false, true⟩
noncomputable def i4 : DInfo := ⟨Tryd.t4.desc, 1, 1, Tryd.t4.zero, true, false, true⟩
noncomputable def i5 : DInfo := ⟨Tryd.t5.desc, 1, 1, Tryd.t5.zero, true, false, true⟩
noncomputable def i6 : DInfo := ⟨Tryd.t5.desc, 1, 1, Tryd.t6.zero, true, false, true⟩
noncomputable def i7 : DInfo := ⟨Tryd.t7.desc, 4, 24, Tryd.t7.zero, true, false, true⟩
noncomputable def i8 : DInfo := ⟨Tryd.t7.desc, 4, 24, Tryd.t8.zero, true, false, true⟩
noncomputable def i9 : DInfo := ⟨Tryd.t9.desc, 1, 16, Tryd.t9.zero, true, false, true⟩
noncomputable def i10 : DInfo := ⟨Tryd.t9.desc, 1, 16, Tryd.t10.zero, true, false, true⟩
noncomputable def i11 : DInfo := ⟨Tryd.t9.desc, 1, 16, Tryd.t11.zero, true, false, true⟩
noncomputable def i12 : DInfo := ⟨Tryd.t12.desc, 1, 8, Tryd.t12.zero, true, false, true⟩
noncomputable def i13 : DInfo := ⟨Tryd.t13.desc, 2, 24, Tryd.t13.zero, true, false, false⟩
noncomputable def i14 : DInfo := ⟨Tryd.t13.desc, 2, 24, Tryd.t14.zero, true, false, false⟩
noncomputable def i15 : DInfo := ⟨Tryd.t15.desc, 1, 8, Tryd.t15.zero, true, false, true⟩
noncomputable def i16 : DInfo := ⟨Tryd.t16.desc, 1, 8, Tryd.t16.zero, true, false, true⟩
noncomputable def i17 : DInfo := ⟨Tryd.t17.desc, 1, 8, Tryd.t17.zero, true, false, true⟩
noncomputable def i18 : DInfo := ⟨Tryd.t18.desc, 1, 8, Tryd.t18.zero, true, false, false⟩
noncomputable def i19 : DInfo := ⟨Tryd.t18.desc, 1, 8, Tryd.t19.zero, true, false, false⟩
noncomputable def i20 : DInfo := ⟨Tryd.t20.desc, 1, 16, Tryd.t20.zero, true, false, true⟩
noncomputable def i21 : DInfo := ⟨Tryd.t21.desc, 1, 4, Tryd.t21.zero, true, false, true⟩
noncomputable def i22 : DInfo := ⟨Tryd.t22.desc, 1, 24, Tryd.t22.zero, false, false, true⟩
noncomputable def i23 : DInfo := ⟨Tryd.t23.desc, 1, 24, Tryd.t23.zero, false, false, true⟩
noncomputable def i24 : DInfo := ⟨Tryd.t24.desc, 1, 8, Tryd.t24.zero, true, false, true⟩
noncomputable def i25 : DInfo := ⟨Tryd.t25.desc, 0, 0, Tryd.t25.zero, true, false, true⟩
noncomputable def i26 : DInfo := ⟨Tryd.t25.desc, 0, 0, Tryd.t26.zero, true, false, true⟩
noncomputable def i27 : DInfo := ⟨Tryd.t25.desc, 0, 0, Tryd.t27.zero, true, false, true⟩
noncomputable def i28 : DInfo := ⟨Tryd.t28.desc, 1, 8, Tryd.t28.zero, true, false, true⟩
noncomputable def i29 : DInfo := ⟨Tryd.t29.desc, 1, 8, Tryd.t29.zero, true, false, false⟩
noncomputable def i30 : DInfo := ⟨Tryd.t29.desc, 1, 8, Tryd.t30.zero, true, false, false⟩
noncomputable def i31 : DInfo := ⟨Tryd.t31.desc, 25, 200, Tryd.t31.zero, true, false, true⟩
noncomputable def i32 : DInfo := ⟨Tryd.t32.desc, 25, 200, Tryd.t32.zero, true, false, true⟩
noncomputable def i33 : DInfo := ⟨Tryd.t32.desc, 25, 200, Tryd.t33.zero, true, false, true⟩
noncomputable def i34 : DInfo := ⟨Tryd.t34.desc, 1, 8, Tryd.t34.zero, true, false, true⟩
noncomputable def i35 : DInfo := ⟨Tryd.t35.desc, 1, 8, Tryd.t35.zero, false, false, true⟩
noncomputable def i36 : DInfo := ⟨Tryd.t36.desc, 1, 24, Tryd.t36.zero, false, false, true⟩
noncomputable def i37 : DInfo := ⟨Tryd.t37.desc, 1, 8, Tryd.t37.zero, false, false, true⟩
noncomputable def i38 : DInfo := ⟨Tryd.t38.desc, 1, 8, Tryd.t38.zero, false, false, true⟩
noncomputable def i39 : DInfo := ⟨Tryd.t39.desc, 1, 24, Tryd.t39.zero, false, false, true⟩
noncomputable def i40 : DInfo := ⟨Tryd.t40.desc, 1, 24, Tryd.t40.zero, false, false, true⟩
noncomputable def i41 : DInfo := ⟨Tryd.t40.desc, 1, 24, Tryd.t41.zero, false, false, true⟩
noncomputable def i42 : DInfo := ⟨Tryd.t42.desc, 2, 24, Tryd.t42.zero, true, false, true⟩
noncomputable def i43 : DInfo := ⟨Tryd.t42.desc, 2, 24, Tryd.t43.zero, true, false, true⟩
noncomputable def i44 : DInfo := ⟨Tryd.t44.desc, 1, 0, Tryd.t44.zero, false, false, true⟩
noncomputable def i45 : DInfo := ⟨Tryd.t45.desc, 1, 8, Tryd.t45.zero, false, false, true⟩
noncomputable def i46 : DInfo := ⟨Tryd.t46.desc, 1, 8, Tryd.t46.zero, false, false, true⟩
noncomputable def i47 : DInfo := ⟨Tryd.t47.desc, 1, 8, Tryd.t47.zero, false, false, true⟩
noncomputable def i48 : DInfo := ⟨Tryd.t48.desc, 1, 24, Tryd.t48.zero, false, false, true⟩
noncomputable def i49 : DInfo := ⟨Tryd.t49.desc, 1, 8, Tryd.t49.zero, false, false, true⟩
noncomputable def i50 : DInfo := ⟨Tryd.t50.desc, 1, 8, Tryd.t50.zero, false, false, true⟩
noncomputable def i51 : DInfo := ⟨Tryd.t51.desc, 1, 4, Tryd.t51.zero, true, false, true⟩
noncomputable def i52 : DInfo := ⟨Tryd.t52.desc, 1, 24, Tryd.t52.zero, false, false, true⟩
noncomputable def i53 : DInfo := ⟨Tryd.t53.desc, 9, 88, Tryd.t53.zero, false, false, true⟩
noncomputable def i54 : DInfo := ⟨Tryd.t53.desc, 9, 88, Tryd.t54.zero, false, false, true⟩
noncomputable def i55 : DInfo := ⟨Tryd.t55.desc, 15, 120, Tryd.t55.zero, false, false, true⟩
noncomputable def i56 : DInfo := ⟨Tryd.t55.desc, 15, 120, Tryd.t56.zero, false, false, true⟩
noncomputable def i57 : DInfo := ⟨Tryd.t3.desc, 1, 8, Tryd.t57.zero, true, false, true⟩
noncomputable def i58 : DInfo := ⟨Tryd.t58.desc, 1, 0, none, false, false, true⟩
noncomputable def i59 : DInfo := ⟨Tryd.t59.desc, 1, 8, Tryd.t59.zero, false, false, true⟩
noncomputable def i60 : DInfo := ⟨Tryd.t60.desc, 1, 8, Tryd.t60.zero, false, false, true⟩
noncomputable def i61 : DInfo := ⟨Tryd.t61.desc, 1, 0, none, false, false, true⟩
noncomputable def i62 : DInfo := ⟨Tryd.t62.desc, 1, 8, Tryd.t62.zero, false, false, true⟩
noncomputable def i63 : DInfo := ⟨Tryd.t63.desc, 1, 8, Tryd.t63.zero, false, false, true⟩
noncomputable def i64 : DInfo := ⟨Tryd.t64.desc, 1, 8, Tryd.t64.zero, false, false, true⟩
noncomputable def i65 : DInfo := ⟨Tryd.t65.desc, 3, 24, Tryd.t65.zero, true, false, true⟩
noncomputable def i66 : DInfo := ⟨Tryd.t65.desc, 3, 24, Tryd.t66.zero, true, false, true⟩
noncomputable def i67 : DInfo := ⟨Tryd.t67.desc, 1, 8, Tryd.t67.zero, false, false, true⟩
noncomputable def i68 : DInfo := ⟨Tryd.t67.desc, 1, 8, Tryd.t68.zero, false, false, true⟩
noncomputable def i69 : DInfo := ⟨Tryd.t69.desc, 1, 8, Tryd.t69.zero, false, false, true⟩
noncomputable def i70 : DInfo := ⟨Tryd.t70.desc, 1, 8, Tryd.t70.zero, false, false, true⟩
noncomputable def i71 : DInfo := ⟨Tryd.t71.desc, 1, 8, Tryd.t71.zero, false, false, true⟩
noncomputable def i72 : DInfo := ⟨Tryd.t72.desc, 1, 0, Tryd.t72.zero, false, false, true⟩
noncomputable def i73 : DInfo := ⟨Tryd.t73.desc, 1, 8, Tryd.t73.zero, false, false, true⟩
noncomputable def i74 : DInfo := ⟨Tryd.t74.desc, 1, 8, Tryd.t74.zero, true, false, true⟩
noncomputable def i75 : DInfo := ⟨Tryd.t75.desc, 1, 8, Tryd.t75.zero, false, false, true⟩
noncomputable def i76 : DInfo := ⟨Tryd.t76.desc, 1, 8, Tryd.t76.zero, false, false, true⟩
noncomputable def i77 : DInfo := ⟨Tryd.t77.desc, 1, 8, Tryd.t77.zero, false, false, true⟩
noncomputable def i78 : DInfo := ⟨Tryd.t78.desc, 1, 8, Tryd.t78.zero, false, false, true⟩
noncomputable def i79 : DInfo := ⟨Tryd.t79.desc, 1, 8, Tryd.t79.zero, true, false, true⟩
noncomputable def i80 : DInfo := ⟨Tryd.t80.desc, 1, 8, Tryd.t80.zero, false, false, true⟩
noncomputable def i81 : DInfo := ⟨Tryd.t81.desc, 1, 8, Tryd.t81.zero, true, false, true⟩
noncomputable def i82 : DInfo := ⟨Tryd.t82.desc, 1, 8, Tryd.t82.zero, false, false, true⟩
noncomputable def i83 : DInfo := ⟨Tryd.t83.desc, 1, 0, Tryd.t83.zero, false, false, true⟩
noncomputable def i84 : DInfo := ⟨Tryd.t84.desc, 1, 8, Tryd.t84.zero, false, false, true⟩
noncomputable def i85 : DInfo := ⟨Tryd.t85.desc, 1, 8, Tryd.t85.zero, false, false, true⟩
noncomputable def i86 : DInfo := ⟨Tryd.t86.desc, 1, 8, Tryd.t86.zero, false, false, true⟩
noncomputable def i87 : DInfo := ⟨Tryd.t87.desc, 1, 8, Tryd.t87.zero, false, false, true⟩
noncomputable def i88 : DInfo := ⟨Tryd.t87.desc, 1, 8, Tryd.t88.zero, false, false, true⟩
noncomputable def i89 : DInfo := ⟨Tryd.t89.desc, 1, 8, Tryd.t89.zero, false, false, true⟩
noncomputable def i90 : DInfo := ⟨Tryd.t90.desc, 1, 8, Tryd.t90.zero, false, false, true⟩
noncomputable def i91 : DInfo := ⟨Tryd.t90.desc, 1, 8, Tryd.t91.zero, false, false, true⟩
noncomputable def i92 : DInfo := ⟨Tryd.t92.desc, 1, 8, Tryd.t92.zero, false, false, true⟩
noncomputable def i93 : DInfo := ⟨Tryd.t93.desc, 1, 1, Tryd.t93.zero, true, false, true⟩
noncomputable def i94 : DInfo := ⟨Tryd.t94.desc, 2, 16, Tryd.t94.zero, true, false, true⟩
noncomputable def i95 : DInfo := ⟨Tryd.t94.desc, 2, 16, Tryd.t95.zero, true, false, true⟩
noncomputable def i96 : DInfo := ⟨Tryd.t96.desc, 1, 8, Tryd.t96.zero, false, false, true⟩
noncomputable def i97 : DInfo := ⟨Tryd.t97.desc, 1, 8, Tryd.t97.zero, false, false, true⟩
noncomputable def i98 : DInfo := ⟨Tryd.t98.desc, 1, 8, Tryd.t98.zero, false, false, true⟩
noncomputable def i99 : DInfo := ⟨Tryd.t99.desc, 1, 8, Tryd.t99.zero, false, false, true⟩
noncomputable def i100 : DInfo := ⟨Tryd.t100.desc, 3, 48, Tryd.t100.zero, true, false, true⟩
noncomputable def i101 : DInfo := ⟨Tryd.t101.desc, 24, 24, Tryd.t101.zero, true, false, true⟩
noncomputable def i102 : DInfo := ⟨Tryd.t102.desc, 1, 8, Tryd.t102.zero, false, false, true⟩
noncomputable def i103 : DInfo := ⟨Tryd.t103.desc, 1, 8, Tryd.t103.zero, false, false, true⟩
noncomputable def i104 : DInfo := ⟨Tryd.t104.desc, 1, 0, Tryd.t104.zero, false, false, true⟩
noncomputable def i105 : DInfo := ⟨Tryd.t105.desc, 1, 8, Tryd.t105.zero, false, false, true⟩
noncomputable def i106 : DInfo := ⟨Tryd.t106.desc, 1, 8, Tryd.t106.zero, false, false, true⟩
noncomputable def i107 : DInfo := ⟨Tryd.t107.desc, 1, 8, Tryd.t107.zero, false, false, true⟩
noncomputable def i108 : DInfo := ⟨Tryd.t108.desc, 5, 40, Tryd.t108.zero, true, false, true⟩
noncomputable def i109 : DInfo := ⟨Tryd.t109.desc, 6, 56, Tryd.t109.zero, true, false, true⟩
noncomputable def i110 : DInfo := ⟨Tryd.t109.desc, 6, 56, Tryd.t110.zero, true, false, true⟩
noncomputable def i111 : DInfo := ⟨Tryd.t111.desc, 66, 616, Tryd.t111.zero, true, false, true⟩
noncomputable def i112 : DInfo := ⟨Tryd.t112.desc, 1, 8, Tryd.t112.zero, false, false, true⟩
noncomputable def i113 : DInfo := ⟨Tryd.t113.desc, 1, 8, Tryd.t113.zero, false, false, true⟩
noncomputable def i114 : DInfo := ⟨Tryd.t114.desc, 1, 8, Tryd.t114.zero, false, false, true⟩
noncomputable def i115 : DInfo := ⟨Tryd.t115.desc, 10, 160, Tryd.t115.zero, true, false, true⟩
noncomputable def i116 : DInfo := ⟨Tryd.t116.desc, 1, 8, Tryd.t116.zero, false, false, true⟩
noncomputable def i117 : DInfo := ⟨Tryd.t117.desc, 1, 8, Tryd.t117.zero, false, false, true⟩
noncomputable def i118 : DInfo := ⟨Tryd.t118.desc, 20, 160, Tryd.t118.zero, true, false, true⟩
noncomputable def i119 : DInfo := ⟨Tryd.t119.desc, 65, 65, Tryd.t119.zero, true, false, true⟩
noncomputable def i120 : DInfo := ⟨Tryd.t120.desc, 1, 8, Tryd.t120.zero, false, false, true⟩
noncomputable def i121 : DInfo := ⟨Tryd.t121.desc, 1, 24, Tryd.t121.zero, false, false, true⟩
noncomputable def i122 : DInfo := ⟨Tryd.t122.desc, 1, 8, Tryd.t122.zero, false, false, true⟩
noncomputable def i123 : DInfo := ⟨Tryd.t123.desc, 1, 8, Tryd.t123.zero, false, false, true⟩
noncomputable def i124 : DInfo := ⟨Tryd.t124.desc, 1, 8, Tryd.t124.zero, false, false, true⟩
noncomputable def i125 : DInfo := ⟨Tryd.t125.desc, 1, 8, Tryd.t125.zero, false, false, true⟩
noncomputable def i126 : DInfo := ⟨Tryd.t126.desc, 32, 32, Tryd.t126.zero, true, false, true⟩
noncomputable def i127 : DInfo := ⟨Tryd.t127.desc, 64, 64, Tryd.t127.zero, true, false, true⟩
noncomputable def i128 : DInfo := ⟨Tryd.t128.desc, 1, 8, Tryd.t128.zero, false, false, true⟩
noncomputable def i129 : DInfo := ⟨Tryd.t129.desc, 4, 40, Tryd.t129.zero, true, false, false⟩
noncomputable def i130 : DInfo := ⟨Tryd.t129.desc, 4, 40, Tryd.t130.zero, true, false, false⟩
noncomputable def i131 : DInfo := ⟨Tryd.t131.desc, 0, 0, Tryd.t131.zero, true, false, true⟩
noncomputable def i132 : DInfo := ⟨Tryd.t132.desc, 0, 0, Tryd.t132.zero, true, false, false⟩
noncomputable def i133 : DInfo := ⟨Tryd.t132.desc, 0, 0, Tryd.t133.zero, true, false, false⟩
noncomputable def i134 : DInfo := ⟨Tryd.t134.desc, 1, 8, Tryd.t134.zero, false, false, true⟩
noncomputable def i135 : DInfo := ⟨Tryd.t5.desc, 1, 1, Tryd.t135.zero, true, false, true⟩
noncomputable def i136 : DInfo := ⟨Tryd.t5.desc, 1, 1, Tryd.t136.zero, true, false, true⟩
noncomputable def i137 : DInfo := ⟨Tryd.t137.desc, 1, 8, Tryd.t137.zero, false, false, true⟩
noncomputable def i138 : DInfo := ⟨Tryd.t138.desc, 1, 8, Tryd.t138.zero, true, false, true⟩
noncomputable def i139 : DInfo := ⟨Tryd.t21.desc, 1, 4, Tryd.t139.zero, true, false, true⟩
noncomputable def i140 : DInfo := ⟨Tryd.t21.desc, 1, 4, Tryd.t140.zero, true, false, true⟩
noncomputable def i141 : DInfo := ⟨Tryd.t141.desc, 11, 48, Tryd.t141.zero, false, false, false⟩
noncomputable def i142 : DInfo := ⟨Tryd.t141.desc, 11, 48, Tryd.t142.zero, false, false, false⟩
noncomputable def i143 : DInfo := ⟨Tryd.t143.desc, 1, 8, Tryd.t143.zero, true, false, true⟩
noncomputable def ts : List (Nat × DInfo) := [(0, i0), (1, i1), (2, i2), (3, i3), (4, i4), (5, i5), (6, i6), (7, i7), (8, i8), (9, i9), (10, i10), (11, i11), (12, i12), (13, i13), (14, i14), (15, i15), (16, i16), (17, i17), (18, i18), (19, i19), (20, i20), (21, i21), (22, i22), (23, i23), (24, i24), (25, i25), (26, i26), (27, i27), (28, i28), (29, i29), (30, i30), (31, i31), (32, i32), (33, i33), (34, i34), (35, i35), (36, i36), (37, i37), (38, i38), (39, i39), (40, i40), (41, i41), (42, i42), (43, i43), (44, i44), (45, i45), (46, i46), (47, i47), (48, i48), (49, i49), (50, i50), (51, i51), (52, i52), (53, i53), (54, i54), (55, i55), (56, i56), (57, i57), (58, i58), (59, i59), (60, i60), (61, i61), (62, i62), (63, i63), (64, i64), (65, i65), (66, i66), (67, i67), (68, i68), (69, i69), (70, i70), (71, i71), (72, i72), (73, i73), (74, i74), (75, i75), (76, i76), (77, i77), (78, i78), (79, i79), (80, i80), (81, i81), (82, i82), (83, i83), (84, i84), (85, i85), (86, i86), (87, i87), (88, i88), (89, i89), (90, i90), (91, i91), (92, i92), (93, i93), (94, i94), (95, i95), (96, i96), (97, i97), (98, i98), (99, i99), (100, i100), (101, i101), (102, i102), (103, i103), (104, i104), (105, i105), (106, i106), (107, i107), (108, i108), (109, i109), (110, i110), (111, i111), (112, i112), (113, i113), (114, i114), (115, i115), (116, i116), (117, i117), (118, i118), (119, i119), (120, i120), (121, i121), (122, i122), (123, i123), (124, i124), (125, i125), (126, i126), (127, i127), (128, i128), (129, i129), (130, i130), (131, i131), (132, i132), (133, i133), (134, i134), (135, i135), (136, i136), (137, i137), (138, i138), (139, i139), (140, i140), (141, i141), (142, i142), (143, i143)]
noncomputable def tt : PM DInfo := (.node (.node (.node (.node (.node (.node (lf i126) (some i62) (lf i94)) (some i30) (.node (lf i110) (some i46) (.node .leaf (some i78) (lf i142)))) (some i14) (.node (.node (lf i118) (some i54) (lf i86)) (some i22) (.node (lf i102) (some i38) (.node .leaf (some i70) (lf i134))))) (some i6) (.node (.node (.node (lf i122) (some i58) (lf i90)) (some i26) (.node (lf i106) (some i42) (.node .leaf (some i74) (lf i138)))) (some i10) (.node (.node (lf i114) (some i50) (lf i82)) (some i18) (.node (lf i98) (some i34) (.node .leaf (some i66) (lf i130)))))) (some i2) (.node (.node (.node (.node (lf i124) (some i60) (lf i92)) (some i28) (.node (lf i108) (some i44) (.node .leaf (some i76) (lf i140)))) (some i12) (.node (.node (lf i116) (some i52) (lf i84)) (some i20) (.node (lf i100) (some i36) (.node .leaf (some i68) (lf i132))))) (some i4) (.node (.node (.node (lf i120) (some i56) (lf i88)) (some i24) (.node (lf i104) (some i40) (.node .leaf (some i72) (lf i136)))) (some i8) (.node (.node (lf i112) (some i48) (lf i80)) (some i16) (.node (lf i96) (some i32) (.node .leaf (some i64) (lf i128))))))) (some i0) (.node (.node (.node (.node (.node (lf i125) (some i61) (lf i93)) (some i29) (.node (lf i109) (some i45) (.node .leaf (some i77) (lf i141)))) (some i13) (.node (.node (lf i117) (some i53) (lf i85)) (some i21) (.node (lf i101) (some i37) (.node .leaf (some i69) (lf i133))))) (some i5) (.node (.node (.node (lf i121) (some i57) (lf i89)) (some i25) (.node (lf i105) (some i41) (.node .leaf (some i73) (lf i137)))) (some i9) (.node (.node (lf i113) (some i49) (lf i81)) (some i17) (.node (lf i97) (some i33) (.node .leaf (some i65) (lf i129)))))) (some i1) (.node (.node (.node (.node (lf i123) (some i59) (lf i91)) (some i27) (.node (lf i107) (some i43) (.node .leaf (some i75) (lf i139)))) (some i11) (.node (.node (lf i115) (some i51) (lf i83)) (some i19) (.node (lf i99) (some i35) (.node .leaf (some i67) (lf i131))))) (some i3) (.node (.node (.node (lf i119) (some i55) (lf i87)) (some i23) (.node (lf i103) (some i39) (.node .leaf (some i71) (lf i135)))) (some i7) (.node (.node (lf i111) (some i47) (.node .leaf (some i79) (lf i143))) (some i15) (.node (lf i95) (some i31) (.node .leaf (some i63) (lf i127))))))))
noncomputable def fs : List (Nat × Func) := [(2, Tryd.f2), (3, Tryd.f3), (4, Tryd.f4), (5, Tryd.f5), (6, Tryd.f6), (7, Tryd.f7), (8, Tryd.f8), (9, Tryd.f9), (10, Tryd.f10), (11, Tryd.f11), (12, Tryd.f12), (13, Tryd.f13), (14, Tryd.f14), (15, Tryd.f15), (16, Tryd.f16), (17, Tryd.f17), (18, Tryd.f18), (19, Tryd.f19), (20, Tryd.f20), (21, Tryd.f21), (22, Tryd.f22), (23, Tryd.f23), (24, Tryd.f24), (25, Tryd.f25), (26, Tryd.f26), (27, Tryd.f27), (28, Tryd.f28), (29, Tryd.f29), (30, Tryd.f30), (32, Tryd.f32), (33, Tryd.f33), (34, Tryd.f34), (35, Tryd.f35), (37, Tryd.f37), (38, Tryd.f38), (39, Tryd.f39), (40, Tryd.f40), (41, Tryd.f41), (42, Tryd.f42), (43, Tryd.f43), (44, Tryd.f44), (45, Tryd.f45), (46, Tryd.f46), (47, Tryd.f47), (48, Tryd.f48), (49, Tryd.f49), (50, Tryd.f50), (51, Tryd.f51), (52, Tryd.f52), (53, Tryd.f53), (54, Tryd.f54), (55, Tryd.f55), (56, Tryd.f56), (57, Tryd.f57), (58, Tryd.f58), (59, Tryd.f59), (60, Tryd.f60), (61, Tryd.f61), (62, Tryd.f62), (63, Tryd.f63), (64, Tryd.f64), (65, Tryd.f65), (91, Tryd.f91)]
noncomputable def ff : PM Func := (.node (.node (.node (.node (.node (lf Tryd.f62) (some Tryd.f30) (lf Tryd.f46)) (some Tryd.f14) (.node (lf Tryd.f54) (some Tryd.f22) (lf Tryd.f38))) (some Tryd.f6) (.node (.node (lf Tryd.f58) (some Tryd.f26) (lf Tryd.f42)) (some Tryd.f10) (.node (lf Tryd.f50) (some Tryd.f18) (lf Tryd.f34)))) (some Tryd.f2) (.node (.node (.node (lf Tryd.f60) (some Tryd.f28) (lf Tryd.f44)) (some Tryd.f12) (.node (lf Tryd.f52) (some Tryd.f20) .leaf)) (some Tryd.f4) (.node (.node (lf Tryd.f56) (some Tryd.f24) (lf Tryd.f40)) (some Tryd.f8) (.node (lf Tryd.f48) (some Tryd.f16) (.node .leaf (some Tryd.f32) (lf Tryd.f64)))))) none (.node (.node (.node (.node (lf Tryd.f61) (some Tryd.f29) (lf Tryd.f45)) (some Tryd.f13) (.node (lf Tryd.f53) (some Tryd.f21) (lf Tryd.f37))) (some Tryd.f5) (.node (.node (lf Tryd.f57) (some Tryd.f25) (lf Tryd.f41)) (some Tryd.f9) (.node (lf Tryd.f49) (some Tryd.f17) (.node .leaf (some Tryd.f33) (lf Tryd.f65))))) none (.node (.node (.node (.node .leaf (some Tryd.f59) (lf Tryd.f91)) (some Tryd.f27) (lf Tryd.f43)) (some Tryd.f11) (.node (lf Tryd.f51) (some Tryd.f19) (lf Tryd.f35))) (some Tryd.f3) (.node (.node (lf Tryd.f55) (some Tryd.f23) (lf Tryd.f39)) (some Tryd.f7) (.node (lf Tryd.f47) (some Tryd.f15) (.node .leaf none (lf Tryd.f63)))))))
noncomputable def globs : Nat := 5
theorem tt_eq : tt = layD ts := by kernel_rfl
theorem ff_eq : ff = layD fs := by kernel_rfl
theorem info_eq : ts.map (fun p => infoOf Tryd.prog p.1) = ts.map fun p => some p.2 := by kernel_rfl
theorem funcs_eq : ∀ p ∈ fs, Tryd.prog.funcs[p.1]? = some p.2 := by
  have key : fs.map (fun p => Tryd.prog.funcs[p.1]?) = fs.map fun p => some p.2 := by kernel_rfl
  exact fun p hp => List.map_inj_left.1 key p hp
theorem names_eq : fs.all (fun p => !(p.2.name == "runtime.NumGoroutine")) = true := by kernel_rfl
theorem mixed : Tryd.prog.follows .mixedOrders = true := by kernel_rfl
/-- The environment, with given functions stood in for. -/
noncomputable def env (prim : Nat → Option (List Value → St → Option (Value × St))) : Env := { inf := tt.get, fn := ff.get, prim, globs }
theorem env_ok (prim : Nat → Option (List Value → St → Option (Value × St))) : (env prim).Ok Tryd.prog :=
  envOk (fun t => by show tt.get t = _; rw [tt_eq]) (fun f => by show ff.get f = _; rw [ff_eq]) info_eq funcs_eq names_eq
end Go.Proofs.YtgdijpcopdgapaaDoor.DEnv

/- The seat's base: D over the program, without stand-ins; structs' cells (printed by GenBase.lean). -/
namespace Go.Proofs.YtgdijpcopdgapaaDoor
open Go Go.Proofs.YtgdijpcopdgapaaDoor.D
abbrev pT : TNums := ⟨17, 22, 49, 47, 57⟩
noncomputable def E0 : Env := DEnv.env (primsT pT)
/-- [x, y, signed, code] -/
abbrev G7 : List Sc := [.int .i64, .int .i64, .bool, .int .u8]
/-- [msg, addr] -/
abbrev G13 : List Sc := [.str, .int .u64]
/-- [n] -/
abbrev G32 : List Sc := [.int .u64, .int .u64, .int .u64, .int .u64, .int .u64, .int .u64, .int .u64, .int .u64, .int .u64, .int .u64, .int .u64, .int .u64, .int .u64, .int .u64, .int .u64, .int .u64, .int .u64, .int .u64, .int .u64, .int .u64, .int .u64, .int .u64, .int .u64, .int .u64, .int .u64]
/-- [Kind, Cell, Gen, Stamp, Prio, Hops, Origin, Other, Claims] -/
abbrev G53 : List Sc := [.int .i64, .int .i64, .int .u32, .int .u64, .int .i64, .int .i64, .int .i64, .int .i64, .sl]
/-- [From, To, FromEpoch, ToEpoch, Seq, Met, Msg] -/
abbrev G55 : List Sc := [.int .i64, .int .i64, .int .u32, .int .u32, .int .u32, .int .u32, .int .i64, .int .i64, .int .u32, .int .u64, .int .i64, .int .i64, .int .i64, .int .i64, .sl]
/-- [Kind, Robot, Cell] -/
abbrev G65 : List Sc := [.int .i64, .int .i64, .int .i64]
/-- [Cell, Gen] -/
abbrev G94 : List Sc := [.int .i64, .int .u32]
/-- [name, fields] -/
abbrev G109 : List Sc := [.str, .int .i64, .int .i64, .int .i64, .int .i64, .int .i64]
/-- [_interface, concrete, asserted, missingMethod] -/
abbrev G129 : List Sc := [.ptr, .ptr, .ptr, .str]
/-- [Size_, PtrBytes, Hash, TFlag, Align_, FieldAlign_, Kind_, Equal, GCData, Str, PtrToThis] -/
abbrev G141 : List Sc := [.int .u64, .int .u64, .int .u32, .int .u8, .int .u8, .int .u8, .int .u8, .any, .ptr, .int .i32, .int .i32]
end Go.Proofs.YtgdijpcopdgapaaDoor
