/-
  D over this seat's program: what D is told of its types and functions (printed by GenEnv.lean).
-/
import Derived.Test.YtcookjolkhcjhaaD22
import Derived.Test.YtcookjolkhcjhaaChecked
import Derived.KernelRfl
namespace Go.Proofs.Ytcookjolkhcjhaa.DEnv
open Go.Proofs.Ytcookjolkhcjhaa.D
abbrev lf {α : Type} (v : α) : PM α := .node .leaf (some v) .leaf
noncomputable def i0 : DInfo := ⟨Try.t0.desc, 1, 0, Try.t0.zero, false, false, true⟩
noncomputable def i1 : DInfo := ⟨Try.t1.desc, 1, 8, Try.t1.zero, false, false, true⟩
noncomputable def i2 : DInfo := ⟨Try.t2.desc, 1, 8, Try.t2.zero, true, false, true⟩
noncomputable def i3 : DInfo := ⟨Try.t3.desc, 1, 8, Try.t3.zero, true, false, true⟩
noncomputable def i4 : DInfo := ⟨Try.t4.desc, 1, 1, Try.t4.zero, true, false, true⟩
noncomputable def i5 : DInfo := ⟨Try.t5.desc, 1, 1, Try.t5.zero, true, false, true⟩
noncomputable def i6 : DInfo := ⟨Try.t5.desc, 1, 1, Try.t6.zero, true, false, true⟩
noncomputable def i7 : DInfo := ⟨Try.t7.desc, 4, 24, Try.t7.zero, true, false, true⟩
noncomputable def i8 : DInfo := ⟨Try.t7.desc, 4, 24, Try.t8.zero, true, false, true⟩
noncomputable def i9 : DInfo := ⟨Try.t9.desc, 1, 16, Try.t9.zero, true, false, true⟩
noncomputable def i10 : DInfo := ⟨Try.t9.desc, 1, 16, Try.t10.zero, true, false, true⟩
noncomputable def i11 : DInfo := ⟨Try.t9.desc, 1, 16, Try.t11.zero, true, false, true⟩
noncomputable def i12 : DInfo := ⟨Try.t12.desc, 1, 8, Try.t12.zero, true, false, true⟩
noncomputable def i13 : DInfo := ⟨Try.t13.desc, 2, 24, Try.t13.zero, true, false, false⟩
noncomputable def i14 : DInfo := ⟨Try.t13.desc, 2, 24, Try.t14.zero, true, false, false⟩
noncomputable def i15 : DInfo := ⟨Try.t15.desc, 1, 8, Try.t15.zero, true, false, true⟩
noncomputable def i16 : DInfo := ⟨Try.t16.desc, 1, 8, Try.t16.zero, true, false, true⟩
noncomputable def i17 : DInfo := ⟨Try.t17.desc, 1, 8, Try.t17.zero, true, false, true⟩
noncomputable def i18 : DInfo := ⟨Try.t18.desc, 1, 8, Try.t18.zero, true, false, false⟩
noncomputable def i19 : DInfo := ⟨Try.t18.desc, 1, 8, Try.t19.zero, true, false, false⟩
noncomputable def i20 : DInfo := ⟨Try.t20.desc, 1, 16, Try.t20.zero, true, false, true⟩
noncomputable def i21 : DInfo := ⟨Try.t21.desc, 1, 4, Try.t21.zero, true, false, true⟩
noncomputable def i22 : DInfo := ⟨Try.t22.desc, 3, 24, Try.t22.zero, true, false, true⟩
noncomputable def i23 : DInfo := ⟨Try.t22.desc, 3, 24, Try.t23.zero, true, false, true⟩
noncomputable def i24 : DInfo := ⟨Try.t24.desc, 5, 40, Try.t24.zero, true, false, true⟩
noncomputable def i25 : DInfo := ⟨Try.t24.desc, 5, 40, Try.t25.zero, true, false, true⟩
noncomputable def i26 : DInfo := ⟨Try.t26.desc, 1, 4, Try.t26.zero, true, false, true⟩
noncomputable def i27 : DInfo := ⟨Try.t27.desc, 1, 8, Try.t27.zero, true, false, true⟩
noncomputable def i28 : DInfo := ⟨Try.t28.desc, 1, 24, Try.t28.zero, false, false, true⟩
noncomputable def i29 : DInfo := ⟨Try.t29.desc, 9, 88, Try.t29.zero, false, false, true⟩
noncomputable def i30 : DInfo := ⟨Try.t29.desc, 9, 88, Try.t30.zero, false, false, true⟩
noncomputable def i31 : DInfo := ⟨Try.t31.desc, 1, 8, Try.t31.zero, false, false, true⟩
noncomputable def i32 : DInfo := ⟨Try.t3.desc, 1, 8, Try.t32.zero, true, false, true⟩
noncomputable def i33 : DInfo := ⟨Try.t33.desc, 1, 0, none, false, false, true⟩
noncomputable def i34 : DInfo := ⟨Try.t34.desc, 1, 8, Try.t34.zero, false, false, true⟩
noncomputable def i35 : DInfo := ⟨Try.t35.desc, 1, 8, Try.t35.zero, false, false, true⟩
noncomputable def i36 : DInfo := ⟨Try.t36.desc, 1, 8, Try.t36.zero, false, false, true⟩
noncomputable def i37 : DInfo := ⟨Try.t37.desc, 1, 24, Try.t37.zero, false, false, true⟩
noncomputable def i38 : DInfo := ⟨Try.t38.desc, 1, 8, Try.t38.zero, false, false, true⟩
noncomputable def i39 : DInfo := ⟨Try.t39.desc, 1, 8, Try.t39.zero, false, false, true⟩
noncomputable def i40 : DInfo := ⟨Try.t40.desc, 1, 8, Try.t40.zero, false, false, true⟩
noncomputable def i41 : DInfo := ⟨Try.t41.desc, 1, 8, Try.t41.zero, false, false, true⟩
noncomputable def i42 : DInfo := ⟨Try.t42.desc, 1, 24, Try.t42.zero, false, false, true⟩
noncomputable def i43 : DInfo := ⟨Try.t43.desc, 1, 24, Try.t43.zero, false, false, true⟩
noncomputable def i44 : DInfo := ⟨Try.t44.desc, 1, 8, Try.t44.zero, false, false, true⟩
noncomputable def i45 : DInfo := ⟨Try.t45.desc, 1, 8, Try.t45.zero, false, false, true⟩
noncomputable def i46 : DInfo := ⟨Try.t46.desc, 1, 8, Try.t46.zero, false, false, true⟩
noncomputable def i47 : DInfo := ⟨Try.t47.desc, 1, 24, Try.t47.zero, false, false, true⟩
noncomputable def i48 : DInfo := ⟨Try.t48.desc, 1, 1, Try.t48.zero, true, false, true⟩
noncomputable def i49 : DInfo := ⟨Try.t49.desc, 2, 2, Try.t49.zero, true, false, true⟩
noncomputable def i50 : DInfo := ⟨Try.t50.desc, 1, 0, Try.t50.zero, false, false, true⟩
noncomputable def i51 : DInfo := ⟨Try.t51.desc, 1, 8, Try.t51.zero, false, false, true⟩
noncomputable def i52 : DInfo := ⟨Try.t52.desc, 1, 8, Try.t52.zero, false, false, true⟩
noncomputable def i53 : DInfo := ⟨Try.t53.desc, 1, 24, Try.t53.zero, false, false, true⟩
noncomputable def i54 : DInfo := ⟨Try.t54.desc, 1, 8, Try.t54.zero, false, false, true⟩
noncomputable def i55 : DInfo := ⟨Try.t55.desc, 1, 24, Try.t55.zero, false, false, true⟩
noncomputable def i56 : DInfo := ⟨Try.t56.desc, 6, 48, Try.t56.zero, true, false, true⟩
noncomputable def i57 : DInfo := ⟨Try.t56.desc, 6, 48, Try.t57.zero, true, false, true⟩
noncomputable def i58 : DInfo := ⟨Try.t58.desc, 8, 80, Try.t58.zero, false, false, true⟩
noncomputable def i59 : DInfo := ⟨Try.t58.desc, 8, 80, Try.t59.zero, false, false, true⟩
noncomputable def i60 : DInfo := ⟨Try.t60.desc, 1, 8, Try.t60.zero, false, false, true⟩
noncomputable def i61 : DInfo := ⟨Try.t61.desc, 6, 64, Try.t61.zero, false, false, true⟩
noncomputable def i62 : DInfo := ⟨Try.t61.desc, 6, 64, Try.t62.zero, false, false, true⟩
noncomputable def i63 : DInfo := ⟨Try.t63.desc, 1, 8, Try.t63.zero, false, false, true⟩
noncomputable def i64 : DInfo := ⟨Try.t64.desc, 1, 16, Try.t64.zero, true, false, true⟩
noncomputable def i65 : DInfo := ⟨Try.t64.desc, 1, 16, Try.t65.zero, true, false, true⟩
noncomputable def i66 : DInfo := ⟨Try.t66.desc, 5, 56, Try.t66.zero, false, false, true⟩
noncomputable def i67 : DInfo := ⟨Try.t66.desc, 5, 56, Try.t67.zero, false, false, true⟩
noncomputable def i68 : DInfo := ⟨Try.t68.desc, 1, 0, none, false, false, true⟩
noncomputable def i69 : DInfo := ⟨Try.t69.desc, 1, 8, Try.t69.zero, false, false, true⟩
noncomputable def i70 : DInfo := ⟨Try.t70.desc, 1, 8, Try.t70.zero, false, false, true⟩
noncomputable def i71 : DInfo := ⟨Try.t71.desc, 1, 8, Try.t71.zero, false, false, true⟩
noncomputable def i72 : DInfo := ⟨Try.t72.desc, 1, 0, Try.t72.zero, false, false, true⟩
noncomputable def i73 : DInfo := ⟨Try.t73.desc, 1, 8, Try.t73.zero, false, false, true⟩
noncomputable def i74 : DInfo := ⟨Try.t74.desc, 1, 8, Try.t74.zero, false, false, true⟩
noncomputable def i75 : DInfo := ⟨Try.t75.desc, 1, 8, Try.t75.zero, false, false, true⟩
noncomputable def i76 : DInfo := ⟨Try.t76.desc, 1, 8, Try.t76.zero, false, false, true⟩
noncomputable def i77 : DInfo := ⟨Try.t77.desc, 1, 8, Try.t77.zero, false, false, true⟩
noncomputable def i78 : DInfo := ⟨Try.t78.desc, 1, 8, Try.t78.zero, false, false, true⟩
noncomputable def i79 : DInfo := ⟨Try.t79.desc, 1, 8, Try.t79.zero, false, false, true⟩
noncomputable def i80 : DInfo := ⟨Try.t80.desc, 1, 0, none, false, false, true⟩
noncomputable def i81 : DInfo := ⟨Try.t81.desc, 1, 8, Try.t81.zero, false, false, true⟩
noncomputable def i82 : DInfo := ⟨Try.t82.desc, 1, 8, Try.t82.zero, false, false, true⟩
noncomputable def i83 : DInfo := ⟨Try.t83.desc, 1, 8, Try.t83.zero, true, false, true⟩
noncomputable def i84 : DInfo := ⟨Try.t84.desc, 1, 8, Try.t84.zero, true, false, true⟩
noncomputable def i85 : DInfo := ⟨Try.t85.desc, 8, 80, Try.t85.zero, false, false, true⟩
noncomputable def i86 : DInfo := ⟨Try.t85.desc, 8, 80, Try.t86.zero, false, false, true⟩
noncomputable def i87 : DInfo := ⟨Try.t87.desc, 1, 8, Try.t87.zero, false, false, true⟩
noncomputable def i88 : DInfo := ⟨Try.t88.desc, 1, 8, Try.t88.zero, false, false, true⟩
noncomputable def i89 : DInfo := ⟨Try.t89.desc, 1, 8, Try.t89.zero, false, false, true⟩
noncomputable def i90 : DInfo := ⟨Try.t90.desc, 1, 0, none, false, false, true⟩
noncomputable def i91 : DInfo := ⟨Try.t91.desc, 1, 8, Try.t91.zero, false, false, true⟩
noncomputable def i92 : DInfo := ⟨Try.t92.desc, 1, 8, Try.t92.zero, false, false, true⟩
noncomputable def i93 : DInfo := ⟨Try.t93.desc, 1, 8, Try.t93.zero, false, false, true⟩
noncomputable def i94 : DInfo := ⟨Try.t94.desc, 1, 8, Try.t94.zero, false, false, true⟩
noncomputable def i95 : DInfo := ⟨Try.t95.desc, 1, 8, Try.t95.zero, false, false, true⟩
noncomputable def i96 : DInfo := ⟨Try.t96.desc, 1, 8, Try.t96.zero, false, false, true⟩
noncomputable def i97 : DInfo := ⟨Try.t96.desc, 1, 8, Try.t97.zero, false, false, true⟩
noncomputable def i98 : DInfo := ⟨Try.t98.desc, 1, 8, Try.t98.zero, false, false, true⟩
noncomputable def i99 : DInfo := ⟨Try.t99.desc, 1, 8, Try.t99.zero, false, false, true⟩
noncomputable def i100 : DInfo := ⟨Try.t100.desc, 1, 8, Try.t100.zero, false, false, true⟩
noncomputable def i101 : DInfo := ⟨Try.t101.desc, 1, 8, Try.t101.zero, false, false, true⟩
noncomputable def i102 : DInfo := ⟨Try.t101.desc, 1, 8, Try.t102.zero, false, false, true⟩
noncomputable def i103 : DInfo := ⟨Try.t103.desc, 1, 8, Try.t103.zero, false, false, true⟩
noncomputable def i104 : DInfo := ⟨Try.t104.desc, 6, 48, Try.t104.zero, true, false, true⟩
noncomputable def i105 : DInfo := ⟨Try.t104.desc, 6, 48, Try.t105.zero, true, false, true⟩
noncomputable def i106 : DInfo := ⟨Try.t106.desc, 1, 8, Try.t106.zero, false, false, true⟩
noncomputable def i107 : DInfo := ⟨Try.t107.desc, 1, 8, Try.t107.zero, false, false, true⟩
noncomputable def i108 : DInfo := ⟨Try.t108.desc, 1, 8, Try.t108.zero, false, false, true⟩
noncomputable def i109 : DInfo := ⟨Try.t109.desc, 1, 8, Try.t109.zero, false, false, true⟩
noncomputable def i110 : DInfo := ⟨Try.t110.desc, 1, 8, Try.t110.zero, false, false, true⟩
noncomputable def i111 : DInfo := ⟨Try.t110.desc, 1, 8, Try.t111.zero, false, false, true⟩
noncomputable def i112 : DInfo := ⟨Try.t112.desc, 1, 8, Try.t112.zero, false, false, true⟩
noncomputable def i113 : DInfo := ⟨Try.t113.desc, 1, 8, Try.t113.zero, false, false, true⟩
noncomputable def i114 : DInfo := ⟨Try.t114.desc, 1, 0, none, false, false, true⟩
noncomputable def i115 : DInfo := ⟨Try.t115.desc, 1, 8, Try.t115.zero, false, false, true⟩
noncomputable def i116 : DInfo := ⟨Try.t116.desc, 1, 0, Try.t116.zero, false, false, true⟩
noncomputable def i117 : DInfo := ⟨Try.t117.desc, 1, 8, Try.t117.zero, false, false, true⟩
noncomputable def i118 : DInfo := ⟨Try.t118.desc, 1, 8, Try.t118.zero, false, false, true⟩
noncomputable def i119 : DInfo := ⟨Try.t119.desc, 1, 8, Try.t119.zero, false, false, true⟩
noncomputable def i120 : DInfo := ⟨Try.t120.desc, 1, 8, Try.t120.zero, true, false, true⟩
noncomputable def i121 : DInfo := ⟨Try.t121.desc, 1, 8, Try.t121.zero, false, false, true⟩
noncomputable def i122 : DInfo := ⟨Try.t121.desc, 1, 8, Try.t122.zero, false, false, true⟩
noncomputable def i123 : DInfo := ⟨Try.t123.desc, 1, 8, Try.t123.zero, false, false, true⟩
noncomputable def i124 : DInfo := ⟨Try.t124.desc, 1, 8, Try.t124.zero, false, false, true⟩
noncomputable def i125 : DInfo := ⟨Try.t125.desc, 1, 8, Try.t125.zero, false, false, true⟩
noncomputable def i126 : DInfo := ⟨Try.t126.desc, 1, 8, Try.t126.zero, false, false, true⟩
noncomputable def i127 : DInfo := ⟨Try.t127.desc, 1, 8, Try.t127.zero, false, false, true⟩
noncomputable def i128 : DInfo := ⟨Try.t128.desc, 1, 8, Try.t128.zero, false, false, true⟩
noncomputable def i129 : DInfo := ⟨Try.t129.desc, 1, 8, Try.t129.zero, false, false, true⟩
noncomputable def i130 : DInfo := ⟨Try.t130.desc, 4, 40, Try.t130.zero, true, false, false⟩
noncomputable def i131 : DInfo := ⟨Try.t130.desc, 4, 40, Try.t131.zero, true, false, false⟩
noncomputable def i132 : DInfo := ⟨Try.t132.desc, 0, 0, Try.t132.zero, true, false, true⟩
noncomputable def i133 : DInfo := ⟨Try.t133.desc, 0, 0, Try.t133.zero, true, false, false⟩
noncomputable def i134 : DInfo := ⟨Try.t133.desc, 0, 0, Try.t134.zero, true, false, false⟩
noncomputable def i135 : DInfo := ⟨Try.t5.desc, 1, 1, Try.t135.zero, true, false, true⟩
noncomputable def i136 : DInfo := ⟨Try.t5.desc, 1, 1, Try.t136.zero, true, false, true⟩
noncomputable def i137 : DInfo := ⟨Try.t137.desc, 1, 8, Try.t137.zero, false, false, true⟩
noncomputable def i138 : DInfo := ⟨Try.t138.desc, 1, 8, Try.t138.zero, true, false, true⟩
noncomputable def i139 : DInfo := ⟨Try.t21.desc, 1, 4, Try.t139.zero, true, false, true⟩
noncomputable def i140 : DInfo := ⟨Try.t21.desc, 1, 4, Try.t140.zero, true, false, true⟩
noncomputable def i141 : DInfo := ⟨Try.t141.desc, 11, 48, Try.t141.zero, false, false, false⟩
noncomputable def i142 : DInfo := ⟨Try.t141.desc, 11, 48, Try.t142.zero, false, false, false⟩
noncomputable def i143 : DInfo := ⟨Try.t143.desc, 2, 16, Try.t143.zero, true, false, true⟩
noncomputable def i144 : DInfo := ⟨Try.t143.desc, 2, 16, Try.t144.zero, true, false, true⟩
noncomputable def i145 : DInfo := ⟨Try.t145.desc, 1, 8, Try.t145.zero, true, false, true⟩
noncomputable def ts : List (Nat × DInfo) := [(0, i0), (1, i1), (2, i2), (3, i3), (4, i4), (5, i5), (6, i6), (7, i7), (8, i8), (9, i9), (10, i10), (11, i11), (12, i12), (13, i13), (14, i14), (15, i15), (16, i16), (17, i17), (18, i18), (19, i19), (20, i20), (21, i21), (22, i22), (23, i23), (24, i24), (25, i25), (26, i26), (27, i27), (28, i28), (29, i29), (30, i30), (31, i31), (32, i32), (33, i33), (34, i34), (35, i35), (36, i36), (37, i37), (38, i38), (39, i39), (40, i40), (41, i41), (42, i42), (43, i43), (44, i44), (45, i45), (46, i46), (47, i47), (48, i48), (49, i49), (50, i50), (51, i51), (52, i52), (53, i53), (54, i54), (55, i55), (56, i56), (57, i57), (58, i58), (59, i59), (60, i60), (61, i61), (62, i62), (63, i63), (64, i64), (65, i65), (66, i66), (67, i67), (68, i68), (69, i69), (70, i70), (71, i71), (72, i72), (73, i73), (74, i74), (75, i75), (76, i76), (77, i77), (78, i78), (79, i79), (80, i80), (81, i81), (82, i82), (83, i83), (84, i84), (85, i85), (86, i86), (87, i87), (88, i88), (89, i89), (90, i90), (91, i91), (92, i92), (93, i93), (94, i94), (95, i95), (96, i96), (97, i97), (98, i98), (99, i99), (100, i100), (101, i101), (102, i102), (103, i103), (104, i104), (105, i105), (106, i106), (107, i107), (108, i108), (109, i109), (110, i110), (111, i111), (112, i112), (113, i113), (114, i114), (115, i115), (116, i116), (117, i117), (118, i118), (119, i119), (120, i120), (121, i121), (122, i122), (123, i123), (124, i124), (125, i125), (126, i126), (127, i127), (128, i128), (129, i129), (130, i130), (131, i131), (132, i132), (133, i133), (134, i134), (135, i135), (136, i136), (137, i137), (138, i138), (139, i139), (140, i140), (141, i141), (142, i142), (143, i143), (144, i144), (145, i145)]
noncomputable def tt : PM DInfo := (.node (.node (.node (.node (.node (.node (lf i126) (some i62) (lf i94)) (some i30) (.node (lf i110) (some i46) (.node .leaf (some i78) (lf i142)))) (some i14) (.node (.node (lf i118) (some i54) (lf i86)) (some i22) (.node (lf i102) (some i38) (.node .leaf (some i70) (lf i134))))) (some i6) (.node (.node (.node (lf i122) (some i58) (lf i90)) (some i26) (.node (lf i106) (some i42) (.node .leaf (some i74) (lf i138)))) (some i10) (.node (.node (lf i114) (some i50) (lf i82)) (some i18) (.node (lf i98) (some i34) (.node .leaf (some i66) (lf i130)))))) (some i2) (.node (.node (.node (.node (lf i124) (some i60) (lf i92)) (some i28) (.node (lf i108) (some i44) (.node .leaf (some i76) (lf i140)))) (some i12) (.node (.node (lf i116) (some i52) (lf i84)) (some i20) (.node (lf i100) (some i36) (.node .leaf (some i68) (lf i132))))) (some i4) (.node (.node (.node (lf i120) (some i56) (lf i88)) (some i24) (.node (lf i104) (some i40) (.node .leaf (some i72) (lf i136)))) (some i8) (.node (.node (lf i112) (some i48) (.node .leaf (some i80) (lf i144))) (some i16) (.node (lf i96) (some i32) (.node .leaf (some i64) (lf i128))))))) (some i0) (.node (.node (.node (.node (.node (lf i125) (some i61) (lf i93)) (some i29) (.node (lf i109) (some i45) (.node .leaf (some i77) (lf i141)))) (some i13) (.node (.node (lf i117) (some i53) (lf i85)) (some i21) (.node (lf i101) (some i37) (.node .leaf (some i69) (lf i133))))) (some i5) (.node (.node (.node (lf i121) (some i57) (lf i89)) (some i25) (.node (lf i105) (some i41) (.node .leaf (some i73) (lf i137)))) (some i9) (.node (.node (lf i113) (some i49) (.node .leaf (some i81) (lf i145))) (some i17) (.node (lf i97) (some i33) (.node .leaf (some i65) (lf i129)))))) (some i1) (.node (.node (.node (.node (lf i123) (some i59) (lf i91)) (some i27) (.node (lf i107) (some i43) (.node .leaf (some i75) (lf i139)))) (some i11) (.node (.node (lf i115) (some i51) (lf i83)) (some i19) (.node (lf i99) (some i35) (.node .leaf (some i67) (lf i131))))) (some i3) (.node (.node (.node (lf i119) (some i55) (lf i87)) (some i23) (.node (lf i103) (some i39) (.node .leaf (some i71) (lf i135)))) (some i7) (.node (.node (lf i111) (some i47) (.node .leaf (some i79) (lf i143))) (some i15) (.node (lf i95) (some i31) (.node .leaf (some i63) (lf i127))))))))
noncomputable def fs : List (Nat × Func) := [(2, Try.f2), (3, Try.f3), (4, Try.f4), (5, Try.f5), (6, Try.f6), (7, Try.f7), (8, Try.f8), (9, Try.f9), (10, Try.f10), (11, Try.f11), (12, Try.f12), (13, Try.f13), (14, Try.f14), (15, Try.f15), (16, Try.f16), (17, Try.f17), (18, Try.f18), (19, Try.f19), (20, Try.f20), (21, Try.f21), (22, Try.f22), (23, Try.f23), (24, Try.f24), (25, Try.f25), (26, Try.f26), (27, Try.f27), (28, Try.f28), (29, Try.f29), (30, Try.f30), (31, Try.f31), (32, Try.f32), (33, Try.f33), (34, Try.f34), (35, Try.f35), (36, Try.f36), (37, Try.f37), (38, Try.f38), (39, Try.f39), (40, Try.f40), (41, Try.f41), (42, Try.f42), (43, Try.f43), (44, Try.f44), (45, Try.f45), (46, Try.f46), (47, Try.f47), (48, Try.f48), (49, Try.f49), (50, Try.f50), (51, Try.f51), (52, Try.f52), (53, Try.f53), (54, Try.f54), (55, Try.f55), (56, Try.f56), (57, Try.f57), (58, Try.f58), (59, Try.f59), (60, Try.f60), (61, Try.f61), (62, Try.f62), (63, Try.f63), (64, Try.f64), (65, Try.f65), (66, Try.f66), (67, Try.f67), (68, Try.f68), (69, Try.f69), (70, Try.f70), (71, Try.f71), (72, Try.f72), (73, Try.f73)]
noncomputable def ff : PM Func := (.node (.node (.node (.node (.node (lf Try.f62) (some Try.f30) (lf Try.f46)) (some Try.f14) (.node (lf Try.f54) (some Try.f22) (.node .leaf (some Try.f38) (lf Try.f70)))) (some Try.f6) (.node (.node (lf Try.f58) (some Try.f26) (lf Try.f42)) (some Try.f10) (.node (lf Try.f50) (some Try.f18) (.node .leaf (some Try.f34) (lf Try.f66))))) (some Try.f2) (.node (.node (.node (lf Try.f60) (some Try.f28) (lf Try.f44)) (some Try.f12) (.node (lf Try.f52) (some Try.f20) (.node .leaf (some Try.f36) (lf Try.f68)))) (some Try.f4) (.node (.node (lf Try.f56) (some Try.f24) (.node .leaf (some Try.f40) (lf Try.f72))) (some Try.f8) (.node (lf Try.f48) (some Try.f16) (.node .leaf (some Try.f32) (lf Try.f64)))))) none (.node (.node (.node (.node (lf Try.f61) (some Try.f29) (lf Try.f45)) (some Try.f13) (.node (lf Try.f53) (some Try.f21) (.node .leaf (some Try.f37) (lf Try.f69)))) (some Try.f5) (.node (.node (lf Try.f57) (some Try.f25) (.node .leaf (some Try.f41) (lf Try.f73))) (some Try.f9) (.node (lf Try.f49) (some Try.f17) (.node .leaf (some Try.f33) (lf Try.f65))))) none (.node (.node (.node (lf Try.f59) (some Try.f27) (lf Try.f43)) (some Try.f11) (.node (lf Try.f51) (some Try.f19) (.node .leaf (some Try.f35) (lf Try.f67)))) (some Try.f3) (.node (.node (lf Try.f55) (some Try.f23) (.node .leaf (some Try.f39) (lf Try.f71))) (some Try.f7) (.node (lf Try.f47) (some Try.f15) (.node .leaf (some Try.f31) (lf Try.f63)))))))
noncomputable def globs : Nat := 0
theorem tt_eq : tt = layD ts := by kernel_rfl
theorem ff_eq : ff = layD fs := by kernel_rfl
theorem info_eq : ts.map (fun p => infoOf Try.prog p.1) = ts.map fun p => some p.2 := by kernel_rfl
theorem funcs_eq : ∀ p ∈ fs, Try.prog.funcs[p.1]? = some p.2 := by
  have key : fs.map (fun p => Try.prog.funcs[p.1]?) = fs.map fun p => some p.2 := by kernel_rfl
  exact fun p hp => List.map_inj_left.1 key p hp
theorem names_eq : fs.all (fun p => !(p.2.name == "runtime.NumGoroutine")) = true := by kernel_rfl
theorem mixed : Try.prog.follows .mixedOrders = true := by kernel_rfl
/-- The environment, with given functions stood in for. -/
noncomputable def env (prim : Nat → Option (List Value → St → Option (Value × St))) : Env := { inf := tt.get, fn := ff.get, prim, globs }
theorem env_ok (prim : Nat → Option (List Value → St → Option (Value × St))) : (env prim).Ok Try.prog :=
  envOk (fun t => by show tt.get t = _; rw [tt_eq]) (fun f => by show ff.get f = _; rw [ff_eq]) info_eq funcs_eq names_eq
end Go.Proofs.Ytcookjolkhcjhaa.DEnv
