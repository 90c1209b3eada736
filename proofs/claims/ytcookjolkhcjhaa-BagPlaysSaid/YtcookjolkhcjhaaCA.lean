/- Parts of the proof, put together. -/
import Derived.Test.YtcookjolkhcjhaaDC
import Derived.Test.YtcookjolkhcjhaaChecked
import Derived.KernelRfl
/-
  D over this seat's program: what D is told of its types and functions (printed by GenEnv.lean).
-/
namespace Go.Proofs.Ytcookjolkhcjhaa.DEnv
open Go.Proofs.Ytcookjolkhcjhaa.D
abbrev lf {α : Type} (v : α) : PM α := .node .leaf (some v) .leaf
noncomputable def i0 : DInfo := ⟨Try.t0.desc, 1, 0, Try.t0.zero, false, false, true⟩
noncomputable def i1 : DInfo := ⟨Try.t1.desc, 1, 8, Try.t1.zero, false, false, true⟩
noncomputable def i2 : DInfo := ⟨Try.t2.desc, 1, 8, Try.t2.zero, true, false, true⟩
noncomputable def i3 : DInfo := ⟨Try.t3.desc, 1, 8, Try.t3.zero, true, false, true⟩
noncomputable def i4 : DInfo := ⟨Try.t4.desc, 1, 1, Try.t4.zero, true, false, true⟩
noncomputable def i5 : DInfo := ⟨Try.t5.desc, 1, 1, Try.t5.zero, true, false, true⟩
noncomputable def i6 : DInfo := ⟨Try.t5.desc, 1, 1, Try.t6.zero, true, false, true⟩
noncomputable def i7 : DInfo := ⟨Try.t7.desc, 4, 24, Try.t7.zero, true, false, true⟩
noncomputable def i8 : DInfo := ⟨Try.t7.desc, 4, 24, Try.t8.zero, true, false, true⟩
noncomputable def i9 : DInfo := ⟨Try.t9.desc, 1, 16, Try.t9.zero, true, false, true⟩
noncomputable def i10 : DInfo := ⟨Try.t9.desc, 1, 16, Try.t10.zero, true, false, true⟩
noncomputable def i11 : DInfo := ⟨Try.t9.desc, 1, 16, Try.t11.zero, true, false, true⟩
noncomputable def i12 : DInfo := ⟨Try.t12.desc, 1, 8, Try.t12.zero, true, false, true⟩
noncomputable def i13 : DInfo := ⟨Try.t13.desc, 2, 24, Try.t13.zero, true, false, false⟩
noncomputable def i14 : DInfo := ⟨Try.t13.desc, 2, 24, Try.t14.zero, true, false, false⟩
noncomputable def i15 : DInfo := ⟨Try.t15.desc, 1, 8, Try.t15.zero, true, false, true⟩
noncomputable def i16 : DInfo := ⟨Try.t16.desc, 1, 8, Try.t16.zero, true, false, true⟩
noncomputable def i17 : DInfo := ⟨Try.t17.desc, 1, 8, Try.t17.zero, true, false, true⟩
noncomputable def i18 : DInfo := ⟨Try.t18.desc, 1, 8, Try.t18.zero, true, false, false⟩
noncomputable def i19 : DInfo := ⟨Try.t18.desc, 1, 8, Try.t19.zero, true, false, false⟩
noncomputable def i20 : DInfo := ⟨Try.t20.desc, 1, 16, Try.t20.zero, true, false, true⟩
noncomputable def i21 : DInfo := ⟨Try.t21.desc, 1, 4, Try.t21.zero, true, false, true⟩
noncomputable def i22 : DInfo := ⟨Try.t22.desc, 3, 24, Try.t22.zero, true, false, true⟩
noncomputable def i23 : DInfo := ⟨Try.t22.desc, 3, 24, Try.t23.zero, true, false, true⟩
noncomputable def i24 : DInfo := ⟨Try.t24.desc, 5, 40, Try.t24.zero, true, false, true⟩
noncomputable def i25 : DInfo := ⟨Try.t24.desc, 5, 40, Try.t25.zero, true, false, true⟩
noncomputable def i26 : DInfo := ⟨Try.t26.desc, 1, 4, Try.t26.zero, true, false, true⟩
noncomputable def i27 : DInfo := ⟨Try.t27.desc, 1, 8, Try.t27.zero, true, false, true⟩
noncomputable def i28 : DInfo := ⟨Try.t28.desc, 1, 24, Try.t28.zero, false, false, true⟩
noncomputable def i29 : DInfo := ⟨Try.t29.desc, 9, 88, Try.t29.zero, false, false, true⟩
noncomputable def i30 : DInfo := ⟨Try.t29.desc, 9, 88, Try.t30.zero, false, false, true⟩
noncomputable def i31 : DInfo := ⟨Try.t31.desc, 1, 8, Try.t31.zero, false, false, true⟩
noncomputable def i32 : DInfo := ⟨Try.t3.desc, 1, 8, Try.t32.zero, true, false, true⟩
noncomputable def i33 : DInfo := ⟨Try.t33.desc, 1, 0, none, false, false, true⟩
noncomputable def i34 : DInfo := ⟨Try.t34.desc, 1, 8, Try.t34.zero, false, false, true⟩
noncomputable def i35 : DInfo := ⟨Try.t35.desc, 1, 8, Try.t35.zero, false, false, true⟩
noncomputable def i36 : DInfo := ⟨Try.t36.desc, 1, 8, Try.t36.zero, false, false, true⟩
noncomputable def i37 : DInfo := ⟨Try.t37.desc, 1, 24, Try.t37.zero, false, false, true⟩
noncomputable def i38 : DInfo := ⟨Try.t38.desc, 1, 8, Try.t38.zero, false, false, true⟩
noncomputable def i39 : DInfo := ⟨Try.t39.desc, 1, 8, Try.t39.zero, false, false, true⟩
noncomputable def i40 : DInfo := ⟨Try.t40.desc, 1, 8, Try.t40.zero, false, false, true⟩
noncomputable def i41 : DInfo := ⟨Try.t41.desc, 1, 8, Try.t41.zero, false, false, true⟩
noncomputable def i42 : DInfo := ⟨Try.t42.desc, 1, 24, Try.t42.zero, false, false, true⟩
noncomputable def i43 : DInfo := ⟨Try.t43.desc, 1, 24, Try.t43.zero, false, false, true⟩
noncomputable def i44 : DInfo := ⟨Try.t44.desc, 1, 8, Try.t44.zero, false, false, true⟩
noncomputable def i45 : DInfo := ⟨Try.t45.desc, 1, 8, Try.t45.zero, false, false, true⟩
noncomputable def i46 : DInfo := ⟨Try.t46.desc, 1, 8, Try.t46.zero, false, false, true⟩
noncomputable def i47 : DInfo := ⟨Try.t47.desc, 1, 24, Try.t47.zero, false, false, true⟩
noncomputable def i48 : DInfo := ⟨Try.t48.desc, 1, 1, Try.t48.zero, true, false, true⟩
noncomputable def i49 : DInfo := ⟨Try.t49.desc, 2, 2, Try.t49.zero, true, false, true⟩
noncomputable def i50 : DInfo := ⟨Try.t50.desc, 1, 0, Try.t50.zero, false, false, true⟩
noncomputable def i51 : DInfo := ⟨Try.t51.desc, 1, 8, Try.t51.zero, false, false, true⟩
noncomputable def i52 : DInfo := ⟨Try.t52.desc, 1, 8, Try.t52.zero, false, false, true⟩
noncomputable def i53 : DInfo := ⟨Try.t53.desc, 1, 24, Try.t53.zero, false, false, true⟩
noncomputable def i54 : DInfo := ⟨Try.t54.desc, 1, 8, Try.t54.zero, false, false, true⟩
noncomputable def i55 : DInfo := ⟨Try.t55.desc, 1, 24, Try.t55.zero, false, false, true⟩
noncomputable def i56 : DInfo := ⟨Try.t56.desc, 6, 48, Try.t56.zero, true, false, true⟩
noncomputable def i57 : DInfo := ⟨Try.t56.desc, 6, 48, Try.t57.zero, true, false, true⟩
noncomputable def i58 : DInfo := ⟨Try.t58.desc, 8, 80, Try.t58.zero, false, false, true⟩
noncomputable def i59 : DInfo := ⟨Try.t58.desc, 8, 80, Try.t59.zero, false, false, true⟩
noncomputable def i60 : DInfo := ⟨Try.t60.desc, 1, 8, Try.t60.zero, false, false, true⟩
noncomputable def i61 : DInfo := ⟨Try.t61.desc, 6, 64, Try.t61.zero, false, false, true⟩
noncomputable def i62 : DInfo := ⟨Try.t61.desc, 6, 64, Try.t62.zero, false, false, true⟩
noncomputable def i63 : DInfo := ⟨Try.t63.desc, 1, 8, Try.t63.zero, false, false, true⟩
noncomputable def i64 : DInfo := ⟨Try.t64.desc, 1, 16, Try.t64.zero, true, false, true⟩
noncomputable def i65 : DInfo := ⟨Try.t64.desc, 1, 16, Try.t65.zero, true, false, true⟩
noncomputable def i66 : DInfo := ⟨Try.t66.desc, 5, 56, Try.t66.zero, false, false, true⟩
noncomputable def i67 : DInfo := ⟨Try.t66.desc, 5, 56, Try.t67.zero, false, false, true⟩
noncomputable def i68 : DInfo := ⟨Try.t68.desc, 1, 0, none, false, false, true⟩
noncomputable def i69 : DInfo := ⟨Try.t69.desc, 1, 8, Try.t69.zero, false, false, true⟩
noncomputable def i70 : DInfo := ⟨Try.t70.desc, 1, 8, Try.t70.zero, false, false, true⟩
noncomputable def i71 : DInfo := ⟨Try.t71.desc, 1, 8, Try.t71.zero, false, false, true⟩
noncomputable def i72 : DInfo := ⟨Try.t72.desc, 1, 0, Try.t72.zero, false, false, true⟩
noncomputable def i73 : DInfo := ⟨Try.t73.desc, 1, 8, Try.t73.zero, false, false, true⟩
noncomputable def i74 : DInfo := ⟨Try.t74.desc, 1, 8, Try.t74.zero, false, false, true⟩
noncomputable def i75 : DInfo := ⟨Try.t75.desc, 1, 8, Try.t75.zero, false, false, true⟩
noncomputable def i76 : DInfo := ⟨Try.t76.desc, 1, 8, Try.t76.zero, false, false, true⟩
noncomputable def i77 : DInfo := ⟨Try.t77.desc, 1, 8, Try.t77.zero, false, false, true⟩
noncomputable def i78 : DInfo := ⟨Try.t78.desc, 1, 8, Try.t78.zero, false, false, true⟩
noncomputable def i79 : DInfo := ⟨Try.t79.desc, 1, 8, Try.t79.zero, false, false, true⟩
noncomputable def i80 : DInfo := ⟨Try.t80.desc, 1, 0, none, false, false, true⟩
noncomputable def i81 : DInfo := ⟨Try.t81.desc, 1, 8, Try.t81.zero, false, false, true⟩
noncomputable def i82 : DInfo := ⟨Try.t82.desc, 1, 8, Try.t82.zero, false, false, true⟩
noncomputable def i83 : DInfo := ⟨Try.t83.desc, 1, 8, Try.t83.zero, true, false, true⟩
noncomputable def i84 : DInfo := ⟨Try.t84.desc, 1, 8, Try.t84.zero, true, false, true⟩
noncomputable def i85 : DInfo := ⟨Try.t85.desc, 8, 80, Try.t85.zero, false, false, true⟩
noncomputable def i86 : DInfo := ⟨Try.t85.desc, 8, 80, Try.t86.zero, false, false, true⟩
noncomputable def i87 : DInfo := ⟨Try.t87.desc, 1, 8, Try.t87.zero, false, false, true⟩
noncomputable def i88 : DInfo := ⟨Try.t88.desc, 1, 8, Try.t88.zero, false, false, true⟩
noncomputable def i89 : DInfo := ⟨Try.t89.desc, 1, 8, Try.t89.zero, false, false, true⟩
noncomputable def i90 : DInfo := ⟨Try.t90.desc, 1, 0, none, false, false, true⟩
noncomputable def i91 : DInfo := ⟨Try.t91.desc, 1, 8, Try.t91.zero, false, false, true⟩
noncomputable def i92 : DInfo := ⟨Try.t92.desc, 1, 8, Try.t92.zero, false, false, true⟩
noncomputable def i93 : DInfo := ⟨Try.t93.desc, 1, 8, Try.t93.zero, false, false, true⟩
noncomputable def i94 : DInfo := ⟨Try.t94.desc, 1, 8, Try.t94.zero, false, false, true⟩
noncomputable def i95 : DInfo := ⟨Try.t95.desc, 1, 8, Try.t95.zero, false, false, true⟩
noncomputable def i96 : DInfo := ⟨Try.t96.desc, 1, 8, Try.t96.zero, false, false, true⟩
noncomputable def i97 : DInfo := ⟨Try.t96.desc, 1, 8, Try.t97.zero, false, false, true⟩
noncomputable def i98 : DInfo := ⟨Try.t98.desc, 1, 8, Try.t98.zero, false, false, true⟩
noncomputable def i99 : DInfo := ⟨Try.t99.desc, 1, 8, Try.t99.zero, false, false, true⟩
noncomputable def i100 : DInfo := ⟨Try.t100.desc, 1, 8, Try.t100.zero, false, false, true⟩
noncomputable def i101 : DInfo := ⟨Try.t101.desc, 1, 8, Try.t101.zero, false, false, true⟩
noncomputable def i102 : DInfo := ⟨Try.t101.desc, 1, 8, Try.t102.zero, false, false, true⟩
noncomputable def i103 : DInfo := ⟨Try.t103.desc, 1, 8, Try.t103.zero, false, false, true⟩
noncomputable def i104 : DInfo := ⟨Try.t104.desc, 6, 48, Try.t104.zero, true, false, true⟩
noncomputable def i105 : DInfo := ⟨Try.t104.desc, 6, 48, Try.t105.zero, true, false, true⟩
noncomputable def i106 : DInfo := ⟨Try.t106.desc, 1, 8, Try.t106.zero, false, false, true⟩
noncomputable def i107 : DInfo := ⟨Try.t107.desc, 1, 8, Try.t107.zero, false, false, true⟩
noncomputable def i108 : DInfo := ⟨Try.t108.desc, 1, 8, Try.t108.zero, false, false, true⟩
noncomputable def i109 : DInfo := ⟨Try.t109.desc, 1, 8, Try.t109.zero, false, false, true⟩
noncomputable def i110 : DInfo := ⟨Try.t110.desc, 1, 8, Try.t110.zero, false, false, true⟩
noncomputable def i111 : DInfo := ⟨Try.t110.desc, 1, 8, Try.t111.zero, false, false, true⟩
noncomputable def i112 : DInfo := ⟨Try.t112.desc, 1, 8, Try.t112.zero, false, false, true⟩
noncomputable def i113 : DInfo := ⟨Try.t113.desc, 1, 8, Try.t113.zero, false, false, true⟩
noncomputable def i114 : DInfo := ⟨Try.t114.desc, 1, 0, none, false, false, true⟩
noncomputable def i115 : DInfo := ⟨Try.t115.desc, 1, 8, Try.t115.zero, false, false, true⟩
noncomputable def i116 : DInfo := ⟨Try.t116.desc, 1, 0, Try.t116.zero, false, false, true⟩
noncomputable def i117 : DInfo := ⟨Try.t117.desc, 1, 8, Try.t117.zero, false, false, true⟩
noncomputable def i118 : DInfo := ⟨Try.t118.desc, 1, 8, Try.t118.zero, false, false, true⟩
noncomputable def i119 : DInfo := ⟨Try.t119.desc, 1, 8, Try.t119.zero, false, false, true⟩
noncomputable def i120 : DInfo := ⟨Try.t120.desc, 1, 8, Try.t120.zero, true, false, true⟩
noncomputable def i121 : DInfo := ⟨Try.t121.desc, 1, 8, Try.t121.zero, false, false, true⟩
noncomputable def i122 : DInfo := ⟨Try.t121.desc, 1, 8, Try.t122.zero, false, false, true⟩
noncomputable def i123 : DInfo := ⟨Try.t123.desc, 1, 8, Try.t123.zero, false, false, true⟩
noncomputable def i124 : DInfo := ⟨Try.t124.desc, 1, 8, Try.t124.zero, false, false, true⟩
noncomputable def i125 : DInfo := ⟨Try.t125.desc, 1, 8, Try.t125.zero, false, false, true⟩
noncomputable def i126 : DInfo := ⟨Try.t126.desc, 1, 8, Try.t126.zero, false, false, true⟩
noncomputable def i127 : DInfo := ⟨Try.t127.desc, 1, 8, Try.t127.zero, false, false, true⟩
noncomputable def i128 : DInfo := ⟨Try.t128.desc, 1, 8, Try.t128.zero, false, false, true⟩
noncomputable def i129 : DInfo := ⟨Try.t129.desc, 1, 8, Try.t129.zero, false, false, true⟩
noncomputable def i130 : DInfo := ⟨Try.t130.desc, 4, 40, Try.t130.zero, true, false, false⟩
noncomputable def i131 : DInfo := ⟨Try.t130.desc, 4, 40, Try.t131.zero, true, false, false⟩
noncomputable def i132 : DInfo := ⟨Try.t132.desc, 0, 0, Try.t132.zero, true, false, true⟩
noncomputable def i133 : DInfo := ⟨Try.t133.desc, 0, 0, Try.t133.zero, true, false, false⟩
noncomputable def i134 : DInfo := ⟨Try.t133.desc, 0, 0, Try.t134.zero, true, false, false⟩
noncomputable def i135 : DInfo := ⟨Try.t5.desc, 1, 1, Try.t135.zero, true, false, true⟩
noncomputable def i136 : DInfo := ⟨Try.t5.desc, 1, 1, Try.t136.zero, true, false, true⟩
noncomputable def i137 : DInfo := ⟨Try.t137.desc, 1, 8, Try.t137.zero, false, false, true⟩
noncomputable def i138 : DInfo := ⟨Try.t138.desc, 1, 8, Try.t138.zero, true, false, true⟩
noncomputable def i139 : DInfo := ⟨Try.t21.desc, 1, 4, Try.t139.zero, true, false, true⟩
noncomputable def i140 : DInfo := ⟨Try.t21.desc, 1, 4, Try.t140.zero, true, false, true⟩
noncomputable def i141 : DInfo := ⟨Try.t141.desc, 11, 48, Try.t141.zero, false, false, false⟩
noncomputable def i142 : DInfo := ⟨Try.t141.desc, 11, 48, Try.t142.zero, false, false, false⟩
noncomputable def i143 : DInfo := ⟨Try.t143.desc, 2, 16, Try.t143.zero, true, false, true⟩
noncomputable def i144 : DInfo := ⟨Try.t143.desc, 2, 16, Try.t144.zero, true, false, true⟩
noncomputable def i145 : DInfo := ⟨Try.t145.desc, 1, 8, Try.t145.zero, true, false, true⟩
noncomputable def ts : List (Nat × DInfo) := [(0, i0), (1, i1), (2, i2), (3, i3), (4, i4), (5, i5), (6, i6), (7, i7), (8, i8), (9, i9), (10, i10), (11, i11), (12, i12), (13, i13), (14, i14), (15, i15), (16, i16), (17, i17), (18, i18), (19, i19), (20, i20), (21, i21), (22, i22), (23, i23), (24, i24), (25, i25), (26, i26), (27, i27), (28, i28), (29, i29), (30, i30), (31, i31), (32, i32), (33, i33), (34, i34), (35, i35), (36, i36), (37, i37), (38, i38), (39, i39), (40, i40), (41, i41), (42, i42), (43, i43), (44, i44), (45, i45), (46, i46), (47, i47), (48, i48), (49, i49), (50, i50), (51, i51), (52, i52), (53, i53), (54, i54), (55, i55), (56, i56), (57, i57), (58, i58), (59, i59), (60, i60), (61, i61), (62, i62), (63, i63), (64, i64), (65, i65), (66, i66), (67, i67), (68, i68), (69, i69), (70, i70), (71, i71), (72, i72), (73, i73), (74, i74), (75, i75), (76, i76), (77, i77), (78, i78), (79, i79), (80, i80), (81, i81), (82, i82), (83, i83), (84, i84), (85, i85), (86, i86), (87, i87), (88, i88), (89, i89), (90, i90), (91, i91), (92, i92), (93, i93), (94, i94), (95, i95), (96, i96), (97, i97), (98, i98), (99, i99), (100, i100), (101, i101), (102, i102), (103, i103), (104, i104), (105, i105), (106, i106), (107, i107), (108, i108), (109, i109), (110, i110), (111, i111), (112, i112), (113, i113), (114, i114), (115, i115), (116, i116), (117, i117), (118, i118), (119, i119), (120, i120), (121, i121), (122, i122), (123, i123), (124, i124), (125, i125), (126, i126), (127, i127), (128, i128), (129, i129), (130, i130), (131, i131), (132, i132), (133, i133), (134, i134), (135, i135), (136, i136), (137, i137), (138, i138), (139, i139), (140, i140), (141, i141), (142, i142), (143, i143), (144, i144), (145, i145)]
noncomputable def tt : PM DInfo := (.node (.node (.node (.node (.node (.node (lf i126) (some i62) (lf i94)) (some i30) (.node (lf i110) (some i46) (.node .leaf (some i78) (lf i142)))) (some i14) (.node (.node (lf i118) (some i54) (lf i86)) (some i22) (.node (lf i102) (some i38) (.node .leaf (some i70) (lf i134))))) (some i6) (.node (.node (.node (lf i122) (some i58) (lf i90)) (some i26) (.node (lf i106) (some i42) (.node .leaf (some i74) (lf i138)))) (some i10) (.node (.node (lf i114) (some i50) (lf i82)) (some i18) (.node (lf i98) (some i34) (.node .leaf (some i66) (lf i130)))))) (some i2) (.node (.node (.node (.node (lf i124) (some i60) (lf i92)) (some i28) (.node (lf i108) (some i44) (.node .leaf (some i76) (lf i140)))) (some i12) (.node (.node (lf i116) (some i52) (lf i84)) (some i20) (.node (lf i100) (some i36) (.node .leaf (some i68) (lf i132))))) (some i4) (.node (.node (.node (lf i120) (some i56) (lf i88)) (some i24) (.node (lf i104) (some i40) (.node .leaf (some i72) (lf i136)))) (some i8) (.node (.node (lf i112) (some i48) (.node .leaf (some i80) (lf i144))) (some i16) (.node (lf i96) (some i32) (.node .leaf (some i64) (lf i128))))))) (some i0) (.node (.node (.node (.node (.node (lf i125) (some i61) (lf i93)) (some i29) (.node (lf i109) (some i45) (.node .leaf (some i77) (lf i141)))) (some i13) (.node (.node (lf i117) (some i53) (lf i85)) (some i21) (.node (lf i101) (some i37) (.node .leaf (some i69) (lf i133))))) (some i5) (.node (.node (.node (lf i121) (some i57) (lf i89)) (some i25) (.node (lf i105) (some i41) (.node .leaf (some i73) (lf i137)))) (some i9) (.node (.node (lf i113) (some i49) (.node .leaf (some i81) (lf i145))) (some i17) (.node (lf i97) (some i33) (.node .leaf (some i65) (lf i129)))))) (some i1) (.node (.node (.node (.node (lf i123) (some i59) (lf i91)) (some i27) (.node (lf i107) (some i43) (.node .leaf (some i75) (lf i139)))) (some i11) (.node (.node (lf i115) (some i51) (lf i83)) (some i19) (.node (lf i99) (some i35) (.node .leaf (some i67) (lf i131))))) (some i3) (.node (.node (.node (lf i119) (some i55) (lf i87)) (some i23) (.node (lf i103) (some i39) (.node .leaf (some i71) (lf i135)))) (some i7) (.node (.node (lf i111) (some i47) (.node .leaf (some i79) (lf i143))) (some i15) (.node (lf i95) (some i31) (.node .leaf (some i63) (lf i127))))))))
noncomputable def fs : List (Nat × Func) := [(2, Try.f2), (3, Try.f3), (4, Try.f4), (5, Try.f5), (6, Try.f6), (7, Try.f7), (8, Try.f8), (9, Try.f9), (10, Try.f10), (11, Try.f11), (12, Try.f12), (13, Try.f13), (14, Try.f14), (15, Try.f15), (16, Try.f16), (17, Try.f17), (18, Try.f18), (19, Try.f19), (20, Try.f20), (21, Try.f21), (22, Try.f22), (23, Try.f23), (24, Try.f24), (25, Try.f25), (26, Try.f26), (27, Try.f27), (28, Try.f28), (29, Try.f29), (30, Try.f30), (31, Try.f31), (32, Try.f32), (33, Try.f33), (34, Try.f34), (35, Try.f35), (36, Try.f36), (37, Try.f37), (38, Try.f38), (39, Try.f39), (40, Try.f40), (41, Try.f41), (42, Try.f42), (43, Try.f43), (44, Try.f44), (45, Try.f45), (46, Try.f46), (47, Try.f47), (48, Try.f48), (49, Try.f49), (50, Try.f50), (51, Try.f51), (52, Try.f52), (53, Try.f53), (54, Try.f54), (55, Try.f55), (56, Try.f56), (57, Try.f57), (58, Try.f58), (59, Try.f59), (60, Try.f60), (61, Try.f61), (62, Try.f62), (63, Try.f63), (64, Try.f64), (65, Try.f65), (66, Try.f66), (67, Try.f67), (68, Try.f68), (69, Try.f69), (70, Try.f70), (71, Try.f71), (72, Try.f72), (73, Try.f73)]
noncomputable def ff : PM Func := (.node (.node (.node (.node (.node (lf Try.f62) (some Try.f30) (lf Try.f46)) (some Try.f14) (.node (lf Try.f54) (some Try.f22) (.node .leaf (some Try.f38) (lf Try.f70)))) (some Try.f6) (.node (.node (lf Try.f58) (some Try.f26) (lf Try.f42)) (some Try.f10) (.node (lf Try.f50) (some Try.f18) (.node .leaf (some Try.f34) (lf Try.f66))))) (some Try.f2) (.node (.node (.node (lf Try.f60) (some Try.f28) (lf Try.f44)) (some Try.f12) (.node (lf Try.f52) (some Try.f20) (.node .leaf (some Try.f36) (lf Try.f68)))) (some Try.f4) (.node (.node (lf Try.f56) (some Try.f24) (.node .leaf (some Try.f40) (lf Try.f72))) (some Try.f8) (.node (lf Try.f48) (some Try.f16) (.node .leaf (some Try.f32) (lf Try.f64)))))) none (.node (.node (.node (.node (lf Try.f61) (some Try.f29) (lf Try.f45)) (some Try.f13) (.node (lf Try.f53) (some Try.f21) (.node .leaf (some Try.f37) (lf Try.f69)))) (some Try.f5) (.node (.node (lf Try.f57) (some Try.f25) (.node .leaf (some Try.f41) (lf Try.f73))) (some Try.f9) (.node (lf Try.f49) (some Try.f17) (.node .leaf (some Try.f33) (lf Try.f65))))) none (.node (.node (.node (lf Try.f59) (some Try.f27) (lf Try.f43)) (some Try.f11) (.node (lf Try.f51) (some Try.f19) (.node .leaf (some Try.f35) (lf Try.f67)))) (some Try.f3) (.node (.node (lf Try.f55) (some Try.f23) (.node .leaf (some Try.f39) (lf Try.f71))) (some Try.f7) (.node (lf Try.f47) (some Try.f15) (.node .leaf (some Try.f31) (lf Try.f63)))))))
noncomputable def globs : Nat := 0
theorem tt_eq : tt = layD ts := by kernel_rfl
theorem ff_eq : ff = layD fs := by kernel_rfl
theorem info_eq : ts.map (fun p => infoOf Try.prog p.1) = ts.map fun p => some p.2 := by kernel_rfl
theorem funcs_eq : ∀ p ∈ fs, Try.prog.funcs[p.1]? = some p.2 := by
  have key : fs.map (fun p => Try.prog.funcs[p.1]?) = fs.map fun p => some p.2 := by kernel_rfl
  exact fun p hp => List.map_inj_left.1 key p hp
theorem names_eq : fs.all (fun p => !(p.2.name == "runtime.NumGoroutine")) = true := by kernel_rfl
theorem mixed : Try.prog.follows .mixedOrders = true := by kernel_rfl
/-- The environment, with given functions stood in for. -/
noncomputable def env (prim : Nat → Option (List Value → St → Option (Value × St))) : Env := { inf := tt.get, fn := ff.get, prim, globs }
theorem env_ok (prim : Nat → Option (List Value → St → Option (Value × St))) : (env prim).Ok Try.prog :=
  envOk (fun t => by show tt.get t = _; rw [tt_eq]) (fun f => by show ff.get f = _; rw [ff_eq]) info_eq funcs_eq names_eq
end Go.Proofs.Ytcookjolkhcjhaa.DEnv

/- The seat's base: D over the program, without stand-ins; structs' cells (printed by GenBase.lean). -/
namespace Go.Proofs.Ytcookjolkhcjhaa
open Go Go.Proofs.Ytcookjolkhcjhaa.D
noncomputable def E0 : Env := DEnv.env fun _ => none
/-- [x, y, signed, code] -/
abbrev G7 : List Sc := [.int .i64, .int .i64, .bool, .int .u8]
/-- [msg, addr] -/
abbrev G13 : List Sc := [.str, .int .u64]
/-- [Is, Cell, Robot] -/
abbrev G22 : List Sc := [.bool, .int .i64, .int .i64]
/-- [Self, Prio, W] -/
abbrev G24 : List Sc := [.int .i64, .int .i64, .bool, .int .i64, .int .i64]
/-- [Kind, Cell, Gen, Stamp, Prio, Hops, Origin, Other, Claims] -/
abbrev G29 : List Sc := [.int .i64, .int .i64, .int .u32, .int .u64, .int .i64, .int .i64, .int .i64, .int .i64, .sl]
/-- [Sent, Delivered, Dropped, Doubled, Spoilt, Lost] -/
abbrev G56 : List Sc := [.int .i64, .int .i64, .int .i64, .int .i64, .int .i64, .int .i64]
/-- [l, last, count] -/
abbrev G58 : List Sc := [.sl, .int .i64, .int .i64, .int .i64, .int .i64, .int .i64, .int .i64, .int .i64]
/-- [Kind, N, At, Data, With, Many] -/
abbrev G61 : List Sc := [.int .i64, .int .i64, .int .i64, .sl, .int .u8, .int .i64]
/-- [N, From, To, Data, Spoil] -/
abbrev G66 : List Sc := [.int .i64, .int .i64, .int .i64, .sl, .bool]
/-- [Kind, Robot, N, At, With, Draw] -/
abbrev G104 : List Sc := [.int .i64, .int .i64, .int .i64, .int .i64, .int .i64, .int .u64]
/-- [_interface, concrete, asserted, missingMethod] -/
abbrev G130 : List Sc := [.ptr, .ptr, .ptr, .str]
/-- [Size_, PtrBytes, Hash, TFlag, Align_, FieldAlign_, Kind_, Equal, GCData, Str, PtrToThis] -/
abbrev G141 : List Sc := [.int .u64, .int .u64, .int .u32, .int .u8, .int .u8, .int .u8, .int .u8, .any, .ptr, .int .i32, .int .i32]
/-- [Cell, Gen] -/
abbrev G143 : List Sc := [.int .i64, .int .u32]
end Go.Proofs.Ytcookjolkhcjhaa

/- The conditions of functions (printed by GenDen.lean). -/
namespace Go.Proofs.Ytcookjolkhcjhaa
open Go Go.Proofs.Ytcookjolkhcjhaa.D
set_option linter.unusedVariables false
noncomputable section

/-! 24 wagonway/wagonwaylaw08.alive -/
noncomputable def h24 : Hn := .no
def c24  (S : St) (k : Value → St → Prop) : Prop :=
  newW S
    (.cells [.slice none 0 0, .int .i64 0, .int .i64 0, .int .i64 0, .int .i64 0, .int .i64 0, .int .i64 0, .int .i64 0] none
      false none)
    fun (b1 : Nat) (S1 : St) =>
    newW S1 (.cells [.int .u8 97, .int .u8 98] none false none) fun (b2 : Nat) (S2 : St) =>
      evP tS (convertD E0 S2 42 42 (.slice (some ⟨b2, 0, none⟩) 2 2)) fun (s1 : Sl) (S3 : St) =>
        evC E0 tI 26 [.pointer (some ⟨b1, 0, none⟩), .int .i64 1, .int .i64 2, .slice s1.a s1.len s1.cap] S3 fun (n1 : Int) (S4 : St) =>
          evC E0 (TT.tup [Ty.sc (Sc.int .i64), Ty.sc (Sc.int .i64)]) 30 [.pointer (some ⟨b1, 0, none⟩), .int .i64 1] S4 fun (x1 : Int × Int) (S5 : St) =>
            evC E0 tI 31 [.pointer (some ⟨b1, 0, none⟩), .int .i64 1, .int .i64 0, .int .u8 2] S5 fun (n2 : Int) (S6 : St) =>
              evC E0 tI 31 [.pointer (some ⟨b1, 0, none⟩), .int .i64 1, .int .i64 0, .int .u8 2] S6 fun (n3 : Int) (S7 : St) =>
                ifW (eqI n1 1)
                  (ifW (eqI x1.1 2)
                    (ifW (eqI x1.2 0)
                      (ifW (eqI n2 0) (ifW (eqI n3 80) (evC E0 tI 33 [.pointer (some ⟨b1, 0, none⟩)] S7 fun (n4 : Int) (S8 : St) => k (.bool (eqI n4 2)) S8) (k (.bool false) S7))
                        (k (.bool false) S7))
                      (k (.bool false) S7))
                    (k (.bool false) S7))
                  (k (.bool false) S7)
theorem w24  {S : St} {k : Value → St → Prop} (h : c24  S k) : WC E0 24 [] S k :=
  WC_den h24 rfl (by kernel_rfl) (by kernel_rfl : Try.f24.body = some (bodyOf Try.f24)) (by rw [show (denF E0 h24 Try.f24 (bodyOf Try.f24) [] S k) = c24  S k by kernel_rfl]; exact h)

/-! 25 wagonway/wagonwaylaw08.Great -/
noncomputable def h25 : Hn := (.n .no (.n .no (.n .no (.n (.n .no (.n (.n .no .no (some ⟨[0, 9], [(3, .sc (.int .i64)), (10, .sc (.int .i64))], false⟩)) .no none) none) .no none) none) none) none)
def c25 (l_0 : Sl) (S : St) (k : Value → St → Prop) : Prop :=
  ifW (ltI 120 (↑l_0.len : Int)) (k (.int .i64 1) S)
    (loopW
      (fun (k1 : Int × Int → St → Prop) (x1 : Int × Int) (S1 : St) =>
        ifW (ltI x1.2 (↑l_0.len : Int))
          (idxW l_0.a l_0.len x1.2 fun (b1 b2 : Nat) =>
            ptrW (some ⟨b1, b2 + Int.toNat x1.2 * 6, none⟩) fun (b3 b4 : Nat) =>
              evV tS (loadV E0 S1 42 (.pointer (some ⟨b3, b4 + 3, none⟩))) fun (s1 : Sl) =>
                ifW (ltI 60 (↑s1.len : Int)) (k (.int .i64 1) S1)
                  (idxW l_0.a l_0.len x1.2 fun (b5 b6 : Nat) =>
                    ptrW (some ⟨b5, b6 + Int.toNat x1.2 * 6, none⟩) fun (b7 b8 : Nat) =>
                      evV tI (loadV E0 S1 3 (.pointer (some ⟨b7, b8 + 5, none⟩))) fun (n1 : Int) =>
                        ifW (ltI 300 n1) (k (.int .i64 1) S1)
                          (idxW l_0.a l_0.len x1.2 fun (b9 b10 : Nat) =>
                            ptrW (some ⟨b9, b10 + Int.toNat x1.2 * 6, none⟩) fun (b11 b12 : Nat) =>
                              evV tI (loadV E0 S1 3 (.pointer (some ⟨b11, b12 + 5, none⟩))) fun (n2 : Int) =>
                                ifW (ltI 1 n2) (k1 (wrapI .i64 (x1.1 + 1), wrapI .i64 (x1.2 + 1)) S1) (k1 (x1.1, wrapI .i64 (x1.2 + 1)) S1))))
          (ifW (ltI 3 x1.1) (k (.int .i64 1) S1) (k (.int .i64 0) S1)))
      (0, 0) S)
theorem w25 (l_0 : Sl) {S : St} {k : Value → St → Prop} (h : c25 l_0 S k) : WC E0 25 [.slice l_0.a l_0.len l_0.cap] S k :=
  WC_den h25 rfl (by kernel_rfl) (by kernel_rfl : Try.f25.body = some (bodyOf Try.f25)) (by rw [show (denF E0 h25 Try.f25 (bodyOf Try.f25) [.slice l_0.a l_0.len l_0.cap] S k) = c25 l_0 S k by kernel_rfl]; exact h)

/-! 26 (*wagonway/bag.Bag).Send -/
noncomputable def h26 : Hn := .no
def c26 (b_0 : Option Addr) (from_1 : Int) (to_2 : Int) (data_3 : Sl) (S : St) (k : Value → St → Prop) : Prop :=
  eqW E0 S 83 (.pointer b_0) (.pointer none) fun (t1 : Bool) =>
    ifW t1 (k (.int .i64 0) S)
      (ptrW b_0 fun (b1 b2 : Nat) =>
        ptrW (some ⟨b1, b2, none⟩) fun (b3 b4 : Nat) =>
          ptrW (some ⟨b3, b4 + 2, none⟩) fun (b5 b6 : Nat) =>
            evV tI (loadV E0 S 3 (.pointer (some ⟨b5, b6 + 0, none⟩))) fun (n1 : Int) =>
              ptrW b_0 fun (b7 b8 : Nat) =>
                ptrW (some ⟨b7, b8, none⟩) fun (b9 b10 : Nat) =>
                  ptrW (some ⟨b9, b10 + 2, none⟩) fun (b11 b12 : Nat) =>
                    evS (storeV E0 S 3 (.pointer (some ⟨b11, b12 + 0, none⟩)) (.int .i64 (wrapI .i64 (n1 + 1)))) fun (S1 : St) =>
                      evC E0 tI 52 [.pointer b_0, .agg #[.int .i64 0, .int .i64 from_1, .int .i64 to_2, .slice data_3.a data_3.len data_3.cap, .bool false]] S1
                        fun (n2 : Int) (S2 : St) => k (.int .i64 n2) S2)
theorem w26 (b_0 : Option Addr) (from_1 : Int) (to_2 : Int) (data_3 : Sl) {S : St} {k : Value → St → Prop} (h : c26 b_0 from_1 to_2 data_3 S k) : WC E0 26 [.pointer b_0, .int .i64 from_1, .int .i64 to_2, .slice data_3.a data_3.len data_3.cap] S k :=
  WC_den h26 rfl (by kernel_rfl) (by kernel_rfl : Try.f26.body = some (bodyOf Try.f26)) (by rw [show (denF E0 h26 Try.f26 (bodyOf Try.f26) [.pointer b_0, .int .i64 from_1, .int .i64 to_2, .slice data_3.a data_3.len data_3.cap] S k) = c26 b_0 from_1 to_2 data_3 S k by kernel_rfl]; exact h)

/-! 27 (*wagonway/bag.Bag).Deliver -/
noncomputable def h27 : Hn := .no
def c27 (b_0 : Option Addr) (n_1 : Int) (S : St) (k : Value → St → Prop) : Prop :=
  newW S (.cells [.pointer b_0] none false none) fun (b1 : Nat) (S1 : St) =>
    newW S1 (.cells [.int .i64 0, .int .i64 0, .int .i64 0, .slice none 0 0, .bool false] none false none) fun (b2 : Nat) (S2 : St) =>
      evV tP (loadV E0 S2 83 (.pointer (some ⟨b1, 0, none⟩))) fun (p1 : Option Addr) =>
        evC E0 (TT.tup [Ty.agg G66, Ty.sc (Sc.int .i64)]) 53 [.pointer p1, .int .i64 n_1, .func (Fn.func 54) #[] #[.pointer (some ⟨b1, 0, none⟩)]] S2
          fun (x1 : (Int × Int × Int × Sl × Bool) × Int) (S3 : St) =>
          evS (storeV E0 S3 67 (.pointer (some ⟨b2, 0, none⟩)) (sv G66 x1.1)) fun (S4 : St) =>
            evV (TT.one (Ty.agg G66)) (loadV E0 S4 67 (.pointer (some ⟨b2, 0, none⟩))) fun (x2 : Int × Int × Int × Sl × Bool) => k (.tuple #[sv G66 x2, .int .i64 x1.2]) S4
theorem w27 (b_0 : Option Addr) (n_1 : Int) {S : St} {k : Value → St → Prop} (h : c27 b_0 n_1 S k) : WC E0 27 [.pointer b_0, .int .i64 n_1] S k :=
  WC_den h27 rfl (by kernel_rfl) (by kernel_rfl : Try.f27.body = some (bodyOf Try.f27)) (by rw [show (denF E0 h27 Try.f27 (bodyOf Try.f27) [.pointer b_0, .int .i64 n_1] S k) = c27 b_0 n_1 S k by kernel_rfl]; exact h)

/-! 28 wagonway/wagonwaylaw08.kept -/
noncomputable def h28 : Hn := (.n .no (.n .no (.n .no (.n (.n .no (.n (.n .no .no (some ⟨[1, 2, 15], [(5, .sc (.int .i64)), (16, .sc (.int .i64))], false⟩)) .no none) none) .no none) none) none) none)
def c28 (x_0 : Int × Int × Int × Sl × Bool) (sent_1 : List UInt8) (S : St) (k : Value → St → Prop) : Prop :=
  newW S
    (.cells
      [.int .i64 x_0.1, .int .i64 x_0.2.1, .int .i64 x_0.2.2.1, .slice x_0.2.2.2.1.a x_0.2.2.2.1.len x_0.2.2.2.1.cap,
        .bool x_0.2.2.2.2]
      none false none)
    fun (b1 : Nat) (S1 : St) =>
    ptrW (some ⟨b1, 0, none⟩) fun (b2 b3 : Nat) =>
      evV tS (loadV E0 S1 42 (.pointer (some ⟨b2, b3 + 3, none⟩))) fun (s1 : Sl) =>
        ifW (!eqI (↑s1.len : Int) (↑(List.length sent_1) : Int)) (k (.bool false) S1)
          (ptrW (some ⟨b1, 0, none⟩) fun (b4 b5 : Nat) =>
            evV tS (loadV E0 S1 42 (.pointer (some ⟨b4, b5 + 3, none⟩))) fun (s2 : Sl) =>
              loopW
                (fun (k1 : Int × Int → St → Prop) (x1 : Int × Int) (S2 : St) =>
                  ifW (ltI x1.2 (↑s2.len : Int))
                    (ptrW (some ⟨b1, 0, none⟩) fun (b6 b7 : Nat) =>
                      evV tS (loadV E0 S2 42 (.pointer (some ⟨b6, b7 + 3, none⟩))) fun (s3 : Sl) =>
                        idxW s3.a s3.len x1.2 fun (b8 b9 : Nat) =>
                          evV tU8 (loadV E0 S2 5 (.pointer (some ⟨b8, b9 + Int.toNat x1.2 * 1, none⟩))) fun (n1 : Int) =>
                            evV tU8 (indexD E0 9 (.string { data := List.toArray sent_1 }) (.int .i64 x1.2)) fun (n2 : Int) =>
                              ifW (!eqI n1 n2) (k1 (wrapI .i64 (x1.1 + 1), wrapI .i64 (x1.2 + 1)) S2) (k1 (x1.1, wrapI .i64 (x1.2 + 1)) S2))
                    (ptrW (some ⟨b1, 0, none⟩) fun (b10 b11 : Nat) =>
                      evV tB (loadV E0 S2 4 (.pointer (some ⟨b10, b11 + 4, none⟩))) fun (t1 : Bool) =>
                        ifW t1
                          (ifW (eqI x1.1 1) (k (.bool true) S2)
                            (ptrW (some ⟨b1, 0, none⟩) fun (b12 b13 : Nat) =>
                              evV tB (loadV E0 S2 4 (.pointer (some ⟨b12, b13 + 4, none⟩))) fun (t2 : Bool) => ifW (!t2) (k (.bool (eqI x1.1 0)) S2) (k (.bool false) S2)))
                          (ptrW (some ⟨b1, 0, none⟩) fun (b14 b15 : Nat) =>
                            evV tB (loadV E0 S2 4 (.pointer (some ⟨b14, b15 + 4, none⟩))) fun (t3 : Bool) => ifW (!t3) (k (.bool (eqI x1.1 0)) S2) (k (.bool false) S2))))
                (0, 0) S1)
theorem w28 (x_0 : Int × Int × Int × Sl × Bool) (sent_1 : List UInt8) {S : St} {k : Value → St → Prop} (h : c28 x_0 sent_1 S k) : WC E0 28 [sv G66 x_0, .string ⟨sent_1.toArray⟩] S k :=
  WC_den h28 rfl (by kernel_rfl) (by kernel_rfl : Try.f28.body = some (bodyOf Try.f28)) (by rw [show (denF E0 h28 Try.f28 (bodyOf Try.f28) [sv G66 x_0, .string ⟨sent_1.toArray⟩] S k) = c28 x_0 sent_1 S k by kernel_rfl]; exact h)

/-! 29 (*wagonway/bag.Bag).Drop -/
noncomputable def h29 : Hn := .no
def c29 (b_0 : Option Addr) (n_1 : Int) (S : St) (k : Value → St → Prop) : Prop :=
  newW S (.cells [.pointer b_0] none false none) fun (b1 : Nat) (S1 : St) =>
    evV tP (loadV E0 S1 83 (.pointer (some ⟨b1, 0, none⟩))) fun (p1 : Option Addr) =>
      evC E0 (TT.tup [Ty.agg G66, Ty.sc (Sc.int .i64)]) 53 [.pointer p1, .int .i64 n_1, .func (Fn.func 55) #[] #[.pointer (some ⟨b1, 0, none⟩)]] S1
        fun (x1 : (Int × Int × Int × Sl × Bool) × Int) (S2 : St) =>
        newW S2 (.cells [.int .i64 0, .int .i64 0, .int .i64 0, .slice none 0 0, .bool false] none false none) fun (b2 : Nat) (S3 : St) =>
          evS (storeV E0 S3 67 (.pointer (some ⟨b2, 0, none⟩)) (sv G66 x1.1)) fun (S4 : St) => k (.int .i64 x1.2) S4
theorem w29 (b_0 : Option Addr) (n_1 : Int) {S : St} {k : Value → St → Prop} (h : c29 b_0 n_1 S k) : WC E0 29 [.pointer b_0, .int .i64 n_1] S k :=
  WC_den h29 rfl (by kernel_rfl) (by kernel_rfl : Try.f29.body = some (bodyOf Try.f29)) (by rw [show (denF E0 h29 Try.f29 (bodyOf Try.f29) [.pointer b_0, .int .i64 n_1] S k) = c29 b_0 n_1 S k by kernel_rfl]; exact h)

/-! 30 (*wagonway/bag.Bag).Double -/
noncomputable def h30 : Hn := .no
def c30 (b_0 : Option Addr) (n_1 : Int) (S : St) (k : Value → St → Prop) : Prop :=
  evC E0 (TT.tup [Ty.sc (Sc.int .i64), Ty.sc (Sc.int .i64)]) 56 [.pointer b_0, .int .i64 n_1] S fun (x1 : Int × Int) (S1 : St) =>
    ifW (!eqI x1.2 0) (k (.tuple #[.int .i64 0, .int .i64 x1.2]) S1)
      (ptrW b_0 fun (b1 b2 : Nat) =>
        ptrW (some ⟨b1, b2, none⟩) fun (b3 b4 : Nat) =>
          ptrW (some ⟨b3, b4 + 2, none⟩) fun (b5 b6 : Nat) =>
            evV tI (loadV E0 S1 3 (.pointer (some ⟨b5, b6 + 3, none⟩))) fun (n1 : Int) =>
              ptrW b_0 fun (b7 b8 : Nat) =>
                ptrW (some ⟨b7, b8, none⟩) fun (b9 b10 : Nat) =>
                  ptrW (some ⟨b9, b10 + 2, none⟩) fun (b11 b12 : Nat) =>
                    evS (storeV E0 S1 3 (.pointer (some ⟨b11, b12 + 3, none⟩)) (.int .i64 (wrapI .i64 (n1 + 1)))) fun (S2 : St) =>
                      ptrW b_0 fun (b13 b14 : Nat) =>
                        ptrW (some ⟨b13, b14, none⟩) fun (b15 b16 : Nat) =>
                          evV tS (loadV E0 S2 55 (.pointer (some ⟨b15, b16 + 0, none⟩))) fun (s1 : Sl) =>
                            idxW s1.a s1.len x1.1 fun (b17 b18 : Nat) =>
                              evV (TT.one (Ty.agg G66)) (loadV E0 S2 67 (.pointer (some ⟨b17, b18 + Int.toNat x1.1 * 5, none⟩))) fun (x2 : Int × Int × Int × Sl × Bool) =>
                                evC E0 tI 52 [.pointer b_0, sv G66 x2] S2 fun (n2 : Int) (S3 : St) => k (.tuple #[.int .i64 n2, .int .i64 0]) S3)
theorem w30 (b_0 : Option Addr) (n_1 : Int) {S : St} {k : Value → St → Prop} (h : c30 b_0 n_1 S k) : WC E0 30 [.pointer b_0, .int .i64 n_1] S k :=
  WC_den h30 rfl (by kernel_rfl) (by kernel_rfl : Try.f30.body = some (bodyOf Try.f30)) (by rw [show (denF E0 h30 Try.f30 (bodyOf Try.f30) [.pointer b_0, .int .i64 n_1] S k) = c30 b_0 n_1 S k by kernel_rfl]; exact h)

/-! 31 (*wagonway/bag.Bag).Spoil -/
noncomputable def h31 : Hn := .no
def c31 (b_0 : Option Addr) (n_1 : Int) (at_2 : Int) (with_3 : Int) (S : St) (k : Value → St → Prop) : Prop :=
  evC E0 (TT.tup [Ty.sc (Sc.int .i64), Ty.sc (Sc.int .i64)]) 56 [.pointer b_0, .int .i64 n_1] S fun (x1 : Int × Int) (S1 : St) =>
    ifW (!eqI x1.2 0) (k (.int .i64 x1.2) S1)
      (ptrW b_0 fun (b1 b2 : Nat) =>
        ptrW (some ⟨b1, b2, none⟩) fun (b3 b4 : Nat) =>
          evV tS (loadV E0 S1 55 (.pointer (some ⟨b3, b4 + 0, none⟩))) fun (s1 : Sl) =>
            idxW s1.a s1.len x1.1 fun (b5 b6 : Nat) =>
              ptrW (some ⟨b5, b6 + Int.toNat x1.1 * 5, none⟩) fun (b7 b8 : Nat) =>
                evV tB (loadV E0 S1 4 (.pointer (some ⟨b7, b8 + 4, none⟩))) fun (t1 : Bool) =>
                  ifW t1 (k (.int .i64 80) S1)
                    (ifW (ltI at_2 0) (k (.int .i64 80) S1)
                      (ptrW b_0 fun (b9 b10 : Nat) =>
                        ptrW (some ⟨b9, b10, none⟩) fun (b11 b12 : Nat) =>
                          evV tS (loadV E0 S1 55 (.pointer (some ⟨b11, b12 + 0, none⟩))) fun (s2 : Sl) =>
                            idxW s2.a s2.len x1.1 fun (b13 b14 : Nat) =>
                              ptrW (some ⟨b13, b14 + Int.toNat x1.1 * 5, none⟩) fun (b15 b16 : Nat) =>
                                evV tS (loadV E0 S1 42 (.pointer (some ⟨b15, b16 + 3, none⟩))) fun (s3 : Sl) =>
                                  ifW (leI (↑s3.len : Int) at_2) (k (.int .i64 80) S1)
                                    (ifW (eqI with_3 0) (k (.int .i64 80) S1)
                                      (ptrW b_0 fun (b17 b18 : Nat) =>
                                        ptrW (some ⟨b17, b18, none⟩) fun (b19 b20 : Nat) =>
                                          evV tS (loadV E0 S1 55 (.pointer (some ⟨b19, b20 + 0, none⟩))) fun (s4 : Sl) =>
                                            idxW s4.a s4.len x1.1 fun (b21 b22 : Nat) =>
                                              ptrW (some ⟨b21, b22 + Int.toNat x1.1 * 5, none⟩) fun (b23 b24 : Nat) =>
                                                evV tS (loadV E0 S1 42 (.pointer (some ⟨b23, b24 + 3, none⟩))) fun (s5 : Sl) =>
                                                  idxW s5.a s5.len at_2 fun (b25 b26 : Nat) =>
                                                    evV tU8 (loadV E0 S1 5 (.pointer (some ⟨b25, b26 + Int.toNat at_2 * 1, none⟩))) fun (n1 : Int) =>
                                                      idxW s5.a s5.len at_2 fun (b27 b28 : Nat) =>
                                                        evS (storeV E0 S1 5 (.pointer (some ⟨b27, b28 + Int.toNat at_2 * 1, none⟩)) (.int .u8 (xorI .u8 n1 with_3))) fun (S2 : St) =>
                                                          ptrW b_0 fun (b29 b30 : Nat) =>
                                                            ptrW (some ⟨b29, b30, none⟩) fun (b31 b32 : Nat) =>
                                                              evV tS (loadV E0 S2 55 (.pointer (some ⟨b31, b32 + 0, none⟩))) fun (s6 : Sl) =>
                                                                idxW s6.a s6.len x1.1 fun (b33 b34 : Nat) =>
                                                                  ptrW (some ⟨b33, b34 + Int.toNat x1.1 * 5, none⟩) fun (b35 b36 : Nat) =>
                                                                    evS (storeV E0 S2 4 (.pointer (some ⟨b35, b36 + 4, none⟩)) (.bool true)) fun (S3 : St) =>
                                                                      ptrW b_0 fun (b37 b38 : Nat) =>
                                                                        ptrW (some ⟨b37, b38, none⟩) fun (b39 b40 : Nat) =>
                                                                          ptrW (some ⟨b39, b40 + 2, none⟩) fun (b41 b42 : Nat) =>
                                                                            evV tI (loadV E0 S3 3 (.pointer (some ⟨b41, b42 + 4, none⟩))) fun (n2 : Int) =>
                                                                              ptrW b_0 fun (b43 b44 : Nat) =>
                                                                                ptrW (some ⟨b43, b44, none⟩) fun (b45 b46 : Nat) =>
                                                                                  ptrW (some ⟨b45, b46 + 2, none⟩) fun (b47 b48 : Nat) =>
                                                                                    evS (storeV E0 S3 3 (.pointer (some ⟨b47, b48 + 4, none⟩)) (.int .i64 (wrapI .i64 (n2 + 1))))
                                                                                      fun (S4 : St) => k (.int .i64 0) S4)))))
theorem w31 (b_0 : Option Addr) (n_1 : Int) (at_2 : Int) (with_3 : Int) {S : St} {k : Value → St → Prop} (h : c31 b_0 n_1 at_2 with_3 S k) : WC E0 31 [.pointer b_0, .int .i64 n_1, .int .i64 at_2, .int .u8 with_3] S k :=
  WC_den h31 rfl (by kernel_rfl) (by kernel_rfl : Try.f31.body = some (bodyOf Try.f31)) (by rw [show (denF E0 h31 Try.f31 (bodyOf Try.f31) [.pointer b_0, .int .i64 n_1, .int .i64 at_2, .int .u8 with_3] S k) = c31 b_0 n_1 at_2 with_3 S k by kernel_rfl]; exact h)

/-! 32 (*wagonway/bag.Bag).Count -/
noncomputable def h32 : Hn := .no
def c32 (b_0 : Option Addr) (S : St) (k : Value → St → Prop) : Prop :=
  newW S (.cells [.int .i64 0, .int .i64 0, .int .i64 0, .int .i64 0, .int .i64 0, .int .i64 0] none false none) fun (b1 : Nat) (S1 : St) =>
    eqW E0 S1 83 (.pointer b_0) (.pointer none) fun (t1 : Bool) =>
      ifW t1
        (evS
          (storeV E0 S1 57 (.pointer (some ⟨b1, 0, none⟩))
            (.agg #[.int .i64 0, .int .i64 0, .int .i64 0, .int .i64 0, .int .i64 0, .int .i64 0]))
          fun (S2 : St) => evV (TT.one (Ty.agg G56)) (loadV E0 S2 57 (.pointer (some ⟨b1, 0, none⟩))) fun (x1 : Int × Int × Int × Int × Int × Int) => k (sv G56 x1) S2)
        (ptrW b_0 fun (b2 b3 : Nat) =>
          ptrW (some ⟨b2, b3, none⟩) fun (b4 b5 : Nat) =>
            evV (TT.one (Ty.agg G56)) (loadV E0 S1 57 (.pointer (some ⟨b4, b5 + 2, none⟩))) fun (x2 : Int × Int × Int × Int × Int × Int) =>
              evS (storeV E0 S1 57 (.pointer (some ⟨b1, 0, none⟩)) (sv G56 x2)) fun (S3 : St) =>
                evV (TT.one (Ty.agg G56)) (loadV E0 S3 57 (.pointer (some ⟨b1, 0, none⟩))) fun (x3 : Int × Int × Int × Int × Int × Int) => k (sv G56 x3) S3)
theorem w32 (b_0 : Option Addr) {S : St} {k : Value → St → Prop} (h : c32 b_0 S k) : WC E0 32 [.pointer b_0] S k :=
  WC_den h32 rfl (by kernel_rfl) (by kernel_rfl : Try.f32.body = some (bodyOf Try.f32)) (by rw [show (denF E0 h32 Try.f32 (bodyOf Try.f32) [.pointer b_0] S k) = c32 b_0 S k by kernel_rfl]; exact h)

/-! 33 (*wagonway/bag.Bag).Len -/
noncomputable def h33 : Hn := .no
def c33 (b_0 : Option Addr) (S : St) (k : Value → St → Prop) : Prop :=
  eqW E0 S 83 (.pointer b_0) (.pointer none) fun (t1 : Bool) =>
    ifW t1 (k (.int .i64 0) S)
      (ptrW b_0 fun (b1 b2 : Nat) =>
        ptrW (some ⟨b1, b2, none⟩) fun (b3 b4 : Nat) => evV tS (loadV E0 S 55 (.pointer (some ⟨b3, b4 + 0, none⟩))) fun (s1 : Sl) => k (.int .i64 (↑s1.len : Int)) S)
theorem w33 (b_0 : Option Addr) {S : St} {k : Value → St → Prop} (h : c33 b_0 S k) : WC E0 33 [.pointer b_0] S k :=
  WC_den h33 rfl (by kernel_rfl) (by kernel_rfl : Try.f33.body = some (bodyOf Try.f33)) (by rw [show (denF E0 h33 Try.f33 (bodyOf Try.f33) [.pointer b_0] S k) = c33 b_0 S k by kernel_rfl]; exact h)

/-! 34 (*wagonway/bag.Bag).All -/
noncomputable def h34 : Hn := (.n .no (.n .no (.n (.n .no (.n (.n .no .no (some ⟨[], [(8, .sc (.int .i64)), (9, .agg [(.int .i64), (.int .i64), (.int .i64), .sl, .bool])], false⟩)) .no none) none) .no none) none) none)
def c34 (b_0 : Option Addr) (S : St) (k : Value → St → Prop) : Prop :=
  newW S (.cells [.slice none 0 0] none false none) fun (b1 : Nat) (S1 : St) =>
    evC E0 tA 57 [.pointer b_0] S1 fun (v1 : Value) (S2 : St) =>
      newW S2 DObj.deferred fun (b2 : Nat) (S3 : St) =>
        ∀ (b3 : Nat) (S4 : St) (k1 : LoopState → Option Code → DObj),
          b3 = S3.next →
            S4 = (St.alloc S3 (k1 LoopState.ready none)).2 →
              (LoopL fun (x1 : LoopState) (p1 : Option Code) => k1 x1 p1) →
                (RoundH E0 b3 [Ty.sc (Sc.int .i64), Ty.agg [Sc.int .i64, Sc.int .i64, Sc.int .i64, Sc.sl, Sc.bool]]
                    fun (x2 : Int × Int × Int × Int × Sl × Bool) (S5 : St) (k2 : Bool → St → Prop) =>
                    hasW S5 b3 (k1 LoopState.ready none)
                      (newW S5 (.cells [.int .i64 0, .int .i64 0, .int .i64 0, .slice none 0 0, .bool false] none false none) fun (b4 : Nat) (S6 : St) =>
                        evS (storeV E0 S6 67 (.pointer (some ⟨b4, 0, none⟩)) (sv G66 x2.2)) fun (S7 : St) =>
                          hasW S7 b3 (k1 LoopState.ready none)
                            (updW S7 b3 (k1 LoopState.busy none) fun (S8 : St) =>
                              evV tS (loadV E0 S8 55 (.pointer (some ⟨b1, 0, none⟩))) fun (s1 : Sl) =>
                                evV (TT.one (Ty.agg G66)) (loadV E0 S8 67 (.pointer (some ⟨b4, 0, none⟩))) fun (x3 : Int × Int × Int × Sl × Bool) =>
                                  evC E0 (TT.one (Ty.agg G66)) 58 [sv G66 x3] S8 fun (x4 : Int × Int × Int × Sl × Bool) (S9 : St) =>
                                    evV tS (loadV E0 S9 55 (.pointer (some ⟨b1, 0, none⟩))) fun (s2 : Sl) =>
                                      sameV (.slice s2.a s2.len s2.cap) (.slice s1.a s1.len s1.cap)
                                        (newW S9
                                          (.cells
                                            [.int .i64 x4.1, .int .i64 x4.2.1, .int .i64 x4.2.2.1,
                                              .slice x4.2.2.2.1.a x4.2.2.2.1.len x4.2.2.2.1.cap, .bool x4.2.2.2.2]
                                            none false none)
                                          fun (b5 : Nat) (S10 : St) =>
                                          evV tS (loadV E0 S10 55 (.pointer (some ⟨b1, 0, none⟩))) fun (s3 : Sl) =>
                                            sameV (.slice s3.a s3.len s3.cap) (.slice s1.a s1.len s1.cap)
                                              (evP tS (appendD E0 S10 55 55 (.slice s1.a s1.len s1.cap) (.slice (some ⟨b5, 0, none⟩) 1 1)) fun (s4 : Sl) (S11 : St) =>
                                                evS (storeV E0 S11 55 (.pointer (some ⟨b1, 0, none⟩)) (.slice s4.a s4.len s4.cap)) fun (S12 : St) =>
                                                  hasW S12 b3 (k1 LoopState.busy none) (updW S12 b3 (k1 LoopState.ready none) fun (S13 : St) => k2 true S13)))))) →
                  WG E0 v1 b3 S4 fun (S14 : St) =>
                    hasW S14 b3 (k1 LoopState.ready none)
                        (updW S14 b3 (k1 LoopState.exhausted none) fun (S15 : St) =>
                          evV tS (loadV E0 S15 55 (.pointer (some ⟨b1, 0, none⟩))) fun (s5 : Sl) =>
                            hasW S15 b2 DObj.deferred (updW S15 b2 DObj.dead fun (S16 : St) => k (.slice s5.a s5.len s5.cap) S16)) ∨
                      False
theorem w34 (b_0 : Option Addr) {S : St} {k : Value → St → Prop} (h : c34 b_0 S k) : WC E0 34 [.pointer b_0] S k :=
  WC_den h34 rfl (by kernel_rfl) (by kernel_rfl : Try.f34.body = some (bodyOf Try.f34)) (by rw [show (denF E0 h34 Try.f34 (bodyOf Try.f34) [.pointer b_0] S k) = c34 b_0 S k by kernel_rfl]; exact h)

/-! 35 wagonway/wagonwayref08.All -/
noncomputable def h35 : Hn := (.n .no (.n .no (.n (.n .no (.n (.n .no .no (some ⟨[0, 1], [(5, .sc (.int .i64))], false⟩)) .no none) none) .no none) none) none)
def c35 (a_0 : Sl) (b_1 : Sl) (S : St) (k : Value → St → Prop) : Prop :=
  ifW (!eqI (↑a_0.len : Int) (↑b_1.len : Int)) (k (.bool false) S)
    (loopW
      (fun (k1 : Int → St → Prop) (n1 : Int) (S1 : St) =>
        ifW (ltI n1 (↑a_0.len : Int))
          (idxW a_0.a a_0.len n1 fun (b1 b2 : Nat) =>
            evV (TT.one (Ty.agg G66)) (loadV E0 S1 67 (.pointer (some ⟨b1, b2 + Int.toNat n1 * 5, none⟩))) fun (x1 : Int × Int × Int × Sl × Bool) =>
              idxW b_1.a b_1.len n1 fun (b3 b4 : Nat) =>
                evV (TT.one (Ty.agg G66)) (loadV E0 S1 67 (.pointer (some ⟨b3, b4 + Int.toNat n1 * 5, none⟩))) fun (x2 : Int × Int × Int × Sl × Bool) =>
                  evC E0 tB 37 [sv G66 x1, sv G66 x2] S1 fun (t1 : Bool) (S2 : St) => ifW (!t1) (k (.bool false) S2) (k1 (wrapI .i64 (n1 + 1)) S2))
          (k (.bool true) S1))
      0 S)
theorem w35 (a_0 : Sl) (b_1 : Sl) {S : St} {k : Value → St → Prop} (h : c35 a_0 b_1 S k) : WC E0 35 [.slice a_0.a a_0.len a_0.cap, .slice b_1.a b_1.len b_1.cap] S k :=
  WC_den h35 rfl (by kernel_rfl) (by kernel_rfl : Try.f35.body = some (bodyOf Try.f35)) (by rw [show (denF E0 h35 Try.f35 (bodyOf Try.f35) [.slice a_0.a a_0.len a_0.cap, .slice b_1.a b_1.len b_1.cap] S k) = c35 a_0 b_1 S k by kernel_rfl]; exact h)

/-! 36 (*wagonway/bag.Bag).Find -/
noncomputable def h36 : Hn := .no
def c36 (b_0 : Option Addr) (n_1 : Int) (S : St) (k : Value → St → Prop) : Prop :=
  newW S (.cells [.int .i64 0, .int .i64 0, .int .i64 0, .slice none 0 0, .bool false] none false none) fun (b1 : Nat) (S1 : St) =>
    evC E0 (TT.tup [Ty.sc (Sc.int .i64), Ty.sc (Sc.int .i64)]) 56 [.pointer b_0, .int .i64 n_1] S1 fun (x1 : Int × Int) (S2 : St) =>
      ifW (!eqI x1.2 0)
        (evS (storeV E0 S2 67 (.pointer (some ⟨b1, 0, none⟩)) (.agg #[.int .i64 0, .int .i64 0, .int .i64 0, .slice none 0 0, .bool false]))
          fun (S3 : St) => evV (TT.one (Ty.agg G66)) (loadV E0 S3 67 (.pointer (some ⟨b1, 0, none⟩))) fun (x2 : Int × Int × Int × Sl × Bool) => k (.tuple #[sv G66 x2, .bool false]) S3)
        (ptrW b_0 fun (b2 b3 : Nat) =>
          ptrW (some ⟨b2, b3, none⟩) fun (b4 b5 : Nat) =>
            evV tS (loadV E0 S2 55 (.pointer (some ⟨b4, b5 + 0, none⟩))) fun (s1 : Sl) =>
              idxW s1.a s1.len x1.1 fun (b6 b7 : Nat) =>
                evV (TT.one (Ty.agg G66)) (loadV E0 S2 67 (.pointer (some ⟨b6, b7 + Int.toNat x1.1 * 5, none⟩))) fun (x3 : Int × Int × Int × Sl × Bool) =>
                  evC E0 (TT.one (Ty.agg G66)) 58 [sv G66 x3] S2 fun (x4 : Int × Int × Int × Sl × Bool) (S4 : St) =>
                    evS (storeV E0 S4 67 (.pointer (some ⟨b1, 0, none⟩)) (sv G66 x4)) fun (S5 : St) =>
                      evV (TT.one (Ty.agg G66)) (loadV E0 S5 67 (.pointer (some ⟨b1, 0, none⟩))) fun (x5 : Int × Int × Int × Sl × Bool) => k (.tuple #[sv G66 x5, .bool true]) S5)
theorem w36 (b_0 : Option Addr) (n_1 : Int) {S : St} {k : Value → St → Prop} (h : c36 b_0 n_1 S k) : WC E0 36 [.pointer b_0, .int .i64 n_1] S k :=
  WC_den h36 rfl (by kernel_rfl) (by kernel_rfl : Try.f36.body = some (bodyOf Try.f36)) (by rw [show (denF E0 h36 Try.f36 (bodyOf Try.f36) [.pointer b_0, .int .i64 n_1] S k) = c36 b_0 n_1 S k by kernel_rfl]; exact h)

/-! 37 wagonway/wagonwayref08.Same -/
noncomputable def h37 : Hn := .no
def c37 (a_0 : Int × Int × Int × Sl × Bool) (b_1 : Int × Int × Int × Sl × Bool) (S : St) (k : Value → St → Prop) : Prop :=
  newW S
    (.cells
      [.int .i64 a_0.1, .int .i64 a_0.2.1, .int .i64 a_0.2.2.1, .slice a_0.2.2.2.1.a a_0.2.2.2.1.len a_0.2.2.2.1.cap,
        .bool a_0.2.2.2.2]
      none false none)
    fun (b1 : Nat) (S1 : St) =>
    newW S1
      (.cells
        [.int .i64 b_1.1, .int .i64 b_1.2.1, .int .i64 b_1.2.2.1, .slice b_1.2.2.2.1.a b_1.2.2.2.1.len b_1.2.2.2.1.cap,
          .bool b_1.2.2.2.2]
        none false none)
      fun (b2 : Nat) (S2 : St) =>
      ptrW (some ⟨b1, 0, none⟩) fun (b3 b4 : Nat) =>
        evV tI (loadV E0 S2 3 (.pointer (some ⟨b3, b4 + 0, none⟩))) fun (n1 : Int) =>
          ptrW (some ⟨b2, 0, none⟩) fun (b5 b6 : Nat) =>
            evV tI (loadV E0 S2 3 (.pointer (some ⟨b5, b6 + 0, none⟩))) fun (n2 : Int) =>
              ifW (eqI n1 n2)
                (ptrW (some ⟨b1, 0, none⟩) fun (b7 b8 : Nat) =>
                  evV tI (loadV E0 S2 3 (.pointer (some ⟨b7, b8 + 1, none⟩))) fun (n3 : Int) =>
                    ptrW (some ⟨b2, 0, none⟩) fun (b9 b10 : Nat) =>
                      evV tI (loadV E0 S2 3 (.pointer (some ⟨b9, b10 + 1, none⟩))) fun (n4 : Int) =>
                        ifW (eqI n3 n4)
                          (ptrW (some ⟨b1, 0, none⟩) fun (b11 b12 : Nat) =>
                            evV tI (loadV E0 S2 3 (.pointer (some ⟨b11, b12 + 2, none⟩))) fun (n5 : Int) =>
                              ptrW (some ⟨b2, 0, none⟩) fun (b13 b14 : Nat) =>
                                evV tI (loadV E0 S2 3 (.pointer (some ⟨b13, b14 + 2, none⟩))) fun (n6 : Int) =>
                                  ifW (eqI n5 n6)
                                    (ptrW (some ⟨b1, 0, none⟩) fun (b15 b16 : Nat) =>
                                      evV tS (loadV E0 S2 42 (.pointer (some ⟨b15, b16 + 3, none⟩))) fun (s1 : Sl) =>
                                        evP tT (convertD E0 S2 42 9 (.slice s1.a s1.len s1.cap)) fun (l1 : List UInt8) (S3 : St) =>
                                          ptrW (some ⟨b2, 0, none⟩) fun (b17 b18 : Nat) =>
                                            evV tS (loadV E0 S3 42 (.pointer (some ⟨b17, b18 + 3, none⟩))) fun (s2 : Sl) =>
                                              evP tT (convertD E0 S3 42 9 (.slice s2.a s2.len s2.cap)) fun (l2 : List UInt8) (S4 : St) =>
                                                ifW (l1 == l2)
                                                  (ptrW (some ⟨b1, 0, none⟩) fun (b19 b20 : Nat) =>
                                                    evV tB (loadV E0 S4 4 (.pointer (some ⟨b19, b20 + 4, none⟩))) fun (t1 : Bool) =>
                                                      ptrW (some ⟨b2, 0, none⟩) fun (b21 b22 : Nat) =>
                                                        evV tB (loadV E0 S4 4 (.pointer (some ⟨b21, b22 + 4, none⟩))) fun (t2 : Bool) =>
                                                          eqW E0 S4 4 (.bool t1) (.bool t2) fun (t3 : Bool) => k (.bool t3) S4)
                                                  (k (.bool false) S4))
                                    (k (.bool false) S2))
                          (k (.bool false) S2))
                (k (.bool false) S2)
theorem w37 (a_0 : Int × Int × Int × Sl × Bool) (b_1 : Int × Int × Int × Sl × Bool) {S : St} {k : Value → St → Prop} (h : c37 a_0 b_1 S k) : WC E0 37 [sv G66 a_0, sv G66 b_1] S k :=
  WC_den h37 rfl (by kernel_rfl) (by kernel_rfl : Try.f37.body = some (bodyOf Try.f37)) (by rw [show (denF E0 h37 Try.f37 (bodyOf Try.f37) [sv G66 a_0, sv G66 b_1] S k) = c37 a_0 b_1 S k by kernel_rfl]; exact h)

/-! 38 wagonway/wagonwaylaw08.do -/
noncomputable def h38 : Hn := (.n .no (.n .no (.n (.n .no (.n (.n .no (.n (.n (.n .no (.n (.n .no .no (some ⟨[0, 1, 5, 7], [(8, .sc (.int .i64))], false⟩)) .no none) none) (.n .no (.n (.n .no .no (some ⟨[7, 52], [(53, .sc (.int .i64))], false⟩)) .no none) none) none) .no none) none) .no none) none) .no none) none) none)
def c38 (b_0 : Option Addr) (r_1 : Option Addr) (x_2 : Int × Int × Int × Sl × Int × Int) (S : St) (k : Value → St → Prop) : Prop :=
  newW S
    (.cells
      [.int .i64 x_2.1, .int .i64 x_2.2.1, .int .i64 x_2.2.2.1, .slice x_2.2.2.2.1.a x_2.2.2.2.1.len x_2.2.2.2.1.cap,
        .int .u8 x_2.2.2.2.2.1, .int .i64 x_2.2.2.2.2.2]
      none false none)
    fun (b1 : Nat) (S1 : St) =>
    newW S1 (.cells [] none false none) fun (b2 : Nat) (S2 : St) =>
      ptrW (some ⟨b1, 0, none⟩) fun (b3 b4 : Nat) =>
        evV tS (loadV E0 S2 42 (.pointer (some ⟨b3, b4 + 3, none⟩))) fun (s1 : Sl) =>
          evP tS (appendD E0 S2 42 42 (.slice (some ⟨b2, 0, none⟩) 0 0) (.slice s1.a s1.len s1.cap)) fun (s2 : Sl) (S3 : St) =>
            ptrW (some ⟨b1, 0, none⟩) fun (b5 b6 : Nat) =>
              evV tI (loadV E0 S3 3 (.pointer (some ⟨b5, b6 + 0, none⟩))) fun (n1 : Int) =>
                ifW (eqI n1 0)
                  (loopW
                    (fun (k1 : Int → St → Prop) (n2 : Int) (S4 : St) =>
                      ptrW (some ⟨b1, 0, none⟩) fun (b7 b8 : Nat) =>
                        evV tI (loadV E0 S4 3 (.pointer (some ⟨b7, b8 + 5, none⟩))) fun (n3 : Int) =>
                          ifW (ltI n2 (bif true then bif decide (1 < n3) then n3 else 1 else bif decide (n3 < 1) then n3 else 1))
                            (ptrW (some ⟨b1, 0, none⟩) fun (b9 b10 : Nat) =>
                              evV tI (loadV E0 S4 3 (.pointer (some ⟨b9, b10 + 1, none⟩))) fun (n4 : Int) =>
                                ptrW (some ⟨b1, 0, none⟩) fun (b11 b12 : Nat) =>
                                  evV tI (loadV E0 S4 3 (.pointer (some ⟨b11, b12 + 2, none⟩))) fun (n5 : Int) =>
                                    evC E0 tI 26 [.pointer b_0, .int .i64 n4, .int .i64 n5, .slice s2.a s2.len s2.cap] S4 fun (n6 : Int) (S5 : St) =>
                                      ptrW (some ⟨b1, 0, none⟩) fun (b13 b14 : Nat) =>
                                        evV tI (loadV E0 S5 3 (.pointer (some ⟨b13, b14 + 1, none⟩))) fun (n7 : Int) =>
                                          evV tI (loadV E0 S4 3 (.pointer (some ⟨b13, b14 + 1, none⟩))) fun (n8 : Int) =>
                                            sameV (.int .i64 n8) (.int .i64 n7)
                                              (ptrW (some ⟨b1, 0, none⟩) fun (b15 b16 : Nat) =>
                                                evV tI (loadV E0 S5 3 (.pointer (some ⟨b15, b16 + 2, none⟩))) fun (n9 : Int) =>
                                                  evV tI (loadV E0 S4 3 (.pointer (some ⟨b15, b16 + 2, none⟩))) fun (n10 : Int) =>
                                                    sameV (.int .i64 n10) (.int .i64 n9)
                                                      (ptrW (some ⟨b1, 0, none⟩) fun (b17 b18 : Nat) =>
                                                        evV tS (loadV E0 S5 42 (.pointer (some ⟨b17, b18 + 3, none⟩))) fun (s3 : Sl) =>
                                                          evV tS (loadV E0 S4 42 (.pointer (some ⟨b17, b18 + 3, none⟩))) fun (s4 : Sl) =>
                                                            sameV (.slice s4.a s4.len s4.cap) (.slice s3.a s3.len s3.cap)
                                                              (evC E0 tI 59 [.pointer r_1, .int .i64 n7, .int .i64 n9, .slice s3.a s3.len s3.cap] S5 fun (n11 : Int) (S6 : St) =>
                                                                ifW (!eqI n6 n11) (k (.bool false) S6) (k1 (wrapI .i64 (n2 + 1)) S6)))))
                            (loopW
                              (fun (k2 : Int → St → Prop) (n12 : Int) (S7 : St) =>
                                ifW (ltI n12 (↑s2.len : Int))
                                  (idxW s2.a s2.len n12 fun (b19 b20 : Nat) =>
                                    evV tU8 (loadV E0 S7 5 (.pointer (some ⟨b19, b20 + Int.toNat n12 * 1, none⟩))) fun (n13 : Int) =>
                                      idxW s2.a s2.len n12 fun (b21 b22 : Nat) =>
                                        evS (storeV E0 S7 5 (.pointer (some ⟨b21, b22 + Int.toNat n12 * 1, none⟩)) (.int .u8 (wrapI .u8 (n13 + 1)))) fun (S8 : St) =>
                                          k2 (wrapI .i64 (n12 + 1)) S8)
                                  (k (.bool true) S7))
                              0 S4))
                    0 S3)
                  (ifW (eqI n1 1)
                    (ptrW (some ⟨b1, 0, none⟩) fun (b23 b24 : Nat) =>
                      evV tI (loadV E0 S3 3 (.pointer (some ⟨b23, b24 + 1, none⟩))) fun (n14 : Int) =>
                        evC E0 (TT.tup [Ty.agg G66, Ty.sc (Sc.int .i64)]) 27 [.pointer b_0, .int .i64 n14] S3 fun (x1 : (Int × Int × Int × Sl × Bool) × Int) (S9 : St) =>
                          newW S9 (.cells [.int .i64 0, .int .i64 0, .int .i64 0, .slice none 0 0, .bool false] none false none) fun (b25 : Nat) (S10 : St) =>
                            evS (storeV E0 S10 67 (.pointer (some ⟨b25, 0, none⟩)) (sv G66 x1.1)) fun (S11 : St) =>
                              ptrW (some ⟨b1, 0, none⟩) fun (b26 b27 : Nat) =>
                                evV tI (loadV E0 S11 3 (.pointer (some ⟨b26, b27 + 1, none⟩))) fun (n15 : Int) =>
                                  evC E0 (TT.tup [Ty.agg G66, Ty.sc (Sc.int .i64)]) 60 [.pointer r_1, .int .i64 n15] S11 fun (x2 : (Int × Int × Int × Sl × Bool) × Int) (S12 : St) =>
                                    newW S12 (.cells [.int .i64 0, .int .i64 0, .int .i64 0, .slice none 0 0, .bool false] none false none) fun (b28 : Nat) (S13 : St) =>
                                      evS (storeV E0 S13 67 (.pointer (some ⟨b28, 0, none⟩)) (sv G66 x2.1)) fun (S14 : St) =>
                                        evV (TT.one (Ty.agg G66)) (loadV E0 S14 67 (.pointer (some ⟨b25, 0, none⟩))) fun (x3 : Int × Int × Int × Sl × Bool) =>
                                          evV (TT.one (Ty.agg G66)) (loadV E0 S14 67 (.pointer (some ⟨b28, 0, none⟩))) fun (x4 : Int × Int × Int × Sl × Bool) =>
                                            evC E0 tB 37 [sv G66 x3, sv G66 x4] S14 fun (t1 : Bool) (S15 : St) => ifW t1 (k (.bool (eqI x1.2 x2.2)) S15) (k (.bool false) S15))
                    (ifW (eqI n1 2)
                      (ptrW (some ⟨b1, 0, none⟩) fun (b29 b30 : Nat) =>
                        evV tI (loadV E0 S3 3 (.pointer (some ⟨b29, b30 + 1, none⟩))) fun (n16 : Int) =>
                          evC E0 tI 29 [.pointer b_0, .int .i64 n16] S3 fun (n17 : Int) (S16 : St) =>
                            ptrW (some ⟨b1, 0, none⟩) fun (b31 b32 : Nat) =>
                              evV tI (loadV E0 S16 3 (.pointer (some ⟨b31, b32 + 1, none⟩))) fun (n18 : Int) =>
                                evC E0 tI 61 [.pointer r_1, .int .i64 n18] S16 fun (n19 : Int) (S17 : St) => k (.bool (eqI n17 n19)) S17)
                      (ifW (eqI n1 3)
                        (ptrW (some ⟨b1, 0, none⟩) fun (b33 b34 : Nat) =>
                          evV tI (loadV E0 S3 3 (.pointer (some ⟨b33, b34 + 1, none⟩))) fun (n20 : Int) =>
                            evC E0 (TT.tup [Ty.sc (Sc.int .i64), Ty.sc (Sc.int .i64)]) 30 [.pointer b_0, .int .i64 n20] S3 fun (x5 : Int × Int) (S18 : St) =>
                              ptrW (some ⟨b1, 0, none⟩) fun (b35 b36 : Nat) =>
                                evV tI (loadV E0 S18 3 (.pointer (some ⟨b35, b36 + 1, none⟩))) fun (n21 : Int) =>
                                  evC E0 (TT.tup [Ty.sc (Sc.int .i64), Ty.sc (Sc.int .i64)]) 62 [.pointer r_1, .int .i64 n21] S18 fun (x6 : Int × Int) (S19 : St) =>
                                    ifW (eqI x5.1 x6.1) (k (.bool (eqI x5.2 x6.2)) S19) (k (.bool false) S19))
                        (ifW (eqI n1 4)
                          (ptrW (some ⟨b1, 0, none⟩) fun (b37 b38 : Nat) =>
                            evV tI (loadV E0 S3 3 (.pointer (some ⟨b37, b38 + 1, none⟩))) fun (n22 : Int) =>
                              ptrW (some ⟨b1, 0, none⟩) fun (b39 b40 : Nat) =>
                                evV tI (loadV E0 S3 3 (.pointer (some ⟨b39, b40 + 2, none⟩))) fun (n23 : Int) =>
                                  ptrW (some ⟨b1, 0, none⟩) fun (b41 b42 : Nat) =>
                                    evV tU8 (loadV E0 S3 5 (.pointer (some ⟨b41, b42 + 4, none⟩))) fun (n24 : Int) =>
                                      evC E0 tI 31 [.pointer b_0, .int .i64 n22, .int .i64 n23, .int .u8 n24] S3 fun (n25 : Int) (S20 : St) =>
                                        ptrW (some ⟨b1, 0, none⟩) fun (b43 b44 : Nat) =>
                                          evV tI (loadV E0 S20 3 (.pointer (some ⟨b43, b44 + 1, none⟩))) fun (n26 : Int) =>
                                            ptrW (some ⟨b1, 0, none⟩) fun (b45 b46 : Nat) =>
                                              evV tI (loadV E0 S20 3 (.pointer (some ⟨b45, b46 + 2, none⟩))) fun (n27 : Int) =>
                                                ptrW (some ⟨b1, 0, none⟩) fun (b47 b48 : Nat) =>
                                                  evV tU8 (loadV E0 S20 5 (.pointer (some ⟨b47, b48 + 4, none⟩))) fun (n28 : Int) =>
                                                    evC E0 tI 63 [.pointer r_1, .int .i64 n26, .int .i64 n27, .int .u8 n28] S20 fun (n29 : Int) (S21 : St) =>
                                                      k (.bool (eqI n25 n29)) S21)
                          (k (.bool true) S3)))))
theorem w38 (b_0 : Option Addr) (r_1 : Option Addr) (x_2 : Int × Int × Int × Sl × Int × Int) {S : St} {k : Value → St → Prop} (h : c38 b_0 r_1 x_2 S k) : WC E0 38 [.pointer b_0, .pointer r_1, sv G61 x_2] S k :=
  WC_den h38 rfl (by kernel_rfl) (by kernel_rfl : Try.f38.body = some (bodyOf Try.f38)) (by rw [show (denF E0 h38 Try.f38 (bodyOf Try.f38) [.pointer b_0, .pointer r_1, sv G61 x_2] S k) = c38 b_0 r_1 x_2 S k by kernel_rfl]; exact h)

/-! 39 (*wagonway/wagonwayref08.Bag).Find -/
noncomputable def h39 : Hn := (.n .no (.n (.n .no (.n (.n .no .no (some ⟨[0, 1], [(5, .sc (.int .i64))], false⟩)) .no none) none) .no none) none)
def c39 (b_0 : Option Addr) (n_1 : Int) (S : St) (k : Value → St → Prop) : Prop :=
  loopW
    (fun (k1 : Int → St → Prop) (n1 : Int) (S1 : St) =>
      ptrW b_0 fun (b1 b2 : Nat) =>
        ptrW (some ⟨b1, b2, none⟩) fun (b3 b4 : Nat) =>
          evV tS (loadV E0 S1 55 (.pointer (some ⟨b3, b4 + 0, none⟩))) fun (s1 : Sl) =>
            ifW (ltI n1 (↑s1.len : Int))
              (ptrW b_0 fun (b5 b6 : Nat) =>
                ptrW (some ⟨b5, b6, none⟩) fun (b7 b8 : Nat) =>
                  evV tS (loadV E0 S1 55 (.pointer (some ⟨b7, b8 + 0, none⟩))) fun (s2 : Sl) =>
                    idxW s2.a s2.len n1 fun (b9 b10 : Nat) =>
                      ptrW (some ⟨b9, b10 + Int.toNat n1 * 5, none⟩) fun (b11 b12 : Nat) =>
                        evV tI (loadV E0 S1 3 (.pointer (some ⟨b11, b12 + 0, none⟩))) fun (n2 : Int) => ifW (eqI n2 n_1) (k (.int .i64 n1) S1) (k1 (wrapI .i64 (n1 + 1)) S1))
              (k (.int .i64 (-1)) S1))
    0 S
theorem w39 (b_0 : Option Addr) (n_1 : Int) {S : St} {k : Value → St → Prop} (h : c39 b_0 n_1 S k) : WC E0 39 [.pointer b_0, .int .i64 n_1] S k :=
  WC_den h39 rfl (by kernel_rfl) (by kernel_rfl : Try.f39.body = some (bodyOf Try.f39)) (by rw [show (denF E0 h39 Try.f39 (bodyOf Try.f39) [.pointer b_0, .int .i64 n_1] S k) = c39 b_0 n_1 S k by kernel_rfl]; exact h)

/-! 52 (*wagonway/bag.Bag).put -/
noncomputable def h52 : Hn := .no
def c52 (b_0 : Option Addr) (x_1 : Int × Int × Int × Sl × Bool) (S : St) (k : Value → St → Prop) : Prop :=
  newW S
    (.cells
      [.int .i64 x_1.1, .int .i64 x_1.2.1, .int .i64 x_1.2.2.1, .slice x_1.2.2.2.1.a x_1.2.2.2.1.len x_1.2.2.2.1.cap,
        .bool x_1.2.2.2.2]
      none false none)
    fun (b1 : Nat) (S1 : St) =>
    ptrW b_0 fun (b2 b3 : Nat) =>
      ptrW (some ⟨b2, b3, none⟩) fun (b4 b5 : Nat) =>
        evV tS (loadV E0 S1 55 (.pointer (some ⟨b4, b5 + 0, none⟩))) fun (s1 : Sl) =>
          ifW (leI 256 (↑s1.len : Int))
            (ptrW b_0 fun (b6 b7 : Nat) =>
              ptrW (some ⟨b6, b7, none⟩) fun (b8 b9 : Nat) =>
                ptrW (some ⟨b8, b9 + 2, none⟩) fun (b10 b11 : Nat) =>
                  evV tI (loadV E0 S1 3 (.pointer (some ⟨b10, b11 + 5, none⟩))) fun (n1 : Int) =>
                    ptrW b_0 fun (b12 b13 : Nat) =>
                      ptrW (some ⟨b12, b13, none⟩) fun (b14 b15 : Nat) =>
                        ptrW (some ⟨b14, b15 + 2, none⟩) fun (b16 b17 : Nat) =>
                          evS (storeV E0 S1 3 (.pointer (some ⟨b16, b17 + 5, none⟩)) (.int .i64 (wrapI .i64 (n1 + 1)))) fun (S2 : St) => k (.int .i64 0) S2)
            (ptrW b_0 fun (b18 b19 : Nat) =>
              ptrW (some ⟨b18, b19, none⟩) fun (b20 b21 : Nat) =>
                evV tI (loadV E0 S1 3 (.pointer (some ⟨b20, b21 + 1, none⟩))) fun (n2 : Int) =>
                  ptrW b_0 fun (b22 b23 : Nat) =>
                    ptrW (some ⟨b22, b23, none⟩) fun (b24 b25 : Nat) =>
                      evS (storeV E0 S1 3 (.pointer (some ⟨b24, b25 + 1, none⟩)) (.int .i64 (wrapI .i64 (n2 + 1)))) fun (S3 : St) =>
                        evV (TT.one (Ty.agg G66)) (loadV E0 S3 67 (.pointer (some ⟨b1, 0, none⟩))) fun (x1 : Int × Int × Int × Sl × Bool) =>
                          evC E0 (TT.one (Ty.agg G66)) 58 [sv G66 x1] S3 fun (x2 : Int × Int × Int × Sl × Bool) (S4 : St) =>
                            evS (storeV E0 S4 67 (.pointer (some ⟨b1, 0, none⟩)) (sv G66 x2)) fun (S5 : St) =>
                              ptrW b_0 fun (b26 b27 : Nat) =>
                                ptrW (some ⟨b26, b27, none⟩) fun (b28 b29 : Nat) =>
                                  evV tI (loadV E0 S5 3 (.pointer (some ⟨b28, b29 + 1, none⟩))) fun (n3 : Int) =>
                                    ptrW (some ⟨b1, 0, none⟩) fun (b30 b31 : Nat) =>
                                      evS (storeV E0 S5 3 (.pointer (some ⟨b30, b31 + 0, none⟩)) (.int .i64 n3)) fun (S6 : St) =>
                                        ptrW b_0 fun (b32 b33 : Nat) =>
                                          ptrW (some ⟨b32, b33, none⟩) fun (b34 b35 : Nat) =>
                                            evV tS (loadV E0 S6 55 (.pointer (some ⟨b34, b35 + 0, none⟩))) fun (s2 : Sl) =>
                                              evV (TT.one (Ty.agg G66)) (loadV E0 S6 67 (.pointer (some ⟨b1, 0, none⟩))) fun (x3 : Int × Int × Int × Sl × Bool) =>
                                                newW S6
                                                  (.cells
                                                    [.int .i64 x3.1, .int .i64 x3.2.1, .int .i64 x3.2.2.1,
                                                      .slice x3.2.2.2.1.a x3.2.2.2.1.len x3.2.2.2.1.cap, .bool x3.2.2.2.2]
                                                    none false none)
                                                  fun (b36 : Nat) (S7 : St) =>
                                                  evV tS (loadV E0 S7 55 (.pointer (some ⟨b34, b35 + 0, none⟩))) fun (s3 : Sl) =>
                                                    sameV (.slice s3.a s3.len s3.cap) (.slice s2.a s2.len s2.cap)
                                                      (evP tS (appendD E0 S7 55 55 (.slice s2.a s2.len s2.cap) (.slice (some ⟨b36, 0, none⟩) 1 1)) fun (s4 : Sl) (S8 : St) =>
                                                        ptrW b_0 fun (b37 b38 : Nat) =>
                                                          ptrW (some ⟨b37, b38, none⟩) fun (b39 b40 : Nat) =>
                                                            evS (storeV E0 S8 55 (.pointer (some ⟨b39, b40 + 0, none⟩)) (.slice s4.a s4.len s4.cap)) fun (S9 : St) =>
                                                              ptrW (some ⟨b1, 0, none⟩) fun (b41 b42 : Nat) =>
                                                                evV tI (loadV E0 S9 3 (.pointer (some ⟨b41, b42 + 0, none⟩))) fun (n4 : Int) => k (.int .i64 n4) S9))
theorem w52 (b_0 : Option Addr) (x_1 : Int × Int × Int × Sl × Bool) {S : St} {k : Value → St → Prop} (h : c52 b_0 x_1 S k) : WC E0 52 [.pointer b_0, sv G66 x_1] S k :=
  WC_den h52 rfl (by kernel_rfl) (by kernel_rfl : Try.f52.body = some (bodyOf Try.f52)) (by rw [show (denF E0 h52 Try.f52 (bodyOf Try.f52) [.pointer b_0, sv G66 x_1] S k) = c52 b_0 x_1 S k by kernel_rfl]; exact h)

/-! 53 (*wagonway/bag.Bag).take -/
noncomputable def h53 : Hn := .no
def c53 (b_0 : Option Addr) (n_1 : Int) (count_2 : Value) (S : St) (k : Value → St → Prop) : Prop :=
  newW S (.cells [.int .i64 0, .int .i64 0, .int .i64 0, .slice none 0 0, .bool false] none false none) fun (b1 : Nat) (S1 : St) =>
    evC E0 (TT.tup [Ty.sc (Sc.int .i64), Ty.sc (Sc.int .i64)]) 56 [.pointer b_0, .int .i64 n_1] S1 fun (x1 : Int × Int) (S2 : St) =>
      ifW (!eqI x1.2 0)
        (evS (storeV E0 S2 67 (.pointer (some ⟨b1, 0, none⟩)) (.agg #[.int .i64 0, .int .i64 0, .int .i64 0, .slice none 0 0, .bool false]))
          fun (S3 : St) =>
          evV (TT.one (Ty.agg G66)) (loadV E0 S3 67 (.pointer (some ⟨b1, 0, none⟩))) fun (x2 : Int × Int × Int × Sl × Bool) => k (.tuple #[sv G66 x2, .int .i64 x1.2]) S3)
        (ptrW b_0 fun (b2 b3 : Nat) =>
          ptrW (some ⟨b2, b3, none⟩) fun (b4 b5 : Nat) =>
            evV tS (loadV E0 S2 55 (.pointer (some ⟨b4, b5 + 0, none⟩))) fun (s1 : Sl) =>
              idxW s1.a s1.len x1.1 fun (b6 b7 : Nat) =>
                evV (TT.one (Ty.agg G66)) (loadV E0 S2 67 (.pointer (some ⟨b6, b7 + Int.toNat x1.1 * 5, none⟩))) fun (x3 : Int × Int × Int × Sl × Bool) =>
                  newW S2 (.cells [.int .i64 0, .int .i64 0, .int .i64 0, .slice none 0 0, .bool false] none false none) fun (b8 : Nat) (S4 : St) =>
                    evS (storeV E0 S4 67 (.pointer (some ⟨b8, 0, none⟩)) (sv G66 x3)) fun (S5 : St) =>
                      ptrW b_0 fun (b9 b10 : Nat) =>
                        ptrW (some ⟨b9, b10, none⟩) fun (b11 b12 : Nat) =>
                          evV tS (loadV E0 S5 55 (.pointer (some ⟨b11, b12 + 0, none⟩))) fun (s2 : Sl) =>
                            evC E0 tS 68 [.slice s2.a s2.len s2.cap, .int .i64 x1.1, .int .i64 (wrapI .i64 (x1.1 + 1))] S5 fun (s3 : Sl) (S6 : St) =>
                              ptrW b_0 fun (b13 b14 : Nat) =>
                                ptrW (some ⟨b13, b14, none⟩) fun (b15 b16 : Nat) =>
                                  evS (storeV E0 S6 55 (.pointer (some ⟨b15, b16 + 0, none⟩)) (.slice s3.a s3.len s3.cap)) fun (S7 : St) =>
                                    evY E0 (TT.tup []) count_2 [] S7 fun (x4 : PUnit) (S8 : St) =>
                                      evV (TT.one (Ty.agg G66)) (loadV E0 S8 67 (.pointer (some ⟨b8, 0, none⟩))) fun (x5 : Int × Int × Int × Sl × Bool) =>
                                        evS (storeV E0 S8 67 (.pointer (some ⟨b1, 0, none⟩)) (sv G66 x5)) fun (S9 : St) =>
                                          evV (TT.one (Ty.agg G66)) (loadV E0 S9 67 (.pointer (some ⟨b1, 0, none⟩))) fun (x6 : Int × Int × Int × Sl × Bool) =>
                                            k (.tuple #[sv G66 x6, .int .i64 0]) S9)
theorem w53 (b_0 : Option Addr) (n_1 : Int) (count_2 : Value) {S : St} {k : Value → St → Prop} (h : c53 b_0 n_1 count_2 S k) : WC E0 53 [.pointer b_0, .int .i64 n_1, count_2] S k :=
  WC_den h53 rfl (by kernel_rfl) (by kernel_rfl : Try.f53.body = some (bodyOf Try.f53)) (by rw [show (denF E0 h53 Try.f53 (bodyOf Try.f53) [.pointer b_0, .int .i64 n_1, count_2] S k) = c53 b_0 n_1 count_2 S k by kernel_rfl]; exact h)

/-! 54 (*wagonway/bag.Bag).Deliver$1 -/
noncomputable def h54 : Hn := .no
def c54 (c0 : Nat) (S : St) (k : Value → St → Prop) : Prop :=
  evV tP (loadV E0 S 83 (.pointer (some ⟨c0, 0, none⟩))) fun (p1 : Option Addr) =>
    ptrW p1 fun (b1 b2 : Nat) =>
      ptrW (some ⟨b1, b2, none⟩) fun (b3 b4 : Nat) =>
        ptrW (some ⟨b3, b4 + 2, none⟩) fun (b5 b6 : Nat) =>
          evV tI (loadV E0 S 3 (.pointer (some ⟨b5, b6 + 1, none⟩))) fun (n1 : Int) =>
            ptrW p1 fun (b7 b8 : Nat) =>
              ptrW (some ⟨b7, b8, none⟩) fun (b9 b10 : Nat) =>
                ptrW (some ⟨b9, b10 + 2, none⟩) fun (b11 b12 : Nat) =>
                  evS (storeV E0 S 3 (.pointer (some ⟨b11, b12 + 1, none⟩)) (.int .i64 (wrapI .i64 (n1 + 1)))) fun (S1 : St) => k (.tuple #[]) S1
theorem w54 (c0 : Nat) {S : St} {k : Value → St → Prop} (h : c54 c0 S k) : WC E0 54 [.pointer (some ⟨c0, 0, none⟩)] S k :=
  WC_den h54 rfl (by kernel_rfl) (by kernel_rfl : Try.f54.body = some (bodyOf Try.f54)) (by rw [show (denF E0 h54 Try.f54 (bodyOf Try.f54) [.pointer (some ⟨c0, 0, none⟩)] S k) = c54 c0 S k by kernel_rfl]; exact h)

/-! 55 (*wagonway/bag.Bag).Drop$1 -/
noncomputable def h55 : Hn := .no
def c55 (c0 : Nat) (S : St) (k : Value → St → Prop) : Prop :=
  evV tP (loadV E0 S 83 (.pointer (some ⟨c0, 0, none⟩))) fun (p1 : Option Addr) =>
    ptrW p1 fun (b1 b2 : Nat) =>
      ptrW (some ⟨b1, b2, none⟩) fun (b3 b4 : Nat) =>
        ptrW (some ⟨b3, b4 + 2, none⟩) fun (b5 b6 : Nat) =>
          evV tI (loadV E0 S 3 (.pointer (some ⟨b5, b6 + 2, none⟩))) fun (n1 : Int) =>
            ptrW p1 fun (b7 b8 : Nat) =>
              ptrW (some ⟨b7, b8, none⟩) fun (b9 b10 : Nat) =>
                ptrW (some ⟨b9, b10 + 2, none⟩) fun (b11 b12 : Nat) =>
                  evS (storeV E0 S 3 (.pointer (some ⟨b11, b12 + 2, none⟩)) (.int .i64 (wrapI .i64 (n1 + 1)))) fun (S1 : St) => k (.tuple #[]) S1
theorem w55 (c0 : Nat) {S : St} {k : Value → St → Prop} (h : c55 c0 S k) : WC E0 55 [.pointer (some ⟨c0, 0, none⟩)] S k :=
  WC_den h55 rfl (by kernel_rfl) (by kernel_rfl : Try.f55.body = some (bodyOf Try.f55)) (by rw [show (denF E0 h55 Try.f55 (bodyOf Try.f55) [.pointer (some ⟨c0, 0, none⟩)] S k) = c55 c0 S k by kernel_rfl]; exact h)

/-! 56 (*wagonway/bag.Bag).place -/
noncomputable def h56 : Hn := (.n .no (.n (.n .no (.n .no (.n .no (.n (.n .no (.n (.n .no .no (some ⟨[], [(14, .sc (.int .i64)), (15, .agg [(.int .i64), (.int .i64), (.int .i64), .sl, .bool])], false⟩)) .no none) none) .no none) none) none) none) .no none) none)
def c56 (b_0 : Option Addr) (n_1 : Int) (S : St) (k : Value → St → Prop) : Prop :=
  newW S (.cells [.int .i64 n_1] none false none) fun (b1 : Nat) (S1 : St) =>
    eqW E0 S1 83 (.pointer b_0) (.pointer none) fun (t1 : Bool) =>
      ifW t1 (k (.tuple #[.int .i64 0, .int .i64 1]) S1)
        (newW S1 (.cells [.int .i64 0] none false none) fun (b2 : Nat) (S2 : St) =>
          newW S2 (.cells [.int .i64 0] none false none) fun (b3 : Nat) (S3 : St) =>
            evS (storeV E0 S3 3 (.pointer (some ⟨b2, 0, none⟩)) (.int .i64 0)) fun (S4 : St) =>
              evS (storeV E0 S4 32 (.pointer (some ⟨b3, 0, none⟩)) (.int .i64 80)) fun (S5 : St) =>
                evC E0 tA 57 [.pointer b_0] S5 fun (v1 : Value) (S6 : St) =>
                  newW S6 DObj.deferred fun (b4 : Nat) (S7 : St) =>
                    ∀ (b5 : Nat) (S8 : St) (k1 : LoopState → Option Code → DObj),
                      b5 = S7.next →
                        S8 = (St.alloc S7 (k1 LoopState.ready none)).2 →
                          (LoopL fun (x1 : LoopState) (p1 : Option Code) => k1 x1 p1) →
                            (RoundH E0 b5 [Ty.sc (Sc.int .i64), Ty.agg [Sc.int .i64, Sc.int .i64, Sc.int .i64, Sc.sl, Sc.bool]]
                                fun (x2 : Int × Int × Int × Int × Sl × Bool) (S9 : St) (k2 : Bool → St → Prop) =>
                                hasW S9 b5 (k1 LoopState.ready none)
                                  (newW S9 (.cells [.int .i64 0, .int .i64 0, .int .i64 0, .slice none 0 0, .bool false] none false none) fun (b6 : Nat) (S10 : St) =>
                                    evS (storeV E0 S10 67 (.pointer (some ⟨b6, 0, none⟩)) (sv G66 x2.2)) fun (S11 : St) =>
                                      hasW S11 b5 (k1 LoopState.ready none)
                                        (updW S11 b5 (k1 LoopState.busy none) fun (S12 : St) =>
                                          ptrW (some ⟨b6, 0, none⟩) fun (b7 b8 : Nat) =>
                                            evV tI (loadV E0 S12 3 (.pointer (some ⟨b7, b8 + 0, none⟩))) fun (n1 : Int) =>
                                              evV tI (loadV E0 S12 3 (.pointer (some ⟨b1, 0, none⟩))) fun (n2 : Int) =>
                                                ifW (eqI n1 n2)
                                                  (evS (storeV E0 S12 3 (.pointer (some ⟨b2, 0, none⟩)) (.int .i64 x2.1)) fun (S13 : St) =>
                                                    evS (storeV E0 S13 32 (.pointer (some ⟨b3, 0, none⟩)) (.int .i64 0)) fun (S14 : St) =>
                                                      hasW S14 b5 (k1 LoopState.busy none) (updW S14 b5 (k1 LoopState.done (some (Code.exit 0))) fun (S15 : St) => k2 false S15))
                                                  (hasW S12 b5 (k1 LoopState.busy none) (updW S12 b5 (k1 LoopState.ready none) fun (S16 : St) => k2 true S16))))) →
                              WG E0 v1 b5 S8 fun (S17 : St) =>
                                hasW S17 b5 (k1 LoopState.ready none)
                                    (updW S17 b5 (k1 LoopState.exhausted none) fun (S18 : St) =>
                                      evV tI (loadV E0 S18 3 (.pointer (some ⟨b2, 0, none⟩))) fun (n3 : Int) =>
                                        evV tI (loadV E0 S18 32 (.pointer (some ⟨b3, 0, none⟩))) fun (n4 : Int) =>
                                          hasW S18 b4 DObj.deferred (updW S18 b4 DObj.dead fun (S19 : St) => k (.tuple #[.int .i64 n3, .int .i64 n4]) S19)) ∨
                                  hasW S17 b5 (k1 LoopState.done (some (Code.exit 0)))
                                      (updW S17 b5 (k1 LoopState.exhausted (some (Code.exit 0))) fun (S20 : St) =>
                                        evV tI (loadV E0 S20 3 (.pointer (some ⟨b2, 0, none⟩))) fun (n5 : Int) =>
                                          evV tI (loadV E0 S20 32 (.pointer (some ⟨b3, 0, none⟩))) fun (n6 : Int) =>
                                            hasW S20 b4 DObj.deferred (updW S20 b4 DObj.dead fun (S21 : St) => k (.tuple #[.int .i64 n5, .int .i64 n6]) S21)) ∨
                                    False)
theorem w56 (b_0 : Option Addr) (n_1 : Int) {S : St} {k : Value → St → Prop} (h : c56 b_0 n_1 S k) : WC E0 56 [.pointer b_0, .int .i64 n_1] S k :=
  WC_den h56 rfl (by kernel_rfl) (by kernel_rfl : Try.f56.body = some (bodyOf Try.f56)) (by rw [show (denF E0 h56 Try.f56 (bodyOf Try.f56) [.pointer b_0, .int .i64 n_1] S k) = c56 b_0 n_1 S k by kernel_rfl]; exact h)

/-! 57 (*wagonway/bag.Bag).all -/
noncomputable def h57 : Hn := .no
def c57 (b_0 : Option Addr) (S : St) (k : Value → St → Prop) : Prop :=
  newW S (.cells [.pointer b_0] none false none) fun (b1 : Nat) (S1 : St) => k (.func (Fn.func 69) #[] #[.pointer (some ⟨b1, 0, none⟩)]) S1
theorem w57 (b_0 : Option Addr) {S : St} {k : Value → St → Prop} (h : c57 b_0 S k) : WC E0 57 [.pointer b_0] S k :=
  WC_den h57 rfl (by kernel_rfl) (by kernel_rfl : Try.f57.body = some (bodyOf Try.f57)) (by rw [show (denF E0 h57 Try.f57 (bodyOf Try.f57) [.pointer b_0] S k) = c57 b_0 S k by kernel_rfl]; exact h)

/-! 58 wagonway/bag.twin -/
noncomputable def h58 : Hn := .no
def c58 (x_0 : Int × Int × Int × Sl × Bool) (S : St) (k : Value → St → Prop) : Prop :=
  newW S
    (.cells
      [.int .i64 x_0.1, .int .i64 x_0.2.1, .int .i64 x_0.2.2.1, .slice x_0.2.2.2.1.a x_0.2.2.2.1.len x_0.2.2.2.1.cap,
        .bool x_0.2.2.2.2]
      none false none)
    fun (b1 : Nat) (S1 : St) =>
    newW S1 (.cells [.int .i64 0, .int .i64 0, .int .i64 0, .slice none 0 0, .bool false] none false none) fun (b2 : Nat) (S2 : St) =>
      ptrW (some ⟨b1, 0, none⟩) fun (b3 b4 : Nat) =>
        evV tS (loadV E0 S2 42 (.pointer (some ⟨b3, b4 + 3, none⟩))) fun (s1 : Sl) =>
          evC E0 tS 70 [.slice s1.a s1.len s1.cap] S2 fun (s2 : Sl) (S3 : St) =>
            ptrW (some ⟨b1, 0, none⟩) fun (b5 b6 : Nat) =>
              evS (storeV E0 S3 42 (.pointer (some ⟨b5, b6 + 3, none⟩)) (.slice s2.a s2.len s2.cap)) fun (S4 : St) =>
                evV (TT.one (Ty.agg G66)) (loadV E0 S4 67 (.pointer (some ⟨b1, 0, none⟩))) fun (x1 : Int × Int × Int × Sl × Bool) =>
                  evS (storeV E0 S4 67 (.pointer (some ⟨b2, 0, none⟩)) (sv G66 x1)) fun (S5 : St) =>
                    evV (TT.one (Ty.agg G66)) (loadV E0 S5 67 (.pointer (some ⟨b2, 0, none⟩))) fun (x2 : Int × Int × Int × Sl × Bool) => k (sv G66 x2) S5
theorem w58 (x_0 : Int × Int × Int × Sl × Bool) {S : St} {k : Value → St → Prop} (h : c58 x_0 S k) : WC E0 58 [sv G66 x_0] S k :=
  WC_den h58 rfl (by kernel_rfl) (by kernel_rfl : Try.f58.body = some (bodyOf Try.f58)) (by rw [show (denF E0 h58 Try.f58 (bodyOf Try.f58) [sv G66 x_0] S k) = c58 x_0 S k by kernel_rfl]; exact h)

/-! 59 (*wagonway/wagonwayref08.Bag).Send -/
noncomputable def h59 : Hn := .no
def c59 (b_0 : Option Addr) (from_1 : Int) (to_2 : Int) (data_3 : Sl) (S : St) (k : Value → St → Prop) : Prop :=
  ptrW b_0 fun (b1 b2 : Nat) =>
    ptrW (some ⟨b1, b2, none⟩) fun (b3 b4 : Nat) =>
      ptrW (some ⟨b3, b4 + 2, none⟩) fun (b5 b6 : Nat) =>
        evV tI (loadV E0 S 3 (.pointer (some ⟨b5, b6 + 0, none⟩))) fun (n1 : Int) =>
          ptrW b_0 fun (b7 b8 : Nat) =>
            ptrW (some ⟨b7, b8, none⟩) fun (b9 b10 : Nat) =>
              ptrW (some ⟨b9, b10 + 2, none⟩) fun (b11 b12 : Nat) =>
                evS (storeV E0 S 3 (.pointer (some ⟨b11, b12 + 0, none⟩)) (.int .i64 (wrapI .i64 (n1 + 1)))) fun (S1 : St) =>
                  evC E0 tI 71 [.pointer b_0, .agg #[.int .i64 0, .int .i64 from_1, .int .i64 to_2, .slice data_3.a data_3.len data_3.cap, .bool false]] S1
                    fun (n2 : Int) (S2 : St) => k (.int .i64 n2) S2
theorem w59 (b_0 : Option Addr) (from_1 : Int) (to_2 : Int) (data_3 : Sl) {S : St} {k : Value → St → Prop} (h : c59 b_0 from_1 to_2 data_3 S k) : WC E0 59 [.pointer b_0, .int .i64 from_1, .int .i64 to_2, .slice data_3.a data_3.len data_3.cap] S k :=
  WC_den h59 rfl (by kernel_rfl) (by kernel_rfl : Try.f59.body = some (bodyOf Try.f59)) (by rw [show (denF E0 h59 Try.f59 (bodyOf Try.f59) [.pointer b_0, .int .i64 from_1, .int .i64 to_2, .slice data_3.a data_3.len data_3.cap] S k) = c59 b_0 from_1 to_2 data_3 S k by kernel_rfl]; exact h)

/-! 60 (*wagonway/wagonwayref08.Bag).Deliver -/
noncomputable def h60 : Hn := .no
def c60 (b_0 : Option Addr) (n_1 : Int) (S : St) (k : Value → St → Prop) : Prop :=
  newW S (.cells [.int .i64 0, .int .i64 0, .int .i64 0, .slice none 0 0, .bool false] none false none) fun (b1 : Nat) (S1 : St) =>
    evC E0 tI 39 [.pointer b_0, .int .i64 n_1] S1 fun (n1 : Int) (S2 : St) =>
      ifW (ltI n1 0)
        (evS (storeV E0 S2 67 (.pointer (some ⟨b1, 0, none⟩)) (.agg #[.int .i64 0, .int .i64 0, .int .i64 0, .slice none 0 0, .bool false]))
          fun (S3 : St) => evV (TT.one (Ty.agg G66)) (loadV E0 S3 67 (.pointer (some ⟨b1, 0, none⟩))) fun (x1 : Int × Int × Int × Sl × Bool) => k (.tuple #[sv G66 x1, .int .i64 80]) S3)
        (ptrW b_0 fun (b2 b3 : Nat) =>
          ptrW (some ⟨b2, b3, none⟩) fun (b4 b5 : Nat) =>
            ptrW (some ⟨b4, b5 + 2, none⟩) fun (b6 b7 : Nat) =>
              evV tI (loadV E0 S2 3 (.pointer (some ⟨b6, b7 + 1, none⟩))) fun (n2 : Int) =>
                ptrW b_0 fun (b8 b9 : Nat) =>
                  ptrW (some ⟨b8, b9, none⟩) fun (b10 b11 : Nat) =>
                    ptrW (some ⟨b10, b11 + 2, none⟩) fun (b12 b13 : Nat) =>
                      evS (storeV E0 S2 3 (.pointer (some ⟨b12, b13 + 1, none⟩)) (.int .i64 (wrapI .i64 (n2 + 1)))) fun (S4 : St) =>
                        evC E0 (TT.one (Ty.agg G66)) 72 [.pointer b_0, .int .i64 n1] S4 fun (x2 : Int × Int × Int × Sl × Bool) (S5 : St) =>
                          evS (storeV E0 S5 67 (.pointer (some ⟨b1, 0, none⟩)) (sv G66 x2)) fun (S6 : St) =>
                            evV (TT.one (Ty.agg G66)) (loadV E0 S6 67 (.pointer (some ⟨b1, 0, none⟩))) fun (x3 : Int × Int × Int × Sl × Bool) => k (.tuple #[sv G66 x3, .int .i64 0]) S6)
theorem w60 (b_0 : Option Addr) (n_1 : Int) {S : St} {k : Value → St → Prop} (h : c60 b_0 n_1 S k) : WC E0 60 [.pointer b_0, .int .i64 n_1] S k :=
  WC_den h60 rfl (by kernel_rfl) (by kernel_rfl : Try.f60.body = some (bodyOf Try.f60)) (by rw [show (denF E0 h60 Try.f60 (bodyOf Try.f60) [.pointer b_0, .int .i64 n_1] S k) = c60 b_0 n_1 S k by kernel_rfl]; exact h)

/-! 61 (*wagonway/wagonwayref08.Bag).Drop -/
noncomputable def h61 : Hn := .no
def c61 (b_0 : Option Addr) (n_1 : Int) (S : St) (k : Value → St → Prop) : Prop :=
  evC E0 tI 39 [.pointer b_0, .int .i64 n_1] S fun (n1 : Int) (S1 : St) =>
    ifW (ltI n1 0) (k (.int .i64 80) S1)
      (ptrW b_0 fun (b1 b2 : Nat) =>
        ptrW (some ⟨b1, b2, none⟩) fun (b3 b4 : Nat) =>
          ptrW (some ⟨b3, b4 + 2, none⟩) fun (b5 b6 : Nat) =>
            evV tI (loadV E0 S1 3 (.pointer (some ⟨b5, b6 + 2, none⟩))) fun (n2 : Int) =>
              ptrW b_0 fun (b7 b8 : Nat) =>
                ptrW (some ⟨b7, b8, none⟩) fun (b9 b10 : Nat) =>
                  ptrW (some ⟨b9, b10 + 2, none⟩) fun (b11 b12 : Nat) =>
                    evS (storeV E0 S1 3 (.pointer (some ⟨b11, b12 + 2, none⟩)) (.int .i64 (wrapI .i64 (n2 + 1)))) fun (S2 : St) =>
                      evC E0 (TT.one (Ty.agg G66)) 72 [.pointer b_0, .int .i64 n1] S2 fun (x1 : Int × Int × Int × Sl × Bool) (S3 : St) => k (.int .i64 0) S3)
theorem w61 (b_0 : Option Addr) (n_1 : Int) {S : St} {k : Value → St → Prop} (h : c61 b_0 n_1 S k) : WC E0 61 [.pointer b_0, .int .i64 n_1] S k :=
  WC_den h61 rfl (by kernel_rfl) (by kernel_rfl : Try.f61.body = some (bodyOf Try.f61)) (by rw [show (denF E0 h61 Try.f61 (bodyOf Try.f61) [.pointer b_0, .int .i64 n_1] S k) = c61 b_0 n_1 S k by kernel_rfl]; exact h)

/-! 62 (*wagonway/wagonwayref08.Bag).Double -/
noncomputable def h62 : Hn := .no
def c62 (b_0 : Option Addr) (n_1 : Int) (S : St) (k : Value → St → Prop) : Prop :=
  evC E0 tI 39 [.pointer b_0, .int .i64 n_1] S fun (n1 : Int) (S1 : St) =>
    ifW (ltI n1 0) (k (.tuple #[.int .i64 0, .int .i64 80]) S1)
      (ptrW b_0 fun (b1 b2 : Nat) =>
        ptrW (some ⟨b1, b2, none⟩) fun (b3 b4 : Nat) =>
          ptrW (some ⟨b3, b4 + 2, none⟩) fun (b5 b6 : Nat) =>
            evV tI (loadV E0 S1 3 (.pointer (some ⟨b5, b6 + 3, none⟩))) fun (n2 : Int) =>
              ptrW b_0 fun (b7 b8 : Nat) =>
                ptrW (some ⟨b7, b8, none⟩) fun (b9 b10 : Nat) =>
                  ptrW (some ⟨b9, b10 + 2, none⟩) fun (b11 b12 : Nat) =>
                    evS (storeV E0 S1 3 (.pointer (some ⟨b11, b12 + 3, none⟩)) (.int .i64 (wrapI .i64 (n2 + 1)))) fun (S2 : St) =>
                      ptrW b_0 fun (b13 b14 : Nat) =>
                        ptrW (some ⟨b13, b14, none⟩) fun (b15 b16 : Nat) =>
                          evV tS (loadV E0 S2 55 (.pointer (some ⟨b15, b16 + 0, none⟩))) fun (s1 : Sl) =>
                            idxW s1.a s1.len n1 fun (b17 b18 : Nat) =>
                              evV (TT.one (Ty.agg G66)) (loadV E0 S2 67 (.pointer (some ⟨b17, b18 + Int.toNat n1 * 5, none⟩))) fun (x1 : Int × Int × Int × Sl × Bool) =>
                                evC E0 tI 71 [.pointer b_0, sv G66 x1] S2 fun (n3 : Int) (S3 : St) => k (.tuple #[.int .i64 n3, .int .i64 0]) S3)
theorem w62 (b_0 : Option Addr) (n_1 : Int) {S : St} {k : Value → St → Prop} (h : c62 b_0 n_1 S k) : WC E0 62 [.pointer b_0, .int .i64 n_1] S k :=
  WC_den h62 rfl (by kernel_rfl) (by kernel_rfl : Try.f62.body = some (bodyOf Try.f62)) (by rw [show (denF E0 h62 Try.f62 (bodyOf Try.f62) [.pointer b_0, .int .i64 n_1] S k) = c62 b_0 n_1 S k by kernel_rfl]; exact h)

/-! 63 (*wagonway/wagonwayref08.Bag).Spoil -/
noncomputable def h63 : Hn := .no
def c63 (b_0 : Option Addr) (n_1 : Int) (at_2 : Int) (with_3 : Int) (S : St) (k : Value → St → Prop) : Prop :=
  evC E0 tI 39 [.pointer b_0, .int .i64 n_1] S fun (n1 : Int) (S1 : St) =>
    ifW (ltI n1 0) (k (.int .i64 80) S1)
      (ptrW b_0 fun (b1 b2 : Nat) =>
        ptrW (some ⟨b1, b2, none⟩) fun (b3 b4 : Nat) =>
          evV tS (loadV E0 S1 55 (.pointer (some ⟨b3, b4 + 0, none⟩))) fun (s1 : Sl) =>
            idxW s1.a s1.len n1 fun (b5 b6 : Nat) =>
              ptrW (some ⟨b5, b6 + Int.toNat n1 * 5, none⟩) fun (b7 b8 : Nat) =>
                evV tB (loadV E0 S1 4 (.pointer (some ⟨b7, b8 + 4, none⟩))) fun (t1 : Bool) =>
                  ifW t1 (k (.int .i64 80) S1)
                    (ifW (ltI at_2 0) (k (.int .i64 80) S1)
                      (ptrW b_0 fun (b9 b10 : Nat) =>
                        ptrW (some ⟨b9, b10, none⟩) fun (b11 b12 : Nat) =>
                          evV tS (loadV E0 S1 55 (.pointer (some ⟨b11, b12 + 0, none⟩))) fun (s2 : Sl) =>
                            idxW s2.a s2.len n1 fun (b13 b14 : Nat) =>
                              ptrW (some ⟨b13, b14 + Int.toNat n1 * 5, none⟩) fun (b15 b16 : Nat) =>
                                evV tS (loadV E0 S1 42 (.pointer (some ⟨b15, b16 + 3, none⟩))) fun (s3 : Sl) =>
                                  ifW (leI (↑s3.len : Int) at_2) (k (.int .i64 80) S1)
                                    (ifW (eqI with_3 0) (k (.int .i64 80) S1)
                                      (ptrW b_0 fun (b17 b18 : Nat) =>
                                        ptrW (some ⟨b17, b18, none⟩) fun (b19 b20 : Nat) =>
                                          evV tS (loadV E0 S1 55 (.pointer (some ⟨b19, b20 + 0, none⟩))) fun (s4 : Sl) =>
                                            idxW s4.a s4.len n1 fun (b21 b22 : Nat) =>
                                              ptrW (some ⟨b21, b22 + Int.toNat n1 * 5, none⟩) fun (b23 b24 : Nat) =>
                                                evV tS (loadV E0 S1 42 (.pointer (some ⟨b23, b24 + 3, none⟩))) fun (s5 : Sl) =>
                                                  evP tS (appendD E0 S1 42 42 (.slice none 0 0) (.slice s5.a s5.len s5.cap)) fun (s6 : Sl) (S2 : St) =>
                                                    idxW s6.a s6.len at_2 fun (b25 b26 : Nat) =>
                                                      evV tU8 (loadV E0 S2 5 (.pointer (some ⟨b25, b26 + Int.toNat at_2 * 1, none⟩))) fun (n2 : Int) =>
                                                        idxW s6.a s6.len at_2 fun (b27 b28 : Nat) =>
                                                          evS (storeV E0 S2 5 (.pointer (some ⟨b27, b28 + Int.toNat at_2 * 1, none⟩)) (.int .u8 (xorI .u8 n2 with_3))) fun (S3 : St) =>
                                                            ptrW b_0 fun (b29 b30 : Nat) =>
                                                              ptrW (some ⟨b29, b30, none⟩) fun (b31 b32 : Nat) =>
                                                                evV tS (loadV E0 S3 55 (.pointer (some ⟨b31, b32 + 0, none⟩))) fun (s7 : Sl) =>
                                                                  idxW s7.a s7.len n1 fun (b33 b34 : Nat) =>
                                                                    ptrW (some ⟨b33, b34 + Int.toNat n1 * 5, none⟩) fun (b35 b36 : Nat) =>
                                                                      evS (storeV E0 S3 42 (.pointer (some ⟨b35, b36 + 3, none⟩)) (.slice s6.a s6.len s6.cap)) fun (S4 : St) =>
                                                                        ptrW b_0 fun (b37 b38 : Nat) =>
                                                                          ptrW (some ⟨b37, b38, none⟩) fun (b39 b40 : Nat) =>
                                                                            evV tS (loadV E0 S4 55 (.pointer (some ⟨b39, b40 + 0, none⟩))) fun (s8 : Sl) =>
                                                                              idxW s8.a s8.len n1 fun (b41 b42 : Nat) =>
                                                                                ptrW (some ⟨b41, b42 + Int.toNat n1 * 5, none⟩) fun (b43 b44 : Nat) =>
                                                                                  evS (storeV E0 S4 4 (.pointer (some ⟨b43, b44 + 4, none⟩)) (.bool true)) fun (S5 : St) =>
                                                                                    ptrW b_0 fun (b45 b46 : Nat) =>
                                                                                      ptrW (some ⟨b45, b46, none⟩) fun (b47 b48 : Nat) =>
                                                                                        ptrW (some ⟨b47, b48 + 2, none⟩) fun (b49 b50 : Nat) =>
                                                                                          evV tI (loadV E0 S5 3 (.pointer (some ⟨b49, b50 + 4, none⟩))) fun (n3 : Int) =>
                                                                                            ptrW b_0 fun (b51 b52 : Nat) =>
                                                                                              ptrW (some ⟨b51, b52, none⟩) fun (b53 b54 : Nat) =>
                                                                                                ptrW (some ⟨b53, b54 + 2, none⟩) fun (b55 b56 : Nat) =>
                                                                                                  evS
                                                                                                    (storeV E0 S5 3 (.pointer (some ⟨b55, b56 + 4, none⟩))
                                                                                                      (.int .i64 (wrapI .i64 (n3 + 1))))
                                                                                                    fun (S6 : St) => k (.int .i64 0) S6)))))
theorem w63 (b_0 : Option Addr) (n_1 : Int) (at_2 : Int) (with_3 : Int) {S : St} {k : Value → St → Prop} (h : c63 b_0 n_1 at_2 with_3 S k) : WC E0 63 [.pointer b_0, .int .i64 n_1, .int .i64 at_2, .int .u8 with_3] S k :=
  WC_den h63 rfl (by kernel_rfl) (by kernel_rfl : Try.f63.body = some (bodyOf Try.f63)) (by rw [show (denF E0 h63 Try.f63 (bodyOf Try.f63) [.pointer b_0, .int .i64 n_1, .int .i64 at_2, .int .u8 with_3] S k) = c63 b_0 n_1 at_2 with_3 S k by kernel_rfl]; exact h)

/-! 68 slices.Delete[[]wagonway/api.Flight,wagonway/api.Flight] -/
noncomputable def h68 : Hn := .no
def c68 (s_0 : Sl) (i_1 : Int) (j_2 : Int) (S : St) (k : Value → St → Prop) : Prop :=
  evV tS (sliceD E0 S 55 (.slice s_0.a s_0.len s_0.cap) (some (.int .i64 i_1)) (some (.int .i64 j_2)) (some (.int .i64 (↑s_0.len : Int)))) fun (s1 : Sl) =>
    ifW (eqI i_1 j_2) (k (.slice s_0.a s_0.len s_0.cap) S)
      (evV tS (sliceD E0 S 55 (.slice s_0.a s_0.len s_0.cap) none (some (.int .i64 i_1)) none) fun (s2 : Sl) =>
        evV tS (sliceD E0 S 55 (.slice s_0.a s_0.len s_0.cap) (some (.int .i64 j_2)) none none) fun (s3 : Sl) =>
          evP tS (appendD E0 S 55 55 (.slice s2.a s2.len s2.cap) (.slice s3.a s3.len s3.cap)) fun (s4 : Sl) (S1 : St) =>
            evV tS (sliceD E0 S1 55 (.slice s4.a s4.len s4.cap) (some (.int .i64 (↑s4.len : Int))) (some (.int .i64 (↑s_0.len : Int))) none) fun (s5 : Sl) =>
              evS (clearD E0 S1 55 (.slice s5.a s5.len s5.cap)) fun (S2 : St) => k (.slice s4.a s4.len s4.cap) S2)
theorem w68 (s_0 : Sl) (i_1 : Int) (j_2 : Int) {S : St} {k : Value → St → Prop} (h : c68 s_0 i_1 j_2 S k) : WC E0 68 [.slice s_0.a s_0.len s_0.cap, .int .i64 i_1, .int .i64 j_2] S k :=
  WC_den h68 rfl (by kernel_rfl) (by kernel_rfl : Try.f68.body = some (bodyOf Try.f68)) (by rw [show (denF E0 h68 Try.f68 (bodyOf Try.f68) [.slice s_0.a s_0.len s_0.cap, .int .i64 i_1, .int .i64 j_2] S k) = c68 s_0 i_1 j_2 S k by kernel_rfl]; exact h)

/-! 69 (*wagonway/bag.Bag).all$1 -/
noncomputable def h69 : Hn := (.n .no (.n .no (.n (.n .no .no (some ⟨[0, 10, 11], [(12, .sc (.int .i64))], false⟩)) .no none) none) none)
def c69 (yield_0 : Value) (c1 : Nat) (S : St) (k : Value → St → Prop) : Prop :=
  evV tP (loadV E0 S 83 (.pointer (some ⟨c1, 0, none⟩))) fun (p1 : Option Addr) =>
    eqW E0 S 83 (.pointer p1) (.pointer none) fun (t1 : Bool) =>
      ifW t1 (k (.tuple #[]) S)
        (evV tP (loadV E0 S 83 (.pointer (some ⟨c1, 0, none⟩))) fun (p2 : Option Addr) =>
          ptrW p2 fun (b1 b2 : Nat) =>
            ptrW (some ⟨b1, b2, none⟩) fun (b3 b4 : Nat) =>
              evV tS (loadV E0 S 55 (.pointer (some ⟨b3, b4 + 0, none⟩))) fun (s1 : Sl) =>
                loopW
                  (fun (k1 : Int → St → Prop) (n1 : Int) (S1 : St) =>
                    ifW (ltI n1 (↑s1.len : Int))
                      (idxW s1.a s1.len n1 fun (b5 b6 : Nat) =>
                        evV (TT.one (Ty.agg G66)) (loadV E0 S1 67 (.pointer (some ⟨b5, b6 + Int.toNat n1 * 5, none⟩))) fun (x1 : Int × Int × Int × Sl × Bool) =>
                          newW S1 (.cells [.int .i64 0, .int .i64 0, .int .i64 0, .slice none 0 0, .bool false] none false none) fun (b7 : Nat) (S2 : St) =>
                            evS (storeV E0 S2 67 (.pointer (some ⟨b7, 0, none⟩)) (sv G66 x1)) fun (S3 : St) =>
                              evV (TT.one (Ty.agg G66)) (loadV E0 S3 67 (.pointer (some ⟨b7, 0, none⟩))) fun (x2 : Int × Int × Int × Sl × Bool) =>
                                evY E0 tB yield_0 [.int .i64 n1, sv G66 x2] S3 fun (t2 : Bool) (S4 : St) => ifW (!t2) (k (.tuple #[]) S4) (k1 (wrapI .i64 (n1 + 1)) S4))
                      (k (.tuple #[]) S1))
                  0 S)
theorem w69 (yield_0 : Value) (c1 : Nat) {S : St} {k : Value → St → Prop} (h : c69 yield_0 c1 S k) : WC E0 69 [yield_0, .pointer (some ⟨c1, 0, none⟩)] S k :=
  WC_den h69 rfl (by kernel_rfl) (by kernel_rfl : Try.f69.body = some (bodyOf Try.f69)) (by rw [show (denF E0 h69 Try.f69 (bodyOf Try.f69) [yield_0, .pointer (some ⟨c1, 0, none⟩)] S k) = c69 yield_0 c1 S k by kernel_rfl]; exact h)

/-! 70 slices.Clone[[]byte,byte] -/
noncomputable def h70 : Hn := .no
def c70 (s_0 : Sl) (S : St) (k : Value → St → Prop) : Prop :=
  eqW E0 S 42 (.slice s_0.a s_0.len s_0.cap) (.slice none 0 0) fun (t1 : Bool) =>
    ifW t1 (k (.slice none 0 0) S)
      (newW S (.cells [] none false none) fun (b1 : Nat) (S1 : St) =>
        evP tS (appendD E0 S1 42 42 (.slice (some ⟨b1, 0, none⟩) 0 0) (.slice s_0.a s_0.len s_0.cap)) fun (s1 : Sl) (S2 : St) => k (.slice s1.a s1.len s1.cap) S2)
theorem w70 (s_0 : Sl) {S : St} {k : Value → St → Prop} (h : c70 s_0 S k) : WC E0 70 [.slice s_0.a s_0.len s_0.cap] S k :=
  WC_den h70 rfl (by kernel_rfl) (by kernel_rfl : Try.f70.body = some (bodyOf Try.f70)) (by rw [show (denF E0 h70 Try.f70 (bodyOf Try.f70) [.slice s_0.a s_0.len s_0.cap] S k) = c70 s_0 S k by kernel_rfl]; exact h)

/-! 71 (*wagonway/wagonwayref08.Bag).put -/
noncomputable def h71 : Hn := .no
def c71 (b_0 : Option Addr) (x_1 : Int × Int × Int × Sl × Bool) (S : St) (k : Value → St → Prop) : Prop :=
  newW S
    (.cells
      [.int .i64 x_1.1, .int .i64 x_1.2.1, .int .i64 x_1.2.2.1, .slice x_1.2.2.2.1.a x_1.2.2.2.1.len x_1.2.2.2.1.cap,
        .bool x_1.2.2.2.2]
      none false none)
    fun (b1 : Nat) (S1 : St) =>
    ptrW b_0 fun (b2 b3 : Nat) =>
      ptrW (some ⟨b2, b3, none⟩) fun (b4 b5 : Nat) =>
        evV tS (loadV E0 S1 55 (.pointer (some ⟨b4, b5 + 0, none⟩))) fun (s1 : Sl) =>
          ifW (leI 256 (↑s1.len : Int))
            (ptrW b_0 fun (b6 b7 : Nat) =>
              ptrW (some ⟨b6, b7, none⟩) fun (b8 b9 : Nat) =>
                ptrW (some ⟨b8, b9 + 2, none⟩) fun (b10 b11 : Nat) =>
                  evV tI (loadV E0 S1 3 (.pointer (some ⟨b10, b11 + 5, none⟩))) fun (n1 : Int) =>
                    ptrW b_0 fun (b12 b13 : Nat) =>
                      ptrW (some ⟨b12, b13, none⟩) fun (b14 b15 : Nat) =>
                        ptrW (some ⟨b14, b15 + 2, none⟩) fun (b16 b17 : Nat) =>
                          evS (storeV E0 S1 3 (.pointer (some ⟨b16, b17 + 5, none⟩)) (.int .i64 (wrapI .i64 (n1 + 1)))) fun (S2 : St) => k (.int .i64 0) S2)
            (ptrW b_0 fun (b18 b19 : Nat) =>
              ptrW (some ⟨b18, b19, none⟩) fun (b20 b21 : Nat) =>
                evV tI (loadV E0 S1 3 (.pointer (some ⟨b20, b21 + 1, none⟩))) fun (n2 : Int) =>
                  ptrW b_0 fun (b22 b23 : Nat) =>
                    ptrW (some ⟨b22, b23, none⟩) fun (b24 b25 : Nat) =>
                      evS (storeV E0 S1 3 (.pointer (some ⟨b24, b25 + 1, none⟩)) (.int .i64 (wrapI .i64 (n2 + 1)))) fun (S3 : St) =>
                        ptrW b_0 fun (b26 b27 : Nat) =>
                          ptrW (some ⟨b26, b27, none⟩) fun (b28 b29 : Nat) =>
                            evV tI (loadV E0 S3 3 (.pointer (some ⟨b28, b29 + 1, none⟩))) fun (n3 : Int) =>
                              ptrW (some ⟨b1, 0, none⟩) fun (b30 b31 : Nat) =>
                                evS (storeV E0 S3 3 (.pointer (some ⟨b30, b31 + 0, none⟩)) (.int .i64 n3)) fun (S4 : St) =>
                                  ptrW (some ⟨b1, 0, none⟩) fun (b32 b33 : Nat) =>
                                    evV tS (loadV E0 S4 42 (.pointer (some ⟨b32, b33 + 3, none⟩))) fun (s2 : Sl) =>
                                      evP tS (appendD E0 S4 42 42 (.slice none 0 0) (.slice s2.a s2.len s2.cap)) fun (s3 : Sl) (S5 : St) =>
                                        ptrW (some ⟨b1, 0, none⟩) fun (b34 b35 : Nat) =>
                                          evS (storeV E0 S5 42 (.pointer (some ⟨b34, b35 + 3, none⟩)) (.slice s3.a s3.len s3.cap)) fun (S6 : St) =>
                                            ptrW b_0 fun (b36 b37 : Nat) =>
                                              ptrW (some ⟨b36, b37, none⟩) fun (b38 b39 : Nat) =>
                                                evV tS (loadV E0 S6 55 (.pointer (some ⟨b38, b39 + 0, none⟩))) fun (s4 : Sl) =>
                                                  evV (TT.one (Ty.agg G66)) (loadV E0 S6 67 (.pointer (some ⟨b1, 0, none⟩))) fun (x1 : Int × Int × Int × Sl × Bool) =>
                                                    newW S6
                                                      (.cells
                                                        [.int .i64 x1.1, .int .i64 x1.2.1, .int .i64 x1.2.2.1,
                                                          .slice x1.2.2.2.1.a x1.2.2.2.1.len x1.2.2.2.1.cap, .bool x1.2.2.2.2]
                                                        none false none)
                                                      fun (b40 : Nat) (S7 : St) =>
                                                      evV tS (loadV E0 S7 55 (.pointer (some ⟨b38, b39 + 0, none⟩))) fun (s5 : Sl) =>
                                                        sameV (.slice s5.a s5.len s5.cap) (.slice s4.a s4.len s4.cap)
                                                          (evP tS (appendD E0 S7 55 55 (.slice s4.a s4.len s4.cap) (.slice (some ⟨b40, 0, none⟩) 1 1)) fun (s6 : Sl) (S8 : St) =>
                                                            ptrW b_0 fun (b41 b42 : Nat) =>
                                                              ptrW (some ⟨b41, b42, none⟩) fun (b43 b44 : Nat) =>
                                                                evS (storeV E0 S8 55 (.pointer (some ⟨b43, b44 + 0, none⟩)) (.slice s6.a s6.len s6.cap)) fun (S9 : St) =>
                                                                  ptrW b_0 fun (b45 b46 : Nat) =>
                                                                    ptrW (some ⟨b45, b46, none⟩) fun (b47 b48 : Nat) =>
                                                                      evV tI (loadV E0 S9 3 (.pointer (some ⟨b47, b48 + 1, none⟩))) fun (n4 : Int) => k (.int .i64 n4) S9))
theorem w71 (b_0 : Option Addr) (x_1 : Int × Int × Int × Sl × Bool) {S : St} {k : Value → St → Prop} (h : c71 b_0 x_1 S k) : WC E0 71 [.pointer b_0, sv G66 x_1] S k :=
  WC_den h71 rfl (by kernel_rfl) (by kernel_rfl : Try.f71.body = some (bodyOf Try.f71)) (by rw [show (denF E0 h71 Try.f71 (bodyOf Try.f71) [.pointer b_0, sv G66 x_1] S k) = c71 b_0 x_1 S k by kernel_rfl]; exact h)

/-! 72 (*wagonway/wagonwayref08.Bag).cut -/
noncomputable def h72 : Hn := .no
def c72 (b_0 : Option Addr) (i_1 : Int) (S : St) (k : Value → St → Prop) : Prop :=
  newW S (.cells [.int .i64 0, .int .i64 0, .int .i64 0, .slice none 0 0, .bool false] none false none) fun (b1 : Nat) (S1 : St) =>
    ptrW b_0 fun (b2 b3 : Nat) =>
      ptrW (some ⟨b2, b3, none⟩) fun (b4 b5 : Nat) =>
        evV tS (loadV E0 S1 55 (.pointer (some ⟨b4, b5 + 0, none⟩))) fun (s1 : Sl) =>
          idxW s1.a s1.len i_1 fun (b6 b7 : Nat) =>
            evV (TT.one (Ty.agg G66)) (loadV E0 S1 67 (.pointer (some ⟨b6, b7 + Int.toNat i_1 * 5, none⟩))) fun (x1 : Int × Int × Int × Sl × Bool) =>
              newW S1 (.cells [.int .i64 0, .int .i64 0, .int .i64 0, .slice none 0 0, .bool false] none false none) fun (b8 : Nat) (S2 : St) =>
                evS (storeV E0 S2 67 (.pointer (some ⟨b8, 0, none⟩)) (sv G66 x1)) fun (S3 : St) =>
                  ptrW b_0 fun (b9 b10 : Nat) =>
                    ptrW (some ⟨b9, b10, none⟩) fun (b11 b12 : Nat) =>
                      evV tS (loadV E0 S3 55 (.pointer (some ⟨b11, b12 + 0, none⟩))) fun (s2 : Sl) =>
                        evV tS (sliceD E0 S3 55 (.slice s2.a s2.len s2.cap) none (some (.int .i64 i_1)) none) fun (s3 : Sl) =>
                          evP tS (appendD E0 S3 55 55 (.slice none 0 0) (.slice s3.a s3.len s3.cap)) fun (s4 : Sl) (S4 : St) =>
                            ptrW b_0 fun (b13 b14 : Nat) =>
                              ptrW (some ⟨b13, b14, none⟩) fun (b15 b16 : Nat) =>
                                evV tS (loadV E0 S4 55 (.pointer (some ⟨b15, b16 + 0, none⟩))) fun (s5 : Sl) =>
                                  evV tS (sliceD E0 S4 55 (.slice s5.a s5.len s5.cap) (some (.int .i64 (wrapI .i64 (i_1 + 1)))) none none) fun (s6 : Sl) =>
                                    evP tS (appendD E0 S4 55 55 (.slice s4.a s4.len s4.cap) (.slice s6.a s6.len s6.cap)) fun (s7 : Sl) (S5 : St) =>
                                      ptrW b_0 fun (b17 b18 : Nat) =>
                                        ptrW (some ⟨b17, b18, none⟩) fun (b19 b20 : Nat) =>
                                          evS (storeV E0 S5 55 (.pointer (some ⟨b19, b20 + 0, none⟩)) (.slice s7.a s7.len s7.cap)) fun (S6 : St) =>
                                            evV (TT.one (Ty.agg G66)) (loadV E0 S6 67 (.pointer (some ⟨b8, 0, none⟩))) fun (x2 : Int × Int × Int × Sl × Bool) =>
                                              evS (storeV E0 S6 67 (.pointer (some ⟨b1, 0, none⟩)) (sv G66 x2)) fun (S7 : St) =>
                                                evV (TT.one (Ty.agg G66)) (loadV E0 S7 67 (.pointer (some ⟨b1, 0, none⟩))) fun (x3 : Int × Int × Int × Sl × Bool) => k (sv G66 x3) S7
theorem w72 (b_0 : Option Addr) (i_1 : Int) {S : St} {k : Value → St → Prop} (h : c72 b_0 i_1 S k) : WC E0 72 [.pointer b_0, .int .i64 i_1] S k :=
  WC_den h72 rfl (by kernel_rfl) (by kernel_rfl : Try.f72.body = some (bodyOf Try.f72)) (by rw [show (denF E0 h72 Try.f72 (bodyOf Try.f72) [.pointer b_0, .int .i64 i_1] S k) = c72 b_0 i_1 S k by kernel_rfl]; exact h)

/-! 8 wagonway/wagonwaylaw08.BagKeeps -/
noncomputable def h8 : Hn := (.n .no (.n .no (.n .no (.n .no (.n .no (.n .no (.n (.n .no (.n (.n (.n .no (.n .no (.n (.n (.n .no (.n .no (.n (.n .no (.n (.n .no (.n .no (.n .no (.n .no (.n .no (.n .no (.n .no (.n (.n .no (.n .no .no (some ⟨[0, 3, 4, 5, 6, 8, 12, 28, 29], [(101, .sc .bool)], false⟩)) none) .no none) none) none) none) none) none) none) none) .no none) none) .no (some ⟨[0, 3, 4, 5, 28, 29], [(6, .sc (.int .i64))], false⟩)) none) none) .no none) .no none) none) none) .no (some ⟨[0, 3, 4, 5, 28], [(6, .sc (.int .i64)), (29, .sc (.int .i64))], false⟩)) .no none) none) (.n (.n .no (.n (.n .no .no (some ⟨[3, 4, 5, 139, 140], [(141, .sc (.int .i64))], false⟩)) .no none) none) .no none) none) none) none) none) none) none) none)
def c8 (l_0 : Sl) (S : St) (k : Value → St → Prop) : Prop :=
  evC E0 tB 24 [] S fun (t1 : Bool) (S1 : St) =>
    evC E0 tI 25 [.slice l_0.a l_0.len l_0.cap] S1 fun (n1 : Int) (S2 : St) =>
      ifW (ltI 0 n1) (k (.bool t1) S2)
        (ifW (!t1) (k (.bool t1) S2)
          (newW S2
            (.cells [.slice none 0 0, .int .i64 0, .int .i64 0, .int .i64 0, .int .i64 0, .int .i64 0, .int .i64 0, .int .i64 0]
              none false none)
            fun (b1 : Nat) (S3 : St) =>
            newW S3 (DObj.map [] 0) fun (b2 : Nat) (S4 : St) =>
              loopW
                (fun (k1 : Int × Int → St → Prop) (x1 : Int × Int) (S5 : St) =>
                  ifW (ltI x1.2 (↑l_0.len : Int))
                    (idxW l_0.a l_0.len x1.2 fun (b3 b4 : Nat) =>
                      evV (TT.one (Ty.agg G61)) (loadV E0 S5 62 (.pointer (some ⟨b3, b4 + Int.toNat x1.2 * 6, none⟩))) fun (x2 : Int × Int × Int × Sl × Int × Int) =>
                        newW S5 (.cells [.int .i64 0, .int .i64 0, .int .i64 0, .slice none 0 0, .int .u8 0, .int .i64 0] none false none)
                          fun (b5 : Nat) (S6 : St) =>
                          evS (storeV E0 S6 62 (.pointer (some ⟨b5, 0, none⟩)) (sv G61 x2)) fun (S7 : St) =>
                            joinW
                              (fun (n2 : Int) (S8 : St) =>
                                evC E0 (TT.one (Ty.agg G56)) 32 [.pointer (some ⟨b1, 0, none⟩)] S8 fun (x3 : Int × Int × Int × Int × Int × Int) (S9 : St) =>
                                  newW S9 (.cells [.int .i64 0, .int .i64 0, .int .i64 0, .int .i64 0, .int .i64 0, .int .i64 0] none false none)
                                    fun (b6 : Nat) (S10 : St) =>
                                    evS (storeV E0 S10 57 (.pointer (some ⟨b6, 0, none⟩)) (sv G56 x3)) fun (S11 : St) =>
                                      ptrW (some ⟨b6, 0, none⟩) fun (b7 b8 : Nat) =>
                                        evV tI (loadV E0 S11 3 (.pointer (some ⟨b7, b8 + 0, none⟩))) fun (n3 : Int) =>
                                          ptrW (some ⟨b6, 0, none⟩) fun (b9 b10 : Nat) =>
                                            evV tI (loadV E0 S11 3 (.pointer (some ⟨b9, b10 + 3, none⟩))) fun (n4 : Int) =>
                                              ptrW (some ⟨b6, 0, none⟩) fun (b11 b12 : Nat) =>
                                                evV tI (loadV E0 S11 3 (.pointer (some ⟨b11, b12 + 1, none⟩))) fun (n5 : Int) =>
                                                  ptrW (some ⟨b6, 0, none⟩) fun (b13 b14 : Nat) =>
                                                    evV tI (loadV E0 S11 3 (.pointer (some ⟨b13, b14 + 2, none⟩))) fun (n6 : Int) =>
                                                      ptrW (some ⟨b6, 0, none⟩) fun (b15 b16 : Nat) =>
                                                        evV tI (loadV E0 S11 3 (.pointer (some ⟨b15, b16 + 5, none⟩))) fun (n7 : Int) =>
                                                          evC E0 tI 33 [.pointer (some ⟨b1, 0, none⟩)] S11 fun (n8 : Int) (S12 : St) =>
                                                            evV tI (loadV E0 S12 3 (.pointer (some ⟨b15, b16 + 5, none⟩))) fun (n9 : Int) =>
                                                              sameV (.int .i64 n9) (.int .i64 n7)
                                                                (evV tI (loadV E0 S12 3 (.pointer (some ⟨b13, b14 + 2, none⟩))) fun (n10 : Int) =>
                                                                  sameV (.int .i64 n10) (.int .i64 n6)
                                                                    (evV tI (loadV E0 S12 3 (.pointer (some ⟨b11, b12 + 1, none⟩))) fun (n11 : Int) =>
                                                                      sameV (.int .i64 n11) (.int .i64 n5)
                                                                        (evV tI (loadV E0 S12 3 (.pointer (some ⟨b9, b10 + 3, none⟩))) fun (n12 : Int) =>
                                                                          sameV (.int .i64 n12) (.int .i64 n4)
                                                                            (evV tI (loadV E0 S12 3 (.pointer (some ⟨b7, b8 + 0, none⟩))) fun (n13 : Int) =>
                                                                              sameV (.int .i64 n13) (.int .i64 n3)
                                                                                (ifW (!eqI (wrapI .i64 (wrapI .i64 (wrapI .i64 (wrapI .i64 (n3 + n4) - n5) - n6) - n7)) n8)
                                                                                  (k (.bool false) S12) (k1 (n2, wrapI .i64 (x1.2 + 1)) S12)))))))
                              fun (k2 : Int → St → Prop) =>
                              ptrW (some ⟨b5, 0, none⟩) fun (b17 b18 : Nat) =>
                                evV tI (loadV E0 S7 3 (.pointer (some ⟨b17, b18 + 0, none⟩))) fun (n14 : Int) =>
                                  ifW (eqI n14 0)
                                    (ptrW (some ⟨b5, 0, none⟩) fun (b19 b20 : Nat) =>
                                      evV tI (loadV E0 S7 3 (.pointer (some ⟨b19, b20 + 1, none⟩))) fun (n15 : Int) =>
                                        ptrW (some ⟨b5, 0, none⟩) fun (b21 b22 : Nat) =>
                                          evV tI (loadV E0 S7 3 (.pointer (some ⟨b21, b22 + 2, none⟩))) fun (n16 : Int) =>
                                            ptrW (some ⟨b5, 0, none⟩) fun (b23 b24 : Nat) =>
                                              evV tS (loadV E0 S7 42 (.pointer (some ⟨b23, b24 + 3, none⟩))) fun (s1 : Sl) =>
                                                evC E0 tI 26 [.pointer (some ⟨b1, 0, none⟩), .int .i64 n15, .int .i64 n16, .slice s1.a s1.len s1.cap] S7
                                                  fun (n17 : Int) (S13 : St) =>
                                                  ifW (!eqI n17 0)
                                                    (ifW (leI n17 x1.1) (k (.bool false) S13)
                                                      (ptrW (some ⟨b5, 0, none⟩) fun (b25 b26 : Nat) =>
                                                        evV tS (loadV E0 S13 42 (.pointer (some ⟨b25, b26 + 3, none⟩))) fun (s2 : Sl) =>
                                                          evP tT (convertD E0 S13 42 9 (.slice s2.a s2.len s2.cap)) fun (l1 : List UInt8) (S14 : St) =>
                                                            evS (mapUpdateD E0 S14 60 (.map (some b2)) (.int .i64 n17) (.agg #[.string { data := List.toArray l1 }])) fun (S15 : St) =>
                                                              k2 (bif true then bif decide (x1.1 < n17) then n17 else x1.1 else bif decide (n17 < x1.1) then n17 else x1.1) S15))
                                                    (ptrW (some ⟨b5, 0, none⟩) fun (b27 b28 : Nat) =>
                                                      evV tS (loadV E0 S13 42 (.pointer (some ⟨b27, b28 + 3, none⟩))) fun (s3 : Sl) =>
                                                        evP tT (convertD E0 S13 42 9 (.slice s3.a s3.len s3.cap)) fun (l2 : List UInt8) (S16 : St) =>
                                                          evS (mapUpdateD E0 S16 60 (.map (some b2)) (.int .i64 n17) (.agg #[.string { data := List.toArray l2 }])) fun (S17 : St) =>
                                                            k2 (bif true then bif decide (x1.1 < n17) then n17 else x1.1 else bif decide (n17 < x1.1) then n17 else x1.1) S17))
                                    (ifW (eqI n14 1)
                                      (ptrW (some ⟨b5, 0, none⟩) fun (b29 b30 : Nat) =>
                                        evV tI (loadV E0 S7 3 (.pointer (some ⟨b29, b30 + 1, none⟩))) fun (n18 : Int) =>
                                          evC E0 (TT.tup [Ty.agg G66, Ty.sc (Sc.int .i64)]) 27 [.pointer (some ⟨b1, 0, none⟩), .int .i64 n18] S7
                                            fun (x4 : (Int × Int × Int × Sl × Bool) × Int) (S18 : St) =>
                                            newW S18 (.cells [.int .i64 0, .int .i64 0, .int .i64 0, .slice none 0 0, .bool false] none false none)
                                              fun (b31 : Nat) (S19 : St) =>
                                              evS (storeV E0 S19 67 (.pointer (some ⟨b31, 0, none⟩)) (sv G66 x4.1)) fun (S20 : St) =>
                                                ifW (eqI x4.2 0)
                                                  (evV (TT.one (Ty.agg G66)) (loadV E0 S20 67 (.pointer (some ⟨b31, 0, none⟩))) fun (x5 : Int × Int × Int × Sl × Bool) =>
                                                    ptrW (some ⟨b31, 0, none⟩) fun (b32 b33 : Nat) =>
                                                      evV tI (loadV E0 S20 3 (.pointer (some ⟨b32, b33 + 0, none⟩))) fun (n19 : Int) =>
                                                        evV (TT.one (Ty.agg [Sc.str])) (lookupD E0 S20 60 (.map (some b2)) (.int .i64 n19) false) fun (l3 : List UInt8) =>
                                                          evC E0 tB 28 [sv G66 x5, .string { data := List.toArray l3 }] S20 fun (t2 : Bool) (S21 : St) => ifW (!t2) (k (.bool false) S21) (k2 x1.1 S21))
                                                  (k2 x1.1 S20))
                                      (ifW (eqI n14 2)
                                        (ptrW (some ⟨b5, 0, none⟩) fun (b34 b35 : Nat) =>
                                          evV tI (loadV E0 S7 3 (.pointer (some ⟨b34, b35 + 1, none⟩))) fun (n20 : Int) =>
                                            evC E0 tI 29 [.pointer (some ⟨b1, 0, none⟩), .int .i64 n20] S7 fun (n21 : Int) (S22 : St) => k2 x1.1 S22)
                                        (ifW (eqI n14 3)
                                          (ptrW (some ⟨b5, 0, none⟩) fun (b36 b37 : Nat) =>
                                            evV tI (loadV E0 S7 3 (.pointer (some ⟨b36, b37 + 1, none⟩))) fun (n22 : Int) =>
                                              evC E0 (TT.tup [Ty.sc (Sc.int .i64), Ty.sc (Sc.int .i64)]) 30 [.pointer (some ⟨b1, 0, none⟩), .int .i64 n22] S7
                                                fun (x6 : Int × Int) (S23 : St) =>
                                                joinW
                                                  (fun (t3 : Bool) (S24 : St) =>
                                                    ifW t3
                                                      (ifW (leI x6.1 x1.1) (k (.bool false) S24)
                                                        (ptrW (some ⟨b5, 0, none⟩) fun (b38 b39 : Nat) =>
                                                          evV tI (loadV E0 S24 3 (.pointer (some ⟨b38, b39 + 1, none⟩))) fun (n23 : Int) =>
                                                            evV (TT.one (Ty.agg [Sc.str])) (lookupD E0 S24 60 (.map (some b2)) (.int .i64 n23) false) fun (l4 : List UInt8) =>
                                                              evS (mapUpdateD E0 S24 60 (.map (some b2)) (.int .i64 x6.1) (.agg #[.string { data := List.toArray l4 }])) fun (S25 : St) =>
                                                                k2 x6.1 S25))
                                                      (k2 x1.1 S24))
                                                  fun (k3 : Bool → St → Prop) => ifW (eqI x6.2 0) (k3 (!eqI x6.1 0) S23) (k3 false S23))
                                          (ifW (eqI n14 4)
                                            (ptrW (some ⟨b5, 0, none⟩) fun (b40 b41 : Nat) =>
                                              evV tI (loadV E0 S7 3 (.pointer (some ⟨b40, b41 + 1, none⟩))) fun (n24 : Int) =>
                                                ptrW (some ⟨b5, 0, none⟩) fun (b42 b43 : Nat) =>
                                                  evV tI (loadV E0 S7 3 (.pointer (some ⟨b42, b43 + 2, none⟩))) fun (n25 : Int) =>
                                                    ptrW (some ⟨b5, 0, none⟩) fun (b44 b45 : Nat) =>
                                                      evV tU8 (loadV E0 S7 5 (.pointer (some ⟨b44, b45 + 4, none⟩))) fun (n26 : Int) =>
                                                        evC E0 tI 31 [.pointer (some ⟨b1, 0, none⟩), .int .i64 n24, .int .i64 n25, .int .u8 n26] S7
                                                          fun (n27 : Int) (S26 : St) => k2 x1.1 S26)
                                            (k2 x1.1 S7))))))
                    (evC E0 tS 34 [.pointer (some ⟨b1, 0, none⟩)] S5 fun (s4 : Sl) (S27 : St) =>
                      loopW
                        (fun (k4 : Int → St → Prop) (n28 : Int) (S28 : St) =>
                          ifW (ltI n28 (↑s4.len : Int))
                            (idxW s4.a s4.len n28 fun (b46 b47 : Nat) =>
                              evV (TT.one (Ty.agg G66)) (loadV E0 S28 67 (.pointer (some ⟨b46, b47 + Int.toNat n28 * 5, none⟩))) fun (x7 : Int × Int × Int × Sl × Bool) =>
                                newW S28 (.cells [.int .i64 0, .int .i64 0, .int .i64 0, .slice none 0 0, .bool false] none false none) fun (b48 : Nat) (S29 : St) =>
                                  evS (storeV E0 S29 67 (.pointer (some ⟨b48, 0, none⟩)) (sv G66 x7)) fun (S30 : St) =>
                                    evV (TT.one (Ty.agg G66)) (loadV E0 S30 67 (.pointer (some ⟨b48, 0, none⟩))) fun (x8 : Int × Int × Int × Sl × Bool) =>
                                      ptrW (some ⟨b48, 0, none⟩) fun (b49 b50 : Nat) =>
                                        evV tI (loadV E0 S30 3 (.pointer (some ⟨b49, b50 + 0, none⟩))) fun (n29 : Int) =>
                                          evV (TT.one (Ty.agg [Sc.str])) (lookupD E0 S30 60 (.map (some b2)) (.int .i64 n29) false) fun (l5 : List UInt8) =>
                                            evC E0 tB 28 [sv G66 x8, .string { data := List.toArray l5 }] S30 fun (t4 : Bool) (S31 : St) => ifW (!t4) (k (.bool false) S31) (k4 (wrapI .i64 (n28 + 1)) S31))
                            (ifW t1
                              (evC E0 tS 34 [.pointer (some ⟨b1, 0, none⟩)] S28 fun (s5 : Sl) (S32 : St) =>
                                evC E0 tS 34 [.pointer (some ⟨b1, 0, none⟩)] S32 fun (s6 : Sl) (S33 : St) =>
                                  evC E0 tB 35 [.slice s5.a s5.len s5.cap, .slice s6.a s6.len s6.cap] S33 fun (t5 : Bool) (S34 : St) => k (.bool t5) S34)
                              (k (.bool false) S28)))
                        0 S27))
                (0, 0) S4))
theorem w8 (l_0 : Sl) {S : St} {k : Value → St → Prop} (h : c8 l_0 S k) : WC E0 8 [.slice l_0.a l_0.len l_0.cap] S k :=
  WC_den h8 rfl (by kernel_rfl) (by kernel_rfl : Try.f8.body = some (bodyOf Try.f8)) (by rw [show (denF E0 h8 Try.f8 (bodyOf Try.f8) [.slice l_0.a l_0.len l_0.cap] S k) = c8 l_0 S k by kernel_rfl]; exact h)

/-! 9 wagonway/wagonwaylaw08.BagOrder -/
noncomputable def h9 : Hn := (.n .no (.n .no (.n .no (.n .no (.n (.n .no (.n (.n (.n .no (.n .no (.n (.n (.n .no (.n .no (.n .no (.n .no (.n (.n .no (.n (.n .no .no (some ⟨[0, 3, 4, 7, 21, 22, 66], [(67, .sc (.int .i64))], false⟩)) .no none) none) .no none) none) (some ⟨[0, 3, 4, 21, 22], [], false⟩)) none) none) .no none) .no none) none) none) .no (some ⟨[0, 3, 4, 21], [(22, .sc (.int .i64))], false⟩)) .no none) none) .no none) none) none) none) none)
def c9 (l_0 : Sl) (S : St) (k : Value → St → Prop) : Prop :=
  evC E0 tB 24 [] S fun (t1 : Bool) (S1 : St) =>
    evC E0 tI 25 [.slice l_0.a l_0.len l_0.cap] S1 fun (n1 : Int) (S2 : St) =>
      ifW (ltI 0 n1) (k (.bool t1) S2)
        (ifW (!t1) (k (.bool t1) S2)
          (newW S2
            (.cells [.slice none 0 0, .int .i64 0, .int .i64 0, .int .i64 0, .int .i64 0, .int .i64 0, .int .i64 0, .int .i64 0]
              none false none)
            fun (b1 : Nat) (S3 : St) =>
            loopW
              (fun (k1 : Int → St → Prop) (n2 : Int) (S4 : St) =>
                ifW (ltI n2 (↑l_0.len : Int))
                  (idxW l_0.a l_0.len n2 fun (b2 b3 : Nat) =>
                    evV (TT.one (Ty.agg G61)) (loadV E0 S4 62 (.pointer (some ⟨b2, b3 + Int.toNat n2 * 6, none⟩))) fun (x1 : Int × Int × Int × Sl × Int × Int) =>
                      newW S4 (.cells [.int .i64 0, .int .i64 0, .int .i64 0, .slice none 0 0, .int .u8 0, .int .i64 0] none false none)
                        fun (b4 : Nat) (S5 : St) =>
                        evS (storeV E0 S5 62 (.pointer (some ⟨b4, 0, none⟩)) (sv G61 x1)) fun (S6 : St) =>
                          joinW
                            (fun (x2 : PUnit) (S7 : St) =>
                              evC E0 tS 34 [.pointer (some ⟨b1, 0, none⟩)] S7 fun (s1 : Sl) (S8 : St) =>
                                loopW
                                  (fun (k2 : Int → St → Prop) (n3 : Int) (S9 : St) =>
                                    ifW (ltI n3 (↑s1.len : Int))
                                      (idxW s1.a s1.len n3 fun (b5 b6 : Nat) =>
                                        ptrW (some ⟨b5, b6 + Int.toNat n3 * 5, none⟩) fun (b7 b8 : Nat) =>
                                          evV tI (loadV E0 S9 3 (.pointer (some ⟨b7, b8 + 0, none⟩))) fun (n4 : Int) =>
                                            evC E0 (TT.tup [Ty.agg G66, Ty.sc Sc.bool]) 36 [.pointer (some ⟨b1, 0, none⟩), .int .i64 n4] S9
                                              fun (x3 : (Int × Int × Int × Sl × Bool) × Bool) (S10 : St) =>
                                              newW S10 (.cells [.int .i64 0, .int .i64 0, .int .i64 0, .slice none 0 0, .bool false] none false none)
                                                fun (b9 : Nat) (S11 : St) =>
                                                evS (storeV E0 S11 67 (.pointer (some ⟨b9, 0, none⟩)) (sv G66 x3.1)) fun (S12 : St) =>
                                                  ifW (!x3.2) (k (.bool false) S12)
                                                    (evV (TT.one (Ty.agg G66)) (loadV E0 S12 67 (.pointer (some ⟨b9, 0, none⟩))) fun (x4 : Int × Int × Int × Sl × Bool) =>
                                                      idxW s1.a s1.len n3 fun (b10 b11 : Nat) =>
                                                        evV (TT.one (Ty.agg G66)) (loadV E0 S12 67 (.pointer (some ⟨b10, b11 + Int.toNat n3 * 5, none⟩))) fun (x5 : Int × Int × Int × Sl × Bool) =>
                                                          evC E0 tB 37 [sv G66 x4, sv G66 x5] S12 fun (t2 : Bool) (S13 : St) =>
                                                            ifW (!t2) (k (.bool false) S13)
                                                              (ifW (ltI 0 n3)
                                                                (idxW s1.a s1.len n3 fun (b12 b13 : Nat) =>
                                                                  ptrW (some ⟨b12, b13 + Int.toNat n3 * 5, none⟩) fun (b14 b15 : Nat) =>
                                                                    evV tI (loadV E0 S13 3 (.pointer (some ⟨b14, b15 + 0, none⟩))) fun (n5 : Int) =>
                                                                      idxW s1.a s1.len (wrapI .i64 (n3 - 1)) fun (b16 b17 : Nat) =>
                                                                        ptrW (some ⟨b16, b17 + Int.toNat (wrapI .i64 (n3 - 1)) * 5, none⟩) fun (b18 b19 : Nat) =>
                                                                          evV tI (loadV E0 S13 3 (.pointer (some ⟨b18, b19 + 0, none⟩))) fun (n6 : Int) =>
                                                                            ifW (leI n5 n6) (k (.bool false) S13) (k2 (wrapI .i64 (n3 + 1)) S13))
                                                                (k2 (wrapI .i64 (n3 + 1)) S13))))
                                      (evC E0 tI 33 [.pointer (some ⟨b1, 0, none⟩)] S9 fun (n7 : Int) (S14 : St) =>
                                        ifW (!eqI (↑s1.len : Int) n7) (k (.bool false) S14) (ifW (ltI 256 (↑s1.len : Int)) (k (.bool false) S14) (k1 (wrapI .i64 (n2 + 1)) S14))))
                                  0 S8)
                            fun (k3 : PUnit → St → Prop) =>
                            ptrW (some ⟨b4, 0, none⟩) fun (b20 b21 : Nat) =>
                              evV tI (loadV E0 S6 3 (.pointer (some ⟨b20, b21 + 0, none⟩))) fun (n8 : Int) =>
                                ifW (eqI n8 0)
                                  (ptrW (some ⟨b4, 0, none⟩) fun (b22 b23 : Nat) =>
                                    evV tI (loadV E0 S6 3 (.pointer (some ⟨b22, b23 + 1, none⟩))) fun (n9 : Int) =>
                                      ptrW (some ⟨b4, 0, none⟩) fun (b24 b25 : Nat) =>
                                        evV tI (loadV E0 S6 3 (.pointer (some ⟨b24, b25 + 2, none⟩))) fun (n10 : Int) =>
                                          ptrW (some ⟨b4, 0, none⟩) fun (b26 b27 : Nat) =>
                                            evV tS (loadV E0 S6 42 (.pointer (some ⟨b26, b27 + 3, none⟩))) fun (s2 : Sl) =>
                                              evC E0 tI 26 [.pointer (some ⟨b1, 0, none⟩), .int .i64 n9, .int .i64 n10, .slice s2.a s2.len s2.cap] S6
                                                fun (n11 : Int) (S15 : St) => k3 PUnit.unit S15)
                                  (ifW (eqI n8 1)
                                    (ptrW (some ⟨b4, 0, none⟩) fun (b28 b29 : Nat) =>
                                      evV tI (loadV E0 S6 3 (.pointer (some ⟨b28, b29 + 1, none⟩))) fun (n12 : Int) =>
                                        evC E0 (TT.tup [Ty.agg G66, Ty.sc (Sc.int .i64)]) 27 [.pointer (some ⟨b1, 0, none⟩), .int .i64 n12] S6
                                          fun (x6 : (Int × Int × Int × Sl × Bool) × Int) (S16 : St) => k3 PUnit.unit S16)
                                    (ifW (eqI n8 2)
                                      (ptrW (some ⟨b4, 0, none⟩) fun (b30 b31 : Nat) =>
                                        evV tI (loadV E0 S6 3 (.pointer (some ⟨b30, b31 + 1, none⟩))) fun (n13 : Int) =>
                                          evC E0 tI 29 [.pointer (some ⟨b1, 0, none⟩), .int .i64 n13] S6 fun (n14 : Int) (S17 : St) => k3 PUnit.unit S17)
                                      (ifW (eqI n8 3)
                                        (ptrW (some ⟨b4, 0, none⟩) fun (b32 b33 : Nat) =>
                                          evV tI (loadV E0 S6 3 (.pointer (some ⟨b32, b33 + 1, none⟩))) fun (n15 : Int) =>
                                            evC E0 (TT.tup [Ty.sc (Sc.int .i64), Ty.sc (Sc.int .i64)]) 30 [.pointer (some ⟨b1, 0, none⟩), .int .i64 n15] S6
                                              fun (x7 : Int × Int) (S18 : St) => k3 PUnit.unit S18)
                                        (ifW (eqI n8 4)
                                          (ptrW (some ⟨b4, 0, none⟩) fun (b34 b35 : Nat) =>
                                            evV tI (loadV E0 S6 3 (.pointer (some ⟨b34, b35 + 1, none⟩))) fun (n16 : Int) =>
                                              ptrW (some ⟨b4, 0, none⟩) fun (b36 b37 : Nat) =>
                                                evV tI (loadV E0 S6 3 (.pointer (some ⟨b36, b37 + 2, none⟩))) fun (n17 : Int) =>
                                                  ptrW (some ⟨b4, 0, none⟩) fun (b38 b39 : Nat) =>
                                                    evV tU8 (loadV E0 S6 5 (.pointer (some ⟨b38, b39 + 4, none⟩))) fun (n18 : Int) =>
                                                      evC E0 tI 31 [.pointer (some ⟨b1, 0, none⟩), .int .i64 n16, .int .i64 n17, .int .u8 n18] S6
                                                        fun (n19 : Int) (S19 : St) => k3 PUnit.unit S19)
                                          (k3 PUnit.unit S6))))))
                  (k (.bool t1) S4))
              0 S3))
theorem w9 (l_0 : Sl) {S : St} {k : Value → St → Prop} (h : c9 l_0 S k) : WC E0 9 [.slice l_0.a l_0.len l_0.cap] S k :=
  WC_den h9 rfl (by kernel_rfl) (by kernel_rfl : Try.f9.body = some (bodyOf Try.f9)) (by rw [show (denF E0 h9 Try.f9 (bodyOf Try.f9) [.slice l_0.a l_0.len l_0.cap] S k) = c9 l_0 S k by kernel_rfl]; exact h)

end
end Go.Proofs.Ytcookjolkhcjhaa

/- The conditions of functions (printed by GenDen.lean). -/
namespace Go.Proofs.Ytcookjolkhcjhaa
open Go Go.Proofs.Ytcookjolkhcjhaa.D
set_option linter.unusedVariables false
noncomputable section

/-! 12 wagonway/wagonwaylaw08.BagRefuses -/
noncomputable def h12 : Hn := (.n .no (.n .no (.n .no (.n .no (.n .no (.n (.n .no (.n (.n .no .no (some ⟨[0, 3, 5, 6, 7, 40], [(41, .sc (.int .i64))], false⟩)) .no none) none) (.n .no (.n .no (.n .no (.n .no (.n (.n .no (.n (.n .no .no (some ⟨[3, 5, 6, 9, 109], [(110, .sc (.int .i64))], false⟩)) .no none) none) .no none) none) (some ⟨[3, 5, 6, 9, 10], [(11, .sc (.int .i64))], false⟩)) none) none) none) none) none) none) none) none)
def c12 (l_0 : Sl) (x_1 : Int × Int × Int × Sl × Int × Int) (S : St) (k : Value → St → Prop) : Prop :=
  newW S
    (.cells
      [.int .i64 x_1.1, .int .i64 x_1.2.1, .int .i64 x_1.2.2.1, .slice x_1.2.2.2.1.a x_1.2.2.2.1.len x_1.2.2.2.1.cap,
        .int .u8 x_1.2.2.2.2.1, .int .i64 x_1.2.2.2.2.2]
      none false none)
    fun (b1 : Nat) (S1 : St) =>
    evC E0 tB 24 [] S1 fun (t1 : Bool) (S2 : St) =>
      evC E0 tI 25 [.slice l_0.a l_0.len l_0.cap] S2 fun (n1 : Int) (S3 : St) =>
        ifW (ltI 0 n1) (k (.bool t1) S3)
          (ptrW (some ⟨b1, 0, none⟩) fun (b2 b3 : Nat) =>
            evV tS (loadV E0 S3 42 (.pointer (some ⟨b2, b3 + 3, none⟩))) fun (s1 : Sl) =>
              ifW (ltI 60 (↑s1.len : Int)) (k (.bool t1) S3)
                (ptrW (some ⟨b1, 0, none⟩) fun (b4 b5 : Nat) =>
                  evV tI (loadV E0 S3 3 (.pointer (some ⟨b4, b5 + 0, none⟩))) fun (n2 : Int) =>
                    ifW (eqI n2 0) (k (.bool t1) S3)
                      (ifW (!t1) (k (.bool t1) S3)
                        (newW S3
                          (.cells
                            [.slice none 0 0, .int .i64 0, .int .i64 0, .int .i64 0, .int .i64 0, .int .i64 0, .int .i64 0,
                              .int .i64 0]
                            none false none)
                          fun (b6 : Nat) (S4 : St) =>
                          newW S4
                            (.cells
                              [.slice none 0 0, .int .i64 0, .int .i64 0, .int .i64 0, .int .i64 0, .int .i64 0, .int .i64 0,
                                .int .i64 0]
                              none false none)
                            fun (b7 : Nat) (S5 : St) =>
                            loopW
                              (fun (k1 : Int → St → Prop) (n3 : Int) (S6 : St) =>
                                ifW (ltI n3 (↑l_0.len : Int))
                                  (idxW l_0.a l_0.len n3 fun (b8 b9 : Nat) =>
                                    evV (TT.one (Ty.agg G61)) (loadV E0 S6 62 (.pointer (some ⟨b8, b9 + Int.toNat n3 * 6, none⟩))) fun (x1 : Int × Int × Int × Sl × Int × Int) =>
                                      evC E0 tB 38 [.pointer (some ⟨b6, 0, none⟩), .pointer (some ⟨b7, 0, none⟩), sv G61 x1] S6 fun (t2 : Bool) (S7 : St) =>
                                        ifW (!t2) (k (.bool false) S7) (k1 (wrapI .i64 (n3 + 1)) S7))
                                  (evC E0 tS 34 [.pointer (some ⟨b6, 0, none⟩)] S6 fun (s2 : Sl) (S8 : St) =>
                                    evC E0 (TT.one (Ty.agg G56)) 32 [.pointer (some ⟨b6, 0, none⟩)] S8 fun (x2 : Int × Int × Int × Int × Int × Int) (S9 : St) =>
                                      newW S9
                                        (.cells [.int .i64 0, .int .i64 0, .int .i64 0, .int .i64 0, .int .i64 0, .int .i64 0] none false none)
                                        fun (b10 : Nat) (S10 : St) =>
                                        evS (storeV E0 S10 57 (.pointer (some ⟨b10, 0, none⟩)) (sv G56 x2)) fun (S11 : St) =>
                                          joinW
                                            (fun (n4 : Int) (S12 : St) =>
                                              ifW (!eqI n4 0)
                                                (ifW t1
                                                  (evC E0 tS 34 [.pointer (some ⟨b6, 0, none⟩)] S12 fun (s3 : Sl) (S13 : St) =>
                                                    evC E0 tB 35 [.slice s3.a s3.len s3.cap, .slice s2.a s2.len s2.cap] S13 fun (t3 : Bool) (S14 : St) =>
                                                      ifW t3
                                                        (evC E0 (TT.one (Ty.agg G56)) 32 [.pointer (some ⟨b6, 0, none⟩)] S14 fun (x3 : Int × Int × Int × Int × Int × Int) (S15 : St) =>
                                                          evV (TT.one (Ty.agg G56)) (loadV E0 S15 57 (.pointer (some ⟨b10, 0, none⟩))) fun (x4 : Int × Int × Int × Int × Int × Int) =>
                                                            evV (TT.one (Ty.agg G56)) (loadV E0 S14 57 (.pointer (some ⟨b10, 0, none⟩))) fun (x5 : Int × Int × Int × Int × Int × Int) =>
                                                              sameV (sv G56 x5) (sv G56 x4) (eqW E0 S15 57 (sv G56 x3) (sv G56 x4) fun (t4 : Bool) => k (.bool t4) S15))
                                                        (k (.bool false) S14))
                                                  (k (.bool false) S12))
                                                (loopW
                                                  (fun (k2 : Int → St → Prop) (n5 : Int) (S16 : St) =>
                                                    ifW (ltI n5 (↑s2.len : Int))
                                                      (idxW s2.a s2.len n5 fun (b11 b12 : Nat) =>
                                                        ptrW (some ⟨b11, b12 + Int.toNat n5 * 5, none⟩) fun (b13 b14 : Nat) =>
                                                          evV tI (loadV E0 S16 3 (.pointer (some ⟨b13, b14 + 0, none⟩))) fun (n6 : Int) =>
                                                            evC E0 (TT.tup [Ty.agg G66, Ty.sc Sc.bool]) 36 [.pointer (some ⟨b6, 0, none⟩), .int .i64 n6] S16
                                                              fun (x6 : (Int × Int × Int × Sl × Bool) × Bool) (S17 : St) =>
                                                              newW S17 (.cells [.int .i64 0, .int .i64 0, .int .i64 0, .slice none 0 0, .bool false] none false none)
                                                                fun (b15 : Nat) (S18 : St) =>
                                                                evS (storeV E0 S18 67 (.pointer (some ⟨b15, 0, none⟩)) (sv G66 x6.1)) fun (S19 : St) =>
                                                                  idxW s2.a s2.len n5 fun (b16 b17 : Nat) =>
                                                                    ptrW (some ⟨b16, b17 + Int.toNat n5 * 5, none⟩) fun (b18 b19 : Nat) =>
                                                                      evV tI (loadV E0 S19 3 (.pointer (some ⟨b18, b19 + 0, none⟩))) fun (n7 : Int) =>
                                                                        ptrW (some ⟨b1, 0, none⟩) fun (b20 b21 : Nat) =>
                                                                          evV tI (loadV E0 S19 3 (.pointer (some ⟨b20, b21 + 1, none⟩))) fun (n8 : Int) =>
                                                                            ifW (!eqI n7 n8)
                                                                              (ifW (!x6.2) (k (.bool false) S19)
                                                                                (evV (TT.one (Ty.agg G66)) (loadV E0 S19 67 (.pointer (some ⟨b15, 0, none⟩))) fun (x7 : Int × Int × Int × Sl × Bool) =>
                                                                                  idxW s2.a s2.len n5 fun (b22 b23 : Nat) =>
                                                                                    evV (TT.one (Ty.agg G66)) (loadV E0 S19 67 (.pointer (some ⟨b22, b23 + Int.toNat n5 * 5, none⟩)))
                                                                                      fun (x8 : Int × Int × Int × Sl × Bool) =>
                                                                                      evC E0 tB 37 [sv G66 x7, sv G66 x8] S19 fun (t5 : Bool) (S20 : St) =>
                                                                                        ifW (!t5) (k (.bool false) S20) (k2 (wrapI .i64 (n5 + 1)) S20)))
                                                                              (k2 (wrapI .i64 (n5 + 1)) S19))
                                                      (k (.bool t1) S16))
                                                  0 S12))
                                            fun (k3 : Int → St → Prop) =>
                                            ptrW (some ⟨b1, 0, none⟩) fun (b24 b25 : Nat) =>
                                              evV tI (loadV E0 S11 3 (.pointer (some ⟨b24, b25 + 0, none⟩))) fun (n9 : Int) =>
                                                ifW (eqI n9 1)
                                                  (ptrW (some ⟨b1, 0, none⟩) fun (b26 b27 : Nat) =>
                                                    evV tI (loadV E0 S11 3 (.pointer (some ⟨b26, b27 + 1, none⟩))) fun (n10 : Int) =>
                                                      evC E0 (TT.tup [Ty.agg G66, Ty.sc (Sc.int .i64)]) 27 [.pointer (some ⟨b6, 0, none⟩), .int .i64 n10] S11
                                                        fun (x9 : (Int × Int × Int × Sl × Bool) × Int) (S21 : St) => k3 x9.2 S21)
                                                  (ifW (eqI n9 2)
                                                    (ptrW (some ⟨b1, 0, none⟩) fun (b28 b29 : Nat) =>
                                                      evV tI (loadV E0 S11 3 (.pointer (some ⟨b28, b29 + 1, none⟩))) fun (n11 : Int) =>
                                                        evC E0 tI 29 [.pointer (some ⟨b6, 0, none⟩), .int .i64 n11] S11 fun (n12 : Int) (S22 : St) => k3 n12 S22)
                                                    (ifW (eqI n9 3)
                                                      (ptrW (some ⟨b1, 0, none⟩) fun (b30 b31 : Nat) =>
                                                        evV tI (loadV E0 S11 3 (.pointer (some ⟨b30, b31 + 1, none⟩))) fun (n13 : Int) =>
                                                          evC E0 (TT.tup [Ty.sc (Sc.int .i64), Ty.sc (Sc.int .i64)]) 30 [.pointer (some ⟨b6, 0, none⟩), .int .i64 n13] S11
                                                            fun (x10 : Int × Int) (S23 : St) => k3 x10.2 S23)
                                                      (ifW (eqI n9 4)
                                                        (ptrW (some ⟨b1, 0, none⟩) fun (b32 b33 : Nat) =>
                                                          evV tI (loadV E0 S11 3 (.pointer (some ⟨b32, b33 + 1, none⟩))) fun (n14 : Int) =>
                                                            ptrW (some ⟨b1, 0, none⟩) fun (b34 b35 : Nat) =>
                                                              evV tI (loadV E0 S11 3 (.pointer (some ⟨b34, b35 + 2, none⟩))) fun (n15 : Int) =>
                                                                ptrW (some ⟨b1, 0, none⟩) fun (b36 b37 : Nat) =>
                                                                  evV tU8 (loadV E0 S11 5 (.pointer (some ⟨b36, b37 + 4, none⟩))) fun (n16 : Int) =>
                                                                    evC E0 tI 31 [.pointer (some ⟨b6, 0, none⟩), .int .i64 n14, .int .i64 n15, .int .u8 n16] S11
                                                                      fun (n17 : Int) (S24 : St) => k3 n17 S24)
                                                        (k3 0 S11))))))
                              0 S5))))
theorem w12 (l_0 : Sl) (x_1 : Int × Int × Int × Sl × Int × Int) {S : St} {k : Value → St → Prop} (h : c12 l_0 x_1 S k) : WC E0 12 [.slice l_0.a l_0.len l_0.cap, sv G61 x_1] S k :=
  WC_den h12 rfl (by kernel_rfl) (by kernel_rfl : Try.f12.body = some (bodyOf Try.f12)) (by rw [show (denF E0 h12 Try.f12 (bodyOf Try.f12) [.slice l_0.a l_0.len l_0.cap, sv G61 x_1] S k) = c12 l_0 x_1 S k by kernel_rfl]; exact h)

end
end Go.Proofs.Ytcookjolkhcjhaa

/- The conditions of functions (printed by GenDen.lean). -/
namespace Go.Proofs.Ytcookjolkhcjhaa
open Go Go.Proofs.Ytcookjolkhcjhaa.D
set_option linter.unusedVariables false
noncomputable section
/-! 10 wagonway/wagonwaylaw08.BagPlays -/
noncomputable def h10 : Hn := (.n .no (.n .no (.n .no (.n .no (.n (.n .no (.n (.n (.n .no (.n .no (.n (.n (.n .no (.n .no (.n .no (.n .no (.n .no (.n .no (.n .no (.n .no (.n .no (.n (.n (.n .no (.n .no (.n (.n (.n .no (.n .no (.n (.n .no .no (some ⟨[0, 3, 4, 10, 11, 21, 22, 101, 102, 110], [(111, .sc (.int .i64))], false⟩)) .no none) none) none) .no none) .no none) none) none) .no (some ⟨[0, 3, 4, 10, 21, 22, 101], [(102, .sc (.int .i64))], false⟩)) .no none) none) none) none) (some ⟨[0, 3, 4, 6, 7, 8, 9, 21, 22], [], false⟩)) none) none) none) none) none) .no none) .no none) none) none) .no (some ⟨[0, 3, 4, 21], [(22, .sc (.int .i64))], false⟩)) .no none) none) .no none) none) none) none) none)
def c10 (l_0 : Sl) (S : St) (k : Value → St → Prop) : Prop :=
  evC E0 tI 25 [.slice l_0.a l_0.len l_0.cap] S fun (n1 : Int) (S1 : St) =>
    ifW (ltI 0 n1) (k (.bool true) S1)
      (newW S1
        (.cells [.slice none 0 0, .int .i64 0, .int .i64 0, .int .i64 0, .int .i64 0, .int .i64 0, .int .i64 0, .int .i64 0] none
          false none)
        fun (b1 : Nat) (S2 : St) =>
        newW S2
          (.cells [.slice none 0 0, .int .i64 0, .int .i64 0, .int .i64 0, .int .i64 0, .int .i64 0, .int .i64 0, .int .i64 0]
            none false none)
          fun (b2 : Nat) (S3 : St) =>
          loopW
            (fun (k1 : Int → St → Prop) (n2 : Int) (S4 : St) =>
              ifW (ltI n2 (↑l_0.len : Int))
                (idxW l_0.a l_0.len n2 fun (b3 b4 : Nat) =>
                  evV (TT.one (Ty.agg G61)) (loadV E0 S4 62 (.pointer (some ⟨b3, b4 + Int.toNat n2 * 6, none⟩))) fun (x1 : Int × Int × Int × Sl × Int × Int) =>
                    evC E0 tB 38 [.pointer (some ⟨b1, 0, none⟩), .pointer (some ⟨b2, 0, none⟩), sv G61 x1] S4 fun (t1 : Bool) (S5 : St) =>
                      ifW (!t1) (k (.bool false) S5)
                        (idxW l_0.a l_0.len n2 fun (b5 b6 : Nat) =>
                          ptrW (some ⟨b5, b6 + Int.toNat n2 * 6, none⟩) fun (b7 b8 : Nat) =>
                            evV tI (loadV E0 S5 3 (.pointer (some ⟨b7, b8 + 1, none⟩))) fun (n3 : Int) =>
                              evC E0 (TT.tup [Ty.agg G66, Ty.sc Sc.bool]) 36 [.pointer (some ⟨b1, 0, none⟩), .int .i64 n3] S5 fun (x2 : (Int × Int × Int × Sl × Bool) × Bool) (S6 : St) =>
                                newW S6 (.cells [.int .i64 0, .int .i64 0, .int .i64 0, .slice none 0 0, .bool false] none false none) fun (b9 : Nat) (S7 : St) =>
                                  evS (storeV E0 S7 67 (.pointer (some ⟨b9, 0, none⟩)) (sv G66 x2.1)) fun (S8 : St) =>
                                    idxW l_0.a l_0.len n2 fun (b10 b11 : Nat) =>
                                      ptrW (some ⟨b10, b11 + Int.toNat n2 * 6, none⟩) fun (b12 b13 : Nat) =>
                                        evV tI (loadV E0 S8 3 (.pointer (some ⟨b12, b13 + 1, none⟩))) fun (n4 : Int) =>
                                          evC E0 tI 39 [.pointer (some ⟨b2, 0, none⟩), .int .i64 n4] S8 fun (n5 : Int) (S9 : St) =>
                                            newW S9 (.cells [.int .i64 0, .int .i64 0, .int .i64 0, .slice none 0 0, .bool false] none false none)
                                              fun (b14 : Nat) (S10 : St) =>
                                              evS
                                                (storeV E0 S10 67 (.pointer (some ⟨b14, 0, none⟩))
                                                  (.agg #[.int .i64 0, .int .i64 0, .int .i64 0, .slice none 0 0, .bool false]))
                                                fun (S11 : St) =>
                                                joinW
                                                  (fun (x3 : PUnit) (S12 : St) =>
                                                    evC E0 tS 34 [.pointer (some ⟨b1, 0, none⟩)] S12 fun (s1 : Sl) (S13 : St) =>
                                                      evV (TT.one (Ty.agg G66)) (loadV E0 S13 67 (.pointer (some ⟨b9, 0, none⟩))) fun (x4 : Int × Int × Int × Sl × Bool) =>
                                                        evV (TT.one (Ty.agg G66)) (loadV E0 S13 67 (.pointer (some ⟨b14, 0, none⟩))) fun (x5 : Int × Int × Int × Sl × Bool) =>
                                                          evC E0 tB 37 [sv G66 x4, sv G66 x5] S13 fun (t2 : Bool) (S14 : St) =>
                                                            ifW (!t2) (k (.bool false) S14)
                                                              (eqW E0 S14 4 (.bool x2.2) (.bool (leI 0 n5)) fun (t3 : Bool) =>
                                                                ifW (!t3) (k (.bool false) S14)
                                                                  (ptrW (some ⟨b2, 0, none⟩) fun (b15 b16 : Nat) =>
                                                                    ptrW (some ⟨b15, b16, none⟩) fun (b17 b18 : Nat) =>
                                                                      evV tS (loadV E0 S14 55 (.pointer (some ⟨b17, b18 + 0, none⟩))) fun (s2 : Sl) =>
                                                                        evC E0 tB 35 [.slice s1.a s1.len s1.cap, .slice s2.a s2.len s2.cap] S14 fun (t4 : Bool) (S15 : St) =>
                                                                          ifW (!t4) (k (.bool false) S15)
                                                                            (evC E0 tI 33 [.pointer (some ⟨b1, 0, none⟩)] S15 fun (n6 : Int) (S16 : St) =>
                                                                              ptrW (some ⟨b2, 0, none⟩) fun (b19 b20 : Nat) =>
                                                                                ptrW (some ⟨b19, b20, none⟩) fun (b21 b22 : Nat) =>
                                                                                  evV tS (loadV E0 S16 55 (.pointer (some ⟨b21, b22 + 0, none⟩))) fun (s3 : Sl) =>
                                                                                    evV tS (loadV E0 S15 55 (.pointer (some ⟨b21, b22 + 0, none⟩))) fun (s4 : Sl) =>
                                                                                      sameV (.slice s4.a s4.len s4.cap) (.slice s3.a s3.len s3.cap)
                                                                                        (sameV (.int .i64 (↑s3.len : Int)) (.int .i64 (↑s3.len : Int))
                                                                                          (ifW (!eqI n6 (↑s3.len : Int)) (k (.bool false) S16)
                                                                                            (evC E0 (TT.one (Ty.agg G56)) 32 [.pointer (some ⟨b1, 0, none⟩)] S16
                                                                                              fun (x6 : Int × Int × Int × Int × Int × Int) (S17 : St) =>
                                                                                              ptrW (some ⟨b2, 0, none⟩) fun (b23 b24 : Nat) =>
                                                                                                ptrW (some ⟨b23, b24, none⟩) fun (b25 b26 : Nat) =>
                                                                                                  evV (TT.one (Ty.agg G56)) (loadV E0 S17 57 (.pointer (some ⟨b25, b26 + 2, none⟩)))
                                                                                                    fun (x7 : Int × Int × Int × Int × Int × Int) =>
                                                                                                    evV (TT.one (Ty.agg G56)) (loadV E0 S16 57 (.pointer (some ⟨b25, b26 + 2, none⟩)))
                                                                                                      fun (x8 : Int × Int × Int × Int × Int × Int) =>
                                                                                                      sameV (sv G56 x8) (sv G56 x7)
                                                                                                        (eqW E0 S17 57 (sv G56 x6) (sv G56 x7) fun (t5 : Bool) =>
                                                                                                          ifW (!t5) (k (.bool false) S17)
                                                                                                            (loopW
                                                                                                              (fun (k2 : Int → St → Prop) (n7 : Int) (S18 : St) =>
                                                                                                                ifW (ltI n7 (↑s1.len : Int))
                                                                                                                  (idxW s1.a s1.len n7 fun (b27 b28 : Nat) =>
                                                                                                                    ptrW (some ⟨b27, b28 + Int.toNat n7 * 5, none⟩) fun (b29 b30 : Nat) =>
                                                                                                                      evV tS (loadV E0 S18 42 (.pointer (some ⟨b29, b30 + 3, none⟩))) fun (s5 : Sl) =>
                                                                                                                        loopW
                                                                                                                          (fun (k3 : Int → St → Prop) (n8 : Int) (S19 : St) =>
                                                                                                                            ifW (ltI n8 (↑s5.len : Int))
                                                                                                                              (idxW s1.a s1.len n7 fun (b31 b32 : Nat) =>
                                                                                                                                ptrW (some ⟨b31, b32 + Int.toNat n7 * 5, none⟩) fun (b33 b34 : Nat) =>
                                                                                                                                  evV tS (loadV E0 S19 42 (.pointer (some ⟨b33, b34 + 3, none⟩)))
                                                                                                                                    fun (s6 : Sl) =>
                                                                                                                                    idxW s1.a s1.len n7 fun (b35 b36 : Nat) =>
                                                                                                                                      ptrW (some ⟨b35, b36 + Int.toNat n7 * 5, none⟩) fun (b37 b38 : Nat) =>
                                                                                                                                        evV tS (loadV E0 S19 42 (.pointer (some ⟨b37, b38 + 3, none⟩)))
                                                                                                                                          fun (s7 : Sl) =>
                                                                                                                                          idxW s7.a s7.len n8 fun (b39 b40 : Nat) =>
                                                                                                                                            evV tU8
                                                                                                                                              (loadV E0 S19 5
                                                                                                                                                (.pointer (some ⟨b39, b40 + Int.toNat n8 * 1, none⟩)))
                                                                                                                                              fun (n9 : Int) =>
                                                                                                                                              idxW s6.a s6.len n8 fun (b41 b42 : Nat) =>
                                                                                                                                                evS
                                                                                                                                                  (storeV E0 S19 5
                                                                                                                                                    (.pointer (some ⟨b41, b42 + Int.toNat n8 * 1, none⟩))
                                                                                                                                                    (.int .u8 (wrapI .u8 (n9 + 1))))
                                                                                                                                                  fun (S20 : St) => k3 (wrapI .i64 (n8 + 1)) S20)
                                                                                                                              (k2 (wrapI .i64 (n7 + 1)) S19))
                                                                                                                          0 S18)
                                                                                                                  (k1 (wrapI .i64 (n2 + 1)) S18))
                                                                                                              0 S17)))))))))
                                                  fun (k4 : PUnit → St → Prop) =>
                                                  ifW (leI 0 n5)
                                                    (ptrW (some ⟨b2, 0, none⟩) fun (b43 b44 : Nat) =>
                                                      ptrW (some ⟨b43, b44, none⟩) fun (b45 b46 : Nat) =>
                                                        evV tS (loadV E0 S11 55 (.pointer (some ⟨b45, b46 + 0, none⟩))) fun (s8 : Sl) =>
                                                          idxW s8.a s8.len n5 fun (b47 b48 : Nat) =>
                                                            evV (TT.one (Ty.agg G66)) (loadV E0 S11 67 (.pointer (some ⟨b47, b48 + Int.toNat n5 * 5, none⟩))) fun (x9 : Int × Int × Int × Sl × Bool) =>
                                                              evS (storeV E0 S11 67 (.pointer (some ⟨b14, 0, none⟩)) (sv G66 x9)) fun (S21 : St) => k4 PUnit.unit S21)
                                                    (k4 PUnit.unit S11)))
                (k (.bool true) S4))
            0 S3)
theorem w10 (l_0 : Sl) {S : St} {k : Value → St → Prop} (h : c10 l_0 S k) : WC E0 10 [.slice l_0.a l_0.len l_0.cap] S k :=
  WC_den h10 rfl (by kernel_rfl) (by kernel_rfl : Try.f10.body = some (bodyOf Try.f10)) (by rw [show (denF E0 h10 Try.f10 (bodyOf Try.f10) [.slice l_0.a l_0.len l_0.cap] S k) = c10 l_0 S k by kernel_rfl]; exact h)

end
end Go.Proofs.Ytcookjolkhcjhaa
