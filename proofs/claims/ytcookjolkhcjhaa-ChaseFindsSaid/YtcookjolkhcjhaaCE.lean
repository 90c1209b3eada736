/- Parts of the proof, put together. -/
import Derived.Test.YtcookjolkhcjhaaDC
import Derived.Test.YtcookjolkhcjhaaChecked
import Derived.KernelRfl
/-
  D over this seat's program: what D is told of its types and functions (printed by GenEnv.lean).
-/
namespace Go.Proofs.Ytcookjolkhcjhaa.DEnv
open Go.Proofs.Ytcookjolkhcjhaa.D
abbrev lf {α : Type} (v : α) : PM α := .node .leaf (some v) .leaf
noncomputable def i0 : DInfo := ⟨Try.t0.desc, 1, 0, Try.t0.zero, false, false, true⟩
noncomputable def i1 : DInfo := ⟨Try.t1.desc, 1, 8, Try.t1.zero, false, false, true⟩
noncomputable def i2 : DInfo := ⟨Try.t2.desc, 1, 8, Try.t2.zero, true, false, true⟩
noncomputable def i3 : DInfo := ⟨Try.t3.desc, 1, 8, Try.t3.zero, true, false, true⟩
noncomputable def i4 : DInfo := ⟨Try.t4.desc, 1, 1, Try.t4.zero, true, false, true⟩
noncomputable def i5 : DInfo := ⟨Try.t5.desc, 1, 1, Try.t5.zero, true, false, true⟩
noncomputable def i6 : DInfo := ⟨Try.t5.desc, 1, 1, Try.t6.zero, true, false, true⟩
noncomputable def i7 : DInfo := ⟨Try.t7.desc, 4, 24, Try.t7.zero, true, false, true⟩
noncomputable def i8 : DInfo := ⟨Try.t7.desc, 4, 24, Try.t8.zero, true, false, true⟩
noncomputable def i9 : DInfo := ⟨Try.t9.desc, 1, 16, Try.t9.zero, true, false, true⟩
noncomputable def i10 : DInfo := ⟨Try.t9.desc, 1, 16, Try.t10.zero, true, false, true⟩
noncomputable def i11 : DInfo := ⟨Try.t9.desc, 1, 16, Try.t11.zero, true, false, true⟩
noncomputable def i12 : DInfo := ⟨Try.t12.desc, 1, 8, Try.t12.zero, true, false, true⟩
noncomputable def i13 : DInfo := ⟨Try.t13.desc, 2, 24, Try.t13.zero, true, false, false⟩
noncomputable def i14 : DInfo := ⟨Try.t13.desc, 2, 24, Try.t14.zero, true, false, false⟩
noncomputable def i15 : DInfo := ⟨Try.t15.desc, 1, 8, Try.t15.zero, true, false, true⟩
noncomputable def i16 : DInfo := ⟨Try.t16.desc, 1, 8, Try.t16.zero, true, false, true⟩
noncomputable def i17 : DInfo := ⟨Try.t17.desc, 1, 8, Try.t17.zero, true, false, true⟩
noncomputable def i18 : DInfo := ⟨Try.t18.desc, 1, 8, Try.t18.zero, true, false, false⟩
noncomputable def i19 : DInfo := ⟨Try.t18.desc, 1, 8, Try.t19.zero, true, false, false⟩
noncomputable def i20 : DInfo := ⟨Try.t20.desc, 1, 16, Try.t20.zero, true, false, true⟩
noncomputable def i21 : DInfo := ⟨Try.t21.desc, 1, 4, Try.t21.zero, true, false, true⟩
noncomputable def i22 : DInfo := ⟨Try.t22.desc, 3, 24, Try.t22.zero, true, false, true⟩
noncomputable def i23 : DInfo := ⟨Try.t22.desc, 3, 24, Try.t23.zero, true, false, true⟩
noncomputable def i24 : DInfo := ⟨Try.t24.desc, 5, 40, Try.t24.zero, true, false, true⟩
noncomputable def i25 : DInfo := ⟨Try.t24.desc, 5, 40, Try.t25.zero, true, false, true⟩
noncomputable def i26 : DInfo := ⟨Try.t26.desc, 1, 4, Try.t26.zero, true, false, true⟩
noncomputable def i27 : DInfo := ⟨Try.t27.desc, 1, 8, Try.t27.zero, true, false, true⟩
noncomputable def i28 : DInfo := ⟨Try.t28.desc, 1, 24, Try.t28.zero, false, false, true⟩
noncomputable def i29 : DInfo := ⟨Try.t29.desc, 9, 88, Try.t29.zero, false, false, true⟩
noncomputable def i30 : DInfo := ⟨Try.t29.desc, 9, 88, Try.t30.zero, false, false, true⟩
noncomputable def i31 : DInfo := ⟨Try.t31.desc, 1, 8, Try.t31.zero, false, false, true⟩
noncomputable def i32 : DInfo := ⟨Try.t3.desc, 1, 8, Try.t32.zero, true, false, true⟩
noncomputable def i33 : DInfo := ⟨Try.t33.desc, 1, 0, none, false, false, true⟩
noncomputable def i34 : DInfo := ⟨Try.t34.desc, 1, 8, Try.t34.zero, false, false, true⟩
noncomputable def i35 : DInfo := ⟨Try.t35.desc, 1, 8, Try.t35.zero, false, false, true⟩
noncomputable def i36 : DInfo := ⟨Try.t36.desc, 1, 8, Try.t36.zero, false, false, true⟩
noncomputable def i37 : DInfo := ⟨Try.t37.desc, 1, 24, Try.t37.zero, false, false, true⟩
noncomputable def i38 : DInfo := ⟨Try.t38.desc, 1, 8, Try.t38.zero, false, false, true⟩
noncomputable def i39 : DInfo := ⟨Try.t39.desc, 1, 8, Try.t39.zero, false, false, true⟩
noncomputable def i40 : DInfo := ⟨Try.t40.desc, 1, 8, Try.t40.zero, false, false, true⟩
noncomputable def i41 : DInfo := ⟨Try.t41.desc, 1, 8, Try.t41.zero, false, false, true⟩
noncomputable def i42 : DInfo := ⟨Try.t42.desc, 1, 24, Try.t42.zero, false, false, true⟩
noncomputable def i43 : DInfo := ⟨Try.t43.desc, 1, 24, Try.t43.zero, false, false, true⟩
noncomputable def i44 : DInfo := ⟨Try.t44.desc, 1, 8, Try.t44.zero, false, false, true⟩
noncomputable def i45 : DInfo := ⟨Try.t45.desc, 1, 8, Try.t45.zero, false, false, true⟩
noncomputable def i46 : DInfo := ⟨Try.t46.desc, 1, 8, Try.t46.zero, false, false, true⟩
noncomputable def i47 : DInfo := ⟨Try.t47.desc, 1, 24, Try.t47.zero, false, false, true⟩
noncomputable def i48 : DInfo := ⟨Try.t48.desc, 1, 1, Try.t48.zero, true, false, true⟩
noncomputable def i49 : DInfo := ⟨Try.t49.desc, 2, 2, Try.t49.zero, true, false, true⟩
noncomputable def i50 : DInfo := ⟨Try.t50.desc, 1, 0, Try.t50.zero, false, false, true⟩
noncomputable def i51 : DInfo := ⟨Try.t51.desc, 1, 8, Try.t51.zero, false, false, true⟩
noncomputable def i52 : DInfo := ⟨Try.t52.desc, 1, 8, Try.t52.zero, false, false, true⟩
noncomputable def i53 : DInfo := ⟨Try.t53.desc, 1, 24, Try.t53.zero, false, false, true⟩
noncomputable def i54 : DInfo := ⟨Try.t54.desc, 1, 8, Try.t54.zero, false, false, true⟩
noncomputable def i55 : DInfo := ⟨Try.t55.desc, 1, 24, Try.t55.zero, false, false, true⟩
noncomputable def i56 : DInfo := ⟨Try.t56.desc, 6, 48, Try.t56.zero, true, false, true⟩
noncomputable def i57 : DInfo := ⟨Try.t56.desc, 6, 48, Try.t57.zero, true, false, true⟩
noncomputable def i58 : DInfo := ⟨Try.t58.desc, 8, 80, Try.t58.zero, false, false, true⟩
noncomputable def i59 : DInfo := ⟨Try.t58.desc, 8, 80, Try.t59.zero, false, false, true⟩
noncomputable def i60 : DInfo := ⟨Try.t60.desc, 1, 8, Try.t60.zero, false, false, true⟩
noncomputable def i61 : DInfo := ⟨Try.t61.desc, 6, 64, Try.t61.zero, false, false, true⟩
noncomputable def i62 : DInfo := ⟨Try.t61.desc, 6, 64, Try.t62.zero, false, false, true⟩
noncomputable def i63 : DInfo := ⟨Try.t63.desc, 1, 8, Try.t63.zero, false, false, true⟩
noncomputable def i64 : DInfo := ⟨Try.t64.desc, 1, 16, Try.t64.zero, true, false, true⟩
noncomputable def i65 : DInfo := ⟨Try.t64.desc, 1, 16, Try.t65.zero, true, false, true⟩
noncomputable def i66 : DInfo := ⟨Try.t66.desc, 5, 56, Try.t66.zero, false, false, true⟩
noncomputable def i67 : DInfo := ⟨Try.t66.desc, 5, 56, Try.t67.zero, false, false, true⟩
noncomputable def i68 : DInfo := ⟨Try.t68.desc, 1, 0, none, false, false, true⟩
noncomputable def i69 : DInfo := ⟨Try.t69.desc, 1, 8, Try.t69.zero, false, false, true⟩
noncomputable def i70 : DInfo := ⟨Try.t70.desc, 1, 8, Try.t70.zero, false, false, true⟩
noncomputable def i71 : DInfo := ⟨Try.t71.desc, 1, 8, Try.t71.zero, false, false, true⟩
noncomputable def i72 : DInfo := ⟨Try.t72.desc, 1, 0, Try.t72.zero, false, false, true⟩
noncomputable def i73 : DInfo := ⟨Try.t73.desc, 1, 8, Try.t73.zero, false, false, true⟩
noncomputable def i74 : DInfo := ⟨Try.t74.desc, 1, 8, Try.t74.zero, false, false, true⟩
noncomputable def i75 : DInfo := ⟨Try.t75.desc, 1, 8, Try.t75.zero, false, false, true⟩
noncomputable def i76 : DInfo := ⟨Try.t76.desc, 1, 8, Try.t76.zero, false, false, true⟩
noncomputable def i77 : DInfo := ⟨Try.t77.desc, 1, 8, Try.t77.zero, false, false, true⟩
noncomputable def i78 : DInfo := ⟨Try.t78.desc, 1, 8, Try.t78.zero, false, false, true⟩
noncomputable def i79 : DInfo := ⟨Try.t79.desc, 1, 8, Try.t79.zero, false, false, true⟩
noncomputable def i80 : DInfo := ⟨Try.t80.desc, 1, 0, none, false, false, true⟩
noncomputable def i81 : DInfo := ⟨Try.t81.desc, 1, 8, Try.t81.zero, false, false, true⟩
noncomputable def i82 : DInfo := ⟨Try.t82.desc, 1, 8, Try.t82.zero, false, false, true⟩
noncomputable def i83 : DInfo := ⟨Try.t83.desc, 1, 8, Try.t83.zero, true, false, true⟩
noncomputable def i84 : DInfo := ⟨Try.t84.desc, 1, 8, Try.t84.zero, true, false, true⟩
noncomputable def i85 : DInfo := ⟨Try.t85.desc, 8, 80, Try.t85.zero, false, false, true⟩
noncomputable def i86 : DInfo := ⟨Try.t85.desc, 8, 80, Try.t86.zero, false, false, true⟩
noncomputable def i87 : DInfo := ⟨Try.t87.desc, 1, 8, Try.t87.zero, false, false, true⟩
noncomputable def i88 : DInfo := ⟨Try.t88.desc, 1, 8, Try.t88.zero, false, false, true⟩
noncomputable def i89 : DInfo := ⟨Try.t89.desc, 1, 8, Try.t89.zero, false, false, true⟩
noncomputable def i90 : DInfo := ⟨Try.t90.desc, 1, 0, none, false, false, true⟩
noncomputable def i91 : DInfo := ⟨Try.t91.desc, 1, 8, Try.t91.zero, false, false, true⟩
noncomputable def i92 : DInfo := ⟨Try.t92.desc, 1, 8, Try.t92.zero, false, false, true⟩
noncomputable def i93 : DInfo := ⟨Try.t93.desc, 1, 8, Try.t93.zero, false, false, true⟩
noncomputable def i94 : DInfo := ⟨Try.t94.desc, 1, 8, Try.t94.zero, false, false, true⟩
noncomputable def i95 : DInfo := ⟨Try.t95.desc, 1, 8, Try.t95.zero, false, false, true⟩
noncomputable def i96 : DInfo := ⟨Try.t96.desc, 1, 8, Try.t96.zero, false, false, true⟩
noncomputable def i97 : DInfo := ⟨Try.t96.desc, 1, 8, Try.t97.zero, false, false, true⟩
noncomputable def i98 : DInfo := ⟨Try.t98.desc, 1, 8, Try.t98.zero, false, false, true⟩
noncomputable def i99 : DInfo := ⟨Try.t99.desc, 1, 8, Try.t99.zero, false, false, true⟩
noncomputable def i100 : DInfo := ⟨Try.t100.desc, 1, 8, Try.t100.zero, false, false, true⟩
noncomputable def i101 : DInfo := ⟨Try.t101.desc, 1, 8, Try.t101.zero, false, false, true⟩
noncomputable def i102 : DInfo := ⟨Try.t101.desc, 1, 8, Try.t102.zero, false, false, true⟩
noncomputable def i103 : DInfo := ⟨Try.t103.desc, 1, 8, Try.t103.zero, false, false, true⟩
noncomputable def i104 : DInfo := ⟨Try.t104.desc, 6, 48, Try.t104.zero, true, false, true⟩
noncomputable def i105 : DInfo := ⟨Try.t104.desc, 6, 48, Try.t105.zero, true, false, true⟩
noncomputable def i106 : DInfo := ⟨Try.t106.desc, 1, 8, Try.t106.zero, false, false, true⟩
noncomputable def i107 : DInfo := ⟨Try.t107.desc, 1, 8, Try.t107.zero, false, false, true⟩
noncomputable def i108 : DInfo := ⟨Try.t108.desc, 1, 8, Try.t108.zero, false, false, true⟩
noncomputable def i109 : DInfo := ⟨Try.t109.desc, 1, 8, Try.t109.zero, false, false, true⟩
noncomputable def i110 : DInfo := ⟨Try.t110.desc, 1, 8, Try.t110.zero, false, false, true⟩
noncomputable def i111 : DInfo := ⟨Try.t110.desc, 1, 8, Try.t111.zero, false, false, true⟩
noncomputable def i112 : DInfo := ⟨Try.t112.desc, 1, 8, Try.t112.zero, false, false, true⟩
noncomputable def i113 : DInfo := ⟨Try.t113.desc, 1, 8, Try.t113.zero, false, false, true⟩
noncomputable def i114 : DInfo := ⟨Try.t114.desc, 1, 0, none, false, false, true⟩
noncomputable def i115 : DInfo := ⟨Try.t115.desc, 1, 8, Try.t115.zero, false, false, true⟩
noncomputable def i116 : DInfo := ⟨Try.t116.desc, 1, 0, Try.t116.zero, false, false, true⟩
noncomputable def i117 : DInfo := ⟨Try.t117.desc, 1, 8, Try.t117.zero, false, false, true⟩
noncomputable def i118 : DInfo := ⟨Try.t118.desc, 1, 8, Try.t118.zero, false, false, true⟩
noncomputable def i119 : DInfo := ⟨Try.t119.desc, 1, 8, Try.t119.zero, false, false, true⟩
noncomputable def i120 : DInfo := ⟨Try.t120.desc, 1, 8, Try.t120.zero, true, false, true⟩
noncomputable def i121 : DInfo := ⟨Try.t121.desc, 1, 8, Try.t121.zero, false, false, true⟩
noncomputable def i122 : DInfo := ⟨Try.t121.desc, 1, 8, Try.t122.zero, false, false, true⟩
noncomputable def i123 : DInfo := ⟨Try.t123.desc, 1, 8, Try.t123.zero, false, false, true⟩
noncomputable def i124 : DInfo := ⟨Try.t124.desc, 1, 8, Try.t124.zero, false, false, true⟩
noncomputable def i125 : DInfo := ⟨Try.t125.desc, 1, 8, Try.t125.zero, false, false, true⟩
noncomputable def i126 : DInfo := ⟨Try.t126.desc, 1, 8, Try.t126.zero, false, false, true⟩
noncomputable def i127 : DInfo := ⟨Try.t127.desc, 1, 8, Try.t127.zero, false, false, true⟩
noncomputable def i128 : DInfo := ⟨Try.t128.desc, 1, 8, Try.t128.zero, false, false, true⟩
noncomputable def i129 : DInfo := ⟨Try.t129.desc, 1, 8, Try.t129.zero, false, false, true⟩
noncomputable def i130 : DInfo := ⟨Try.t130.desc, 4, 40, Try.t130.zero, true, false, false⟩
noncomputable def i131 : DInfo := ⟨Try.t130.desc, 4, 40, Try.t131.zero, true, false, false⟩
noncomputable def i132 : DInfo := ⟨Try.t132.desc, 0, 0, Try.t132.zero, true, false, true⟩
noncomputable def i133 : DInfo := ⟨Try.t133.desc, 0, 0, Try.t133.zero, true, false, false⟩
noncomputable def i134 : DInfo := ⟨Try.t133.desc, 0, 0, Try.t134.zero, true, false, false⟩
noncomputable def i135 : DInfo := ⟨Try.t5.desc, 1, 1, Try.t135.zero, true, false, true⟩
noncomputable def i136 : DInfo := ⟨Try.t5.desc, 1, 1, Try.t136.zero, true, false, true⟩
noncomputable def i137 : DInfo := ⟨Try.t137.desc, 1, 8, Try.t137.zero, false, false, true⟩
noncomputable def i138 : DInfo := ⟨Try.t138.desc, 1, 8, Try.t138.zero, true, false, true⟩
noncomputable def i139 : DInfo := ⟨Try.t21.desc, 1, 4, Try.t139.zero, true, false, true⟩
noncomputable def i140 : DInfo := ⟨Try.t21.desc, 1, 4, Try.t140.zero, true, false, true⟩
noncomputable def i141 : DInfo := ⟨Try.t141.desc, 11, 48, Try.t141.zero, false, false, false⟩
noncomputable def i142 : DInfo := ⟨Try.t141.desc, 11, 48, Try.t142.zero, false, false, false⟩
noncomputable def i143 : DInfo := ⟨Try.t143.desc, 2, 16, Try.t143.zero, true, false, true⟩
noncomputable def i144 : DInfo := ⟨Try.t143.desc, 2, 16, Try.t144.zero, true, false, true⟩
noncomputable def i145 : DInfo := ⟨Try.t145.desc, 1, 8, Try.t145.zero, true, false, true⟩
noncomputable def ts : List (Nat × DInfo) := [(0, i0), (1, i1), (2, i2), (3, i3), (4, i4), (5, i5), (6, i6), (7, i7), (8, i8), (9, i9), (10, i10), (11, i11), (12, i12), (13, i13), (14, i14), (15, i15), (16, i16), (17, i17), (18, i18), (19, i19), (20, i20), (21, i21), (22, i22), (23, i23), (24, i24), (25, i25), (26, i26), (27, i27), (28, i28), (29, i29), (30, i30), (31, i31), (32, i32), (33, i33), (34, i34), (35, i35), (36, i36), (37, i37), (38, i38), (39, i39), (40, i40), (41, i41), (42, i42), (43, i43), (44, i44), (45, i45), (46, i46), (47, i47), (48, i48), (49, i49), (50, i50), (51, i51), (52, i52), (53, i53), (54, i54), (55, i55), (56, i56), (57, i57), (58, i58), (59, i59), (60, i60), (61, i61), (62, i62), (63, i63), (64, i64), (65, i65), (66, i66), (67, i67), (68, i68), (69, i69), (70, i70), (71, i71), (72, i72), (73, i73), (74, i74), (75, i75), (76, i76), (77, i77), (78, i78), (79, i79), (80, i80), (81, i81), (82, i82), (83, i83), (84, i84), (85, i85), (86, i86), (87, i87), (88, i88), (89, i89), (90, i90), (91, i91), (92, i92), (93, i93), (94, i94), (95, i95), (96, i96), (97, i97), (98, i98), (99, i99), (100, i100), (101, i101), (102, i102), (103, i103), (104, i104), (105, i105), (106, i106), (107, i107), (108, i108), (109, i109), (110, i110), (111, i111), (112, i112), (113, i113), (114, i114), (115, i115), (116, i116), (117, i117), (118, i118), (119, i119), (120, i120), (121, i121), (122, i122), (123, i123), (124, i124), (125, i125), (126, i126), (127, i127), (128, i128), (129, i129), (130, i130), (131, i131), (132, i132), (133, i133), (134, i134), (135, i135), (136, i136), (137, i137), (138, i138), (139, i139), (140, i140), (141, i141), (142, i142), (143, i143), (144, i144), (145, i145)]
noncomputable def tt : PM DInfo := (.node (.node (.node (.node (.node (.node (lf i126) (some i62) (lf i94)) (some i30) (.node (lf i110) (some i46) (.node .leaf (some i78) (lf i142)))) (some i14) (.node (.node (lf i118) (some i54) (lf i86)) (some i22) (.node (lf i102) (some i38) (.node .leaf (some i70) (lf i134))))) (some i6) (.node (.node (.node (lf i122) (some i58) (lf i90)) (some i26) (.node (lf i106) (some i42) (.node .leaf (some i74) (lf i138)))) (some i10) (.node (.node (lf i114) (some i50) (lf i82)) (some i18) (.node (lf i98) (some i34) (.node .leaf (some i66) (lf i130)))))) (some i2) (.node (.node (.node (.node (lf i124) (some i60) (lf i92)) (some i28) (.node (lf i108) (some i44) (.node .leaf (some i76) (lf i140)))) (some i12) (.node (.node (lf i116) (some i52) (lf i84)) (some i20) (.node (lf i100) (some i36) (.node .leaf (some i68) (lf i132))))) (some i4) (.node (.node (.node (lf i120) (some i56) (lf i88)) (some i24) (.node (lf i104) (some i40) (.node .leaf (some i72) (lf i136)))) (some i8) (.node (.node (lf i112) (some i48) (.node .leaf (some i80) (lf i144))) (some i16) (.node (lf i96) (some i32) (.node .leaf (some i64) (lf i128))))))) (some i0) (.node (.node (.node (.node (.node (lf i125) (some i61) (lf i93)) (some i29) (.node (lf i109) (some i45) (.node .leaf (some i77) (lf i141)))) (some i13) (.node (.node (lf i117) (some i53) (lf i85)) (some i21) (.node (lf i101) (some i37) (.node .leaf (some i69) (lf i133))))) (some i5) (.node (.node (.node (lf i121) (some i57) (lf i89)) (some i25) (.node (lf i105) (some i41) (.node .leaf (some i73) (lf i137)))) (some i9) (.node (.node (lf i113) (some i49) (.node .leaf (some i81) (lf i145))) (some i17) (.node (lf i97) (some i33) (.node .leaf (some i65) (lf i129)))))) (some i1) (.node (.node (.node (.node (lf i123) (some i59) (lf i91)) (some i27) (.node (lf i107) (some i43) (.node .leaf (some i75) (lf i139)))) (some i11) (.node (.node (lf i115) (some i51) (lf i83)) (some i19) (.node (lf i99) (some i35) (.node .leaf (some i67) (lf i131))))) (some i3) (.node (.node (.node (lf i119) (some i55) (lf i87)) (some i23) (.node (lf i103) (some i39) (.node .leaf (some i71) (lf i135)))) (some i7) (.node (.node (lf i111) (some i47) (.node .leaf (some i79) (lf i143))) (some i15) (.node (lf i95) (some i31) (.node .leaf (some i63) (lf i127))))))))
noncomputable def fs : List (Nat × Func) := [(2, Try.f2), (3, Try.f3), (4, Try.f4), (5, Try.f5), (6, Try.f6), (7, Try.f7), (8, Try.f8), (9, Try.f9), (10, Try.f10), (11, Try.f11), (12, Try.f12), (13, Try.f13), (14, Try.f14), (15, Try.f15), (16, Try.f16), (17, Try.f17), (18, Try.f18), (19, Try.f19), (20, Try.f20), (21, Try.f21), (22, Try.f22), (23, Try.f23), (24, Try.f24), (25, Try.f25), (26, Try.f26), (27, Try.f27), (28, Try.f28), (29, Try.f29), (30, Try.f30), (31, Try.f31), (32, Try.f32), (33, Try.f33), (34, Try.f34), (35, Try.f35), (36, Try.f36), (37, Try.f37), (38, Try.f38), (39, Try.f39), (40, Try.f40), (41, Try.f41), (42, Try.f42), (43, Try.f43), (44, Try.f44), (45, Try.f45), (46, Try.f46), (47, Try.f47), (48, Try.f48), (49, Try.f49), (50, Try.f50), (51, Try.f51), (52, Try.f52), (53, Try.f53), (54, Try.f54), (55, Try.f55), (56, Try.f56), (57, Try.f57), (58, Try.f58), (59, Try.f59), (60, Try.f60), (61, Try.f61), (62, Try.f62), (63, Try.f63), (64, Try.f64), (65, Try.f65), (66, Try.f66), (67, Try.f67), (68, Try.f68), (69, Try.f69), (70, Try.f70), (71, Try.f71), (72, Try.f72), (73, Try.f73)]
noncomputable def ff : PM Func := (.node (.node (.node (.node (.node (lf Try.f62) (some Try.f30) (lf Try.f46)) (some Try.f14) (.node (lf Try.f54) (some Try.f22) (.node .leaf (some Try.f38) (lf Try.f70)))) (some Try.f6) (.node (.node (lf Try.f58) (some Try.f26) (lf Try.f42)) (some Try.f10) (.node (lf Try.f50) (some Try.f18) (.node .leaf (some Try.f34) (lf Try.f66))))) (some Try.f2) (.node (.node (.node (lf Try.f60) (some Try.f28) (lf Try.f44)) (some Try.f12) (.node (lf Try.f52) (some Try.f20) (.node .leaf (some Try.f36) (lf Try.f68)))) (some Try.f4) (.node (.node (lf Try.f56) (some Try.f24) (.node .leaf (some Try.f40) (lf Try.f72))) (some Try.f8) (.node (lf Try.f48) (some Try.f16) (.node .leaf (some Try.f32) (lf Try.f64)))))) none (.node (.node (.node (.node (lf Try.f61) (some Try.f29) (lf Try.f45)) (some Try.f13) (.node (lf Try.f53) (some Try.f21) (.node .leaf (some Try.f37) (lf Try.f69)))) (some Try.f5) (.node (.node (lf Try.f57) (some Try.f25) (.node .leaf (some Try.f41) (lf Try.f73))) (some Try.f9) (.node (lf Try.f49) (some Try.f17) (.node .leaf (some Try.f33) (lf Try.f65))))) none (.node (.node (.node (lf Try.f59) (some Try.f27) (lf Try.f43)) (some Try.f11) (.node (lf Try.f51) (some Try.f19) (.node .leaf (some Try.f35) (lf Try.f67)))) (some Try.f3) (.node (.node (lf Try.f55) (some Try.f23) (.node .leaf (some Try.f39) (lf Try.f71))) (some Try.f7) (.node (lf Try.f47) (some Try.f15) (.node .leaf (some Try.f31) (lf Try.f63)))))))
noncomputable def globs : Nat := 0
theorem tt_eq : tt = layD ts := by kernel_rfl
theorem ff_eq : ff = layD fs := by kernel_rfl
theorem info_eq : ts.map (fun p => infoOf Try.prog p.1) = ts.map fun p => some p.2 := by kernel_rfl
theorem funcs_eq : ∀ p ∈ fs, Try.prog.funcs[p.1]? = some p.2 := by
  have key : fs.map (fun p => Try.prog.funcs[p.1]?) = fs.map fun p => some p.2 := by kernel_rfl
  exact fun p hp => List.map_inj_left.1 key p hp
theorem names_eq : fs.all (fun p => !(p.2.name == "runtime.NumGoroutine")) = true := by kernel_rfl
theorem mixed : Try.prog.follows .mixedOrders = true := by kernel_rfl
/-- The environment, with given functions stood in for. -/
noncomputable def env (prim : Nat → Option (List Value → St → Option (Value × St))) : Env := { inf := tt.get, fn := ff.get, prim, globs }
theorem env_ok (prim : Nat → Option (List Value → St → Option (Value × St))) : (env prim).Ok Try.prog :=
  envOk (fun t => by show tt.get t = _; rw [tt_eq]) (fun f => by show ff.get f = _; rw [ff_eq]) info_eq funcs_eq names_eq
end Go.Proofs.Ytcookjolkhcjhaa.DEnv

/- The seat's base: D over the program, without stand-ins; structs' cells (printed by GenBase.lean). -/
namespace Go.Proofs.Ytcookjolkhcjhaa
open Go Go.Proofs.Ytcookjolkhcjhaa.D
noncomputable def E0 : Env := DEnv.env fun _ => none
/-- [x, y, signed, code] -/
abbrev G7 : List Sc := [.int .i64, .int .i64, .bool, .int .u8]
/-- [msg, addr] -/
abbrev G13 : List Sc := [.str, .int .u64]
/-- [Is, Cell, Robot] -/
abbrev G22 : List Sc := [.bool, .int .i64, .int .i64]
/-- [Self, Prio, W] -/
abbrev G24 : List Sc := [.int .i64, .int .i64, .bool, .int .i64, .int .i64]
/-- [Kind, Cell, Gen, Stamp, Prio, Hops, Origin, Other, Claims] -/
abbrev G29 : List Sc := [.int .i64, .int .i64, .int .u32, .int .u64, .int .i64, .int .i64, .int .i64, .int .i64, .sl]
/-- [Sent, Delivered, Dropped, Doubled, Spoilt, Lost] -/
abbrev G56 : List Sc := [.int .i64, .int .i64, .int .i64, .int .i64, .int .i64, .int .i64]
/-- [l, last, count] -/
abbrev G58 : List Sc := [.sl, .int .i64, .int .i64, .int .i64, .int .i64, .int .i64, .int .i64, .int .i64]
/-- [Kind, N, At, Data, With, Many] -/
abbrev G61 : List Sc := [.int .i64, .int .i64, .int .i64, .sl, .int .u8, .int .i64]
/-- [N, From, To, Data, Spoil] -/
abbrev G66 : List Sc := [.int .i64, .int .i64, .int .i64, .sl, .bool]
/-- [Kind, Robot, N, At, With, Draw] -/
abbrev G104 : List Sc := [.int .i64, .int .i64, .int .i64, .int .i64, .int .i64, .int .u64]
/-- [_interface, concrete, asserted, missingMethod] -/
abbrev G130 : List Sc := [.ptr, .ptr, .ptr, .str]
/-- [Size_, PtrBytes, Hash, TFlag, Align_, FieldAlign_, Kind_, Equal, GCData, Str, PtrToThis] -/
abbrev G141 : List Sc := [.int .u64, .int .u64, .int .u32, .int .u8, .int .u8, .int .u8, .int .u8, .any, .ptr, .int .i32, .int .i32]
/-- [Cell, Gen] -/
abbrev G143 : List Sc := [.int .i64, .int .u32]
end Go.Proofs.Ytcookjolkhcjhaa

/- The conditions of functions (printed by GenDen.lean). -/
namespace Go.Proofs.Ytcookjolkhcjhaa
open Go Go.Proofs.Ytcookjolkhcjhaa.D
set_option linter.unusedVariables false
noncomputable section

/-! 16 wagonway/chase.Circle -/
noncomputable def h16 : Hn := (.n .no (.n (.n .no (.n .no (.n .no (.n (.n .no (.n (.n .no .no (some ⟨[], [(11, .sc (.int .i64))], false⟩)) .no none) none) .no (some ⟨[5, 6], [], true⟩)) none) none) none) .no none) none)
def c16 (waits_0 : Sl) (from_1 : Int) (S : St) (k : Value → St → Prop) : Prop :=
  newW S (.cells [.int .i64 from_1] none false none) fun (b1 : Nat) (S1 : St) =>
    newW S1 (.cells [.slice none 0 0] none false none) fun (b2 : Nat) (S2 : St) =>
      newW S2 (.cells [.bool false] none false none) fun (b3 : Nat) (S3 : St) =>
        evS (storeV E0 S3 4 (.pointer (some ⟨b3, 0, none⟩)) (.bool false)) fun (S4 : St) =>
          joinW
            (fun (x1 : List Nat × PUnit) (S5 : St) =>
              evV tB (loadV E0 S5 4 (.pointer (some ⟨b3, 0, none⟩))) fun (t1 : Bool) =>
                ifW (!t1) (shutW x1.1 S5 fun (S6 : St) => k (.slice none 0 0) S6)
                  (evV tS (loadV E0 S5 37 (.pointer (some ⟨b2, 0, none⟩))) fun (s1 : Sl) => shutW x1.1 S5 fun (S7 : St) => k (.slice s1.a s1.len s1.cap) S7))
            fun (k1 : List Nat × PUnit → St → Prop) =>
            evV tI (loadV E0 S4 3 (.pointer (some ⟨b1, 0, none⟩))) fun (n1 : Int) =>
              evC E0 tA 45 [.slice waits_0.a waits_0.len waits_0.cap, .int .i64 n1] S4 fun (v1 : Value) (S8 : St) =>
                newW S8 DObj.deferred fun (b4 : Nat) (S9 : St) =>
                  ∀ (b5 : Nat) (S10 : St) (k2 : LoopState → Option Code → DObj),
                    b5 = S9.next →
                      S10 = (St.alloc S9 (k2 LoopState.ready none)).2 →
                        (LoopL fun (x2 : LoopState) (p1 : Option Code) => k2 x2 p1) →
                          (RoundH E0 b5 [Ty.sc (Sc.int .i64)] fun (n2 : Int) (S11 : St) (k3 : Bool → St → Prop) =>
                              hasW S11 b5 (k2 LoopState.ready none)
                                (hasW S11 b5 (k2 LoopState.ready none)
                                  (updW S11 b5 (k2 LoopState.busy none) fun (S12 : St) =>
                                    evV tS (loadV E0 S12 37 (.pointer (some ⟨b2, 0, none⟩))) fun (s2 : Sl) =>
                                      ifW (ltI 0 (↑s2.len : Int))
                                        (evV tI (loadV E0 S12 3 (.pointer (some ⟨b1, 0, none⟩))) fun (n3 : Int) =>
                                          ifW (eqI n2 n3)
                                            (evS (storeV E0 S12 4 (.pointer (some ⟨b3, 0, none⟩)) (.bool true)) fun (S13 : St) =>
                                              hasW S13 b5 (k2 LoopState.busy none) (updW S13 b5 (k2 LoopState.done (some (Code.exit 0))) fun (S14 : St) => k3 false S14))
                                            (evV tS (loadV E0 S12 37 (.pointer (some ⟨b2, 0, none⟩))) fun (s3 : Sl) =>
                                              newW S12 (.cells [.int .i64 n2] none false none) fun (b6 : Nat) (S15 : St) =>
                                                evP tS (appendD E0 S15 37 37 (.slice s3.a s3.len s3.cap) (.slice (some ⟨b6, 0, none⟩) 1 1)) fun (s4 : Sl) (S16 : St) =>
                                                  evS (storeV E0 S16 37 (.pointer (some ⟨b2, 0, none⟩)) (.slice s4.a s4.len s4.cap)) fun (S17 : St) =>
                                                    hasW S17 b5 (k2 LoopState.busy none) (updW S17 b5 (k2 LoopState.ready none) fun (S18 : St) => k3 true S18)))
                                        (evV tS (loadV E0 S12 37 (.pointer (some ⟨b2, 0, none⟩))) fun (s5 : Sl) =>
                                          newW S12 (.cells [.int .i64 n2] none false none) fun (b7 : Nat) (S19 : St) =>
                                            evP tS (appendD E0 S19 37 37 (.slice s5.a s5.len s5.cap) (.slice (some ⟨b7, 0, none⟩) 1 1)) fun (s6 : Sl) (S20 : St) =>
                                              evS (storeV E0 S20 37 (.pointer (some ⟨b2, 0, none⟩)) (.slice s6.a s6.len s6.cap)) fun (S21 : St) =>
                                                hasW S21 b5 (k2 LoopState.busy none) (updW S21 b5 (k2 LoopState.ready none) fun (S22 : St) => k3 true S22))))) →
                            WG E0 v1 b5 S10 fun (S23 : St) =>
                              hasW S23 b5 (k2 LoopState.ready none) (updW S23 b5 (k2 LoopState.exhausted none) fun (S24 : St) => k1 ([b4], PUnit.unit) S24) ∨
                                hasW S23 b5 (k2 LoopState.done (some (Code.exit 0))) (updW S23 b5 (k2 LoopState.exhausted (some (Code.exit 0))) fun (S25 : St) => k1 ([b4], PUnit.unit) S25) ∨ False
theorem w16 (waits_0 : Sl) (from_1 : Int) {S : St} {k : Value → St → Prop} (h : c16 waits_0 from_1 S k) : WC E0 16 [.slice waits_0.a waits_0.len waits_0.cap, .int .i64 from_1] S k :=
  WC_den h16 rfl (by kernel_rfl) (by kernel_rfl : Try.f16.body = some (bodyOf Try.f16)) (by rw [show (denF E0 h16 Try.f16 (bodyOf Try.f16) [.slice waits_0.a waits_0.len waits_0.cap, .int .i64 from_1] S k) = c16 waits_0 from_1 S k by kernel_rfl]; exact h)

/-! 45 wagonway/chase.along -/
noncomputable def h45 : Hn := .no
def c45 (waits_0 : Sl) (from_1 : Int) (S : St) (k : Value → St → Prop) : Prop :=
  newW S (.cells [.slice waits_0.a waits_0.len waits_0.cap] none false none) fun (b1 : Nat) (S1 : St) =>
    newW S1 (.cells [.int .i64 from_1] none false none) fun (b2 : Nat) (S2 : St) =>
      k (.func (Fn.func 65) #[] #[.pointer (some ⟨b2, 0, none⟩), .pointer (some ⟨b1, 0, none⟩)]) S2
theorem w45 (waits_0 : Sl) (from_1 : Int) {S : St} {k : Value → St → Prop} (h : c45 waits_0 from_1 S k) : WC E0 45 [.slice waits_0.a waits_0.len waits_0.cap, .int .i64 from_1] S k :=
  WC_den h45 rfl (by kernel_rfl) (by kernel_rfl : Try.f45.body = some (bodyOf Try.f45)) (by rw [show (denF E0 h45 Try.f45 (bodyOf Try.f45) [.slice waits_0.a waits_0.len waits_0.cap, .int .i64 from_1] S k) = c45 waits_0 from_1 S k by kernel_rfl]; exact h)

/-! 65 wagonway/chase.along$1 -/
noncomputable def h65 : Hn := (.n .no (.n .no (.n (.n .no .no (some ⟨[0, 2, 8], [(4, .sc (.int .i64)), (9, .sc (.int .i64))], false⟩)) .no none) none) none)
def c65 (yield_0 : Value) (c1 : Nat) (c2 : Nat) (S : St) (k : Value → St → Prop) : Prop :=
  evV tI (loadV E0 S 3 (.pointer (some ⟨c1, 0, none⟩))) fun (n1 : Int) =>
    evV tS (loadV E0 S 37 (.pointer (some ⟨c2, 0, none⟩))) fun (s1 : Sl) =>
      loopW
        (fun (k1 : Int × Int → St → Prop) (x1 : Int × Int) (S1 : St) =>
          ifW (ltI x1.2 (wrapI .i64 ((↑s1.len : Int) + 1)))
            (ifW (ltI x1.1 0) (k (.tuple #[]) S1)
              (evV tS (loadV E0 S1 37 (.pointer (some ⟨c2, 0, none⟩))) fun (s2 : Sl) =>
                ifW (leI (↑s2.len : Int) x1.1) (k (.tuple #[]) S1)
                  (evY E0 tB yield_0 [.int .i64 x1.1] S1 fun (t1 : Bool) (S2 : St) =>
                    ifW (!t1) (k (.tuple #[]) S2)
                      (evV tS (loadV E0 S2 37 (.pointer (some ⟨c2, 0, none⟩))) fun (s3 : Sl) =>
                        idxW s3.a s3.len x1.1 fun (b1 b2 : Nat) =>
                          evV tI (loadV E0 S2 3 (.pointer (some ⟨b1, b2 + Int.toNat x1.1 * 1, none⟩))) fun (n2 : Int) => k1 (n2, wrapI .i64 (x1.2 + 1)) S2))))
            (k (.tuple #[]) S1))
        (n1, 0) S
theorem w65 (yield_0 : Value) (c1 : Nat) (c2 : Nat) {S : St} {k : Value → St → Prop} (h : c65 yield_0 c1 c2 S k) : WC E0 65 [yield_0, .pointer (some ⟨c1, 0, none⟩), .pointer (some ⟨c2, 0, none⟩)] S k :=
  WC_den h65 rfl (by kernel_rfl) (by kernel_rfl : Try.f65.body = some (bodyOf Try.f65)) (by rw [show (denF E0 h65 Try.f65 (bodyOf Try.f65) [yield_0, .pointer (some ⟨c1, 0, none⟩), .pointer (some ⟨c2, 0, none⟩)] S k) = c65 yield_0 c1 c2 S k by kernel_rfl]; exact h)

/-! 18 wagonway/chase.Least -/
noncomputable def h18 : Hn := .no
def c18 (prios_0 : Sl) (robots_1 : Sl) (S : St) (k : Value → St → Prop) : Prop :=
  newW S (.cells [.slice prios_0.a prios_0.len prios_0.cap] none false none) fun (b1 : Nat) (S1 : St) =>
    ifW (eqI (↑robots_1.len : Int) 0) (k (.int .i64 (-1)) S1)
      (newW S1 (.cells [Value.nilFunc] none false none) fun (b2 : Nat) (S2 : St) =>
        evS (storeV E0 S2 88 (.pointer (some ⟨b2, 0, none⟩)) (.func (Fn.func 46) #[] #[.pointer (some ⟨b1, 0, none⟩)])) fun (S3 : St) =>
          evC E0 tI 47 [.slice robots_1.a robots_1.len robots_1.cap, .func (Fn.func 48) #[] #[.pointer (some ⟨b2, 0, none⟩)]] S3 fun (n1 : Int) (S4 : St) => k (.int .i64 n1) S4)
theorem w18 (prios_0 : Sl) (robots_1 : Sl) {S : St} {k : Value → St → Prop} (h : c18 prios_0 robots_1 S k) : WC E0 18 [.slice prios_0.a prios_0.len prios_0.cap, .slice robots_1.a robots_1.len robots_1.cap] S k :=
  WC_den h18 rfl (by kernel_rfl) (by kernel_rfl : Try.f18.body = some (bodyOf Try.f18)) (by rw [show (denF E0 h18 Try.f18 (bodyOf Try.f18) [.slice prios_0.a prios_0.len prios_0.cap, .slice robots_1.a robots_1.len robots_1.cap] S k) = c18 prios_0 robots_1 S k by kernel_rfl]; exact h)

/-! 46 wagonway/chase.Least$1 -/
noncomputable def h46 : Hn := .no
def c46 (r_0 : Int) (c1 : Nat) (S : St) (k : Value → St → Prop) : Prop :=
  ifW (ltI r_0 0) (k (.int .i64 0) S)
    (evV tS (loadV E0 S 37 (.pointer (some ⟨c1, 0, none⟩))) fun (s1 : Sl) =>
      ifW (leI (↑s1.len : Int) r_0) (k (.int .i64 0) S)
        (evV tS (loadV E0 S 37 (.pointer (some ⟨c1, 0, none⟩))) fun (s2 : Sl) =>
          idxW s2.a s2.len r_0 fun (b1 b2 : Nat) => evV tI (loadV E0 S 3 (.pointer (some ⟨b1, b2 + Int.toNat r_0 * 1, none⟩))) fun (n1 : Int) => k (.int .i64 n1) S))
theorem w46 (r_0 : Int) (c1 : Nat) {S : St} {k : Value → St → Prop} (h : c46 r_0 c1 S k) : WC E0 46 [.int .i64 r_0, .pointer (some ⟨c1, 0, none⟩)] S k :=
  WC_den h46 rfl (by kernel_rfl) (by kernel_rfl : Try.f46.body = some (bodyOf Try.f46)) (by rw [show (denF E0 h46 Try.f46 (bodyOf Try.f46) [.int .i64 r_0, .pointer (some ⟨c1, 0, none⟩)] S k) = c46 r_0 c1 S k by kernel_rfl]; exact h)

/-! 47 slices.MinFunc[[]int,int] -/
noncomputable def h47 : Hn := (.n .no (.n .no (.n .no (.n (.n .no (.n (.n .no .no (some ⟨[0, 1], [(5, .sc (.int .i64)), (6, .sc (.int .i64))], false⟩)) .no none) none) .no none) none) (some ⟨[0, 1], [], false⟩)) none)
def c47 (x_0 : Sl) (cmp_1 : Value) (S : St) (k : Value → St → Prop) : Prop :=
  joinW
    (fun (x1 : PUnit) (S1 : St) =>
      idxW x_0.a x_0.len 0 fun (b1 b2 : Nat) =>
        evV tI (loadV E0 S1 3 (.pointer (some ⟨b1, b2 + Int.toNat 0 * 1, none⟩))) fun (n1 : Int) =>
          loopW
            (fun (k1 : Int × Int → St → Prop) (x2 : Int × Int) (S2 : St) =>
              ifW (ltI x2.2 (↑x_0.len : Int))
                (idxW x_0.a x_0.len x2.2 fun (b3 b4 : Nat) =>
                  evV tI (loadV E0 S2 3 (.pointer (some ⟨b3, b4 + Int.toNat x2.2 * 1, none⟩))) fun (n2 : Int) =>
                    evY E0 tI cmp_1 [.int .i64 n2, .int .i64 x2.1] S2 fun (n3 : Int) (S3 : St) =>
                      ifW (ltI n3 0)
                        (idxW x_0.a x_0.len x2.2 fun (b5 b6 : Nat) =>
                          evV tI (loadV E0 S3 3 (.pointer (some ⟨b5, b6 + Int.toNat x2.2 * 1, none⟩))) fun (n4 : Int) => k1 (n4, wrapI .i64 (x2.2 + 1)) S3)
                        (k1 (x2.1, wrapI .i64 (x2.2 + 1)) S3))
                (k (.int .i64 x2.1) S2))
            (n1, 1) S1)
    fun (k2 : PUnit → St → Prop) => ifW (ltI (↑x_0.len : Int) 1) False (k2 PUnit.unit S)
theorem w47 (x_0 : Sl) (cmp_1 : Value) {S : St} {k : Value → St → Prop} (h : c47 x_0 cmp_1 S k) : WC E0 47 [.slice x_0.a x_0.len x_0.cap, cmp_1] S k :=
  WC_den h47 rfl (by kernel_rfl) (by kernel_rfl : Try.f47.body = some (bodyOf Try.f47)) (by rw [show (denF E0 h47 Try.f47 (bodyOf Try.f47) [.slice x_0.a x_0.len x_0.cap, cmp_1] S k) = c47 x_0 cmp_1 S k by kernel_rfl]; exact h)

/-! 48 wagonway/chase.Least$2 -/
noncomputable def h48 : Hn := (.n .no (.n (.n .no (.n (.n .no .no (some ⟨[0, 1, 6, 7], [(14, .sc .bool)], false⟩)) .no none) none) .no none) none)
def c48 (a_0 : Int) (b_1 : Int) (c2 : Nat) (S : St) (k : Value → St → Prop) : Prop :=
  evV tA (loadV E0 S 88 (.pointer (some ⟨c2, 0, none⟩))) fun (v1 : Value) =>
    evY E0 tI v1 [.int .i64 a_0] S fun (n1 : Int) (S1 : St) =>
      evV tA (loadV E0 S1 88 (.pointer (some ⟨c2, 0, none⟩))) fun (v2 : Value) =>
        evV tA (loadV E0 S 88 (.pointer (some ⟨c2, 0, none⟩))) fun (v3 : Value) =>
          sameV v3 v2
            (evY E0 tI v2 [.int .i64 b_1] S1 fun (n2 : Int) (S2 : St) =>
              joinW
                (fun (t1 : Bool) (S3 : St) =>
                  ifW t1 (k (.int .i64 (-1)) S3) (ifW (eqI n1 n2) (ifW (eqI a_0 b_1) (k (.int .i64 0) S3) (k (.int .i64 1) S3)) (k (.int .i64 1) S3)))
                fun (k1 : Bool → St → Prop) => ifW (ltI n1 n2) (k1 true S2) (ifW (eqI n1 n2) (k1 (ltI a_0 b_1) S2) (k1 false S2)))
theorem w48 (a_0 : Int) (b_1 : Int) (c2 : Nat) {S : St} {k : Value → St → Prop} (h : c48 a_0 b_1 c2 S k) : WC E0 48 [.int .i64 a_0, .int .i64 b_1, .pointer (some ⟨c2, 0, none⟩)] S k :=
  WC_den h48 rfl (by kernel_rfl) (by kernel_rfl : Try.f48.body = some (bodyOf Try.f48)) (by rw [show (denF E0 h48 Try.f48 (bodyOf Try.f48) [.int .i64 a_0, .int .i64 b_1, .pointer (some ⟨c2, 0, none⟩)] S k) = c48 a_0 b_1 c2 S k by kernel_rfl]; exact h)

/-! 13 wagonway/wagonwaylaw16.alive -/
noncomputable def h13 : Hn := .no
def c13  (S : St) (k : Value → St → Prop) : Prop :=
  evC E0 (TT.tup [Ty.agg G29, Ty.sc (Sc.int .i64)]) 40 [.int .i64 1, .int .i64 5, .agg #[.bool true, .int .i64 9, .int .i64 2]] S
    fun (x1 : (Int × Int × Int × Int × Int × Int × Int × Int × Sl) × Int) (S1 : St) =>
    newW S1
      (.cells
        [.int .i64 0, .int .i64 0, .int .u32 0, .int .u64 0, .int .i64 0, .int .i64 0, .int .i64 0, .int .i64 0,
          .slice none 0 0]
        none false none)
      fun (b1 : Nat) (S2 : St) =>
      evS (storeV E0 S2 30 (.pointer (some ⟨b1, 0, none⟩)) (sv G29 x1.1)) fun (S3 : St) =>
        evV (TT.one (Ty.agg G29)) (loadV E0 S3 30 (.pointer (some ⟨b1, 0, none⟩))) fun (x2 : Int × Int × Int × Int × Int × Int × Int × Int × Sl) =>
          evC E0 (TT.tup [Ty.sc (Sc.int .i64), Ty.agg G29, Ty.sc (Sc.int .i64)]) 14
            [.int .i64 2, .int .i64 3, .agg #[.bool true, .int .i64 4, .int .i64 1], sv G29 x2] S3
            fun (x3 : Int × (Int × Int × Int × Int × Int × Int × Int × Int × Sl) × Int) (S4 : St) =>
            newW S4
              (.cells
                [.int .i64 0, .int .i64 0, .int .u32 0, .int .u64 0, .int .i64 0, .int .i64 0, .int .i64 0, .int .i64 0,
                  .slice none 0 0]
                none false none)
              fun (b2 : Nat) (S5 : St) =>
              evS (storeV E0 S5 30 (.pointer (some ⟨b2, 0, none⟩)) (sv G29 x3.2.1)) fun (S6 : St) =>
                evV (TT.one (Ty.agg G29)) (loadV E0 S6 30 (.pointer (some ⟨b2, 0, none⟩))) fun (x4 : Int × Int × Int × Int × Int × Int × Int × Int × Sl) =>
                  evC E0 (TT.tup [Ty.sc (Sc.int .i64), Ty.agg G29, Ty.sc (Sc.int .i64)]) 14
                    [.int .i64 1, .int .i64 5, .agg #[.bool true, .int .i64 9, .int .i64 2], sv G29 x4] S6
                    fun (x5 : Int × (Int × Int × Int × Int × Int × Int × Int × Int × Sl) × Int) (S7 : St) =>
                    newW S7
                      (.cells
                        [.int .i64 0, .int .i64 0, .int .u32 0, .int .u64 0, .int .i64 0, .int .i64 0, .int .i64 0,
                          .int .i64 0, .slice none 0 0]
                        none false none)
                      fun (b3 : Nat) (S8 : St) =>
                      evS (storeV E0 S8 30 (.pointer (some ⟨b3, 0, none⟩)) (sv G29 x5.2.1)) fun (S9 : St) =>
                        ifW (eqI x1.2 0)
                          (evV (TT.one (Ty.agg G29)) (loadV E0 S9 30 (.pointer (some ⟨b1, 0, none⟩))) fun (x6 : Int × Int × Int × Int × Int × Int × Int × Int × Sl) =>
                            evC E0 tB 41
                              [sv G29 x6,
                                .agg
                                  #[.int .i64 6, .int .i64 9, .int .u32 0, .int .u64 0, .int .i64 5, .int .i64 64, .int .i64 1,
                                    .int .i64 1, .slice none 0 0]]
                              S9 fun (t1 : Bool) (S10 : St) =>
                              ifW t1
                                (ifW (eqI x3.2.2 0)
                                  (ifW (eqI x3.1 1)
                                    (evV (TT.one (Ty.agg G29)) (loadV E0 S10 30 (.pointer (some ⟨b2, 0, none⟩))) fun (x7 : Int × Int × Int × Int × Int × Int × Int × Int × Sl) =>
                                      evC E0 tB 41
                                        [sv G29 x7,
                                          .agg
                                            #[.int .i64 6, .int .i64 4, .int .u32 0, .int .u64 0, .int .i64 3, .int .i64 63, .int .i64 1,
                                              .int .i64 2, .slice none 0 0]]
                                        S10 fun (t2 : Bool) (S11 : St) =>
                                        ifW t2
                                          (ifW (eqI x5.2.2 0)
                                            (ifW (eqI x5.1 2)
                                              (evV (TT.one (Ty.agg G29)) (loadV E0 S11 30 (.pointer (some ⟨b3, 0, none⟩))) fun (x8 : Int × Int × Int × Int × Int × Int × Int × Int × Sl) =>
                                                evC E0 tB 41
                                                  [sv G29 x8,
                                                    .agg
                                                      #[.int .i64 7, .int .i64 0, .int .u32 0, .int .u64 0, .int .i64 0, .int .i64 0,
                                                        .int .i64 1, .int .i64 2, .slice none 0 0]]
                                                  S11 fun (t3 : Bool) (S12 : St) => k (.bool t3) S12)
                                              (k (.bool false) S11))
                                            (k (.bool false) S11))
                                          (k (.bool false) S11))
                                    (k (.bool false) S10))
                                  (k (.bool false) S10))
                                (k (.bool false) S10))
                          (k (.bool false) S9)
theorem w13  {S : St} {k : Value → St → Prop} (h : c13  S k) : WC E0 13 [] S k :=
  WC_den h13 rfl (by kernel_rfl) (by kernel_rfl : Try.f13.body = some (bodyOf Try.f13)) (by rw [show (denF E0 h13 Try.f13 (bodyOf Try.f13) [] S k) = c13  S k by kernel_rfl]; exact h)

/-! 14 wagonway/chase.Meet -/
noncomputable def h14 : Hn := (.n .no (.n (.n (.n .no .no (some ⟨[0, 1, 6, 7, 9], [(11, .sc .bool)], false⟩)) .no none) (.n .no (.n .no (.n .no (.n (.n .no .no (some ⟨[0, 1, 9], [(75, .sc .bool)], false⟩)) .no none) none) none) none) none) none)
def c14 (self_0 : Int) (prio_1 : Int) (w_2 : Bool × Int × Int) (m_3 : Int × Int × Int × Int × Int × Int × Int × Int × Sl) (S : St) (k : Value → St → Prop) : Prop :=
  newW S (.cells [.bool w_2.1, .int .i64 w_2.2.1, .int .i64 w_2.2.2] none false none) fun (b1 : Nat) (S1 : St) =>
    newW S1
      (.cells
        [.int .i64 m_3.1, .int .i64 m_3.2.1, .int .u32 m_3.2.2.1, .int .u64 m_3.2.2.2.1, .int .i64 m_3.2.2.2.2.1,
          .int .i64 m_3.2.2.2.2.2.1, .int .i64 m_3.2.2.2.2.2.2.1, .int .i64 m_3.2.2.2.2.2.2.2.1,
          .slice m_3.2.2.2.2.2.2.2.2.a m_3.2.2.2.2.2.2.2.2.len m_3.2.2.2.2.2.2.2.2.cap]
        none false none)
      fun (b2 : Nat) (S2 : St) =>
      newW S2
        (.cells
          [.int .i64 0, .int .i64 0, .int .u32 0, .int .u64 0, .int .i64 0, .int .i64 0, .int .i64 0, .int .i64 0,
            .slice none 0 0]
          none false none)
        fun (b3 : Nat) (S3 : St) =>
        joinW
          (fun (t1 : Bool) (S4 : St) =>
            ifW t1
              (evS
                (storeV E0 S4 30 (.pointer (some ⟨b3, 0, none⟩))
                  (.agg
                    #[.int .i64 0, .int .i64 0, .int .u32 0, .int .u64 0, .int .i64 0, .int .i64 0, .int .i64 0, .int .i64 0,
                      .slice none 0 0]))
                fun (S5 : St) =>
                evV (TT.one (Ty.agg G29)) (loadV E0 S5 30 (.pointer (some ⟨b3, 0, none⟩))) fun (x1 : Int × Int × Int × Int × Int × Int × Int × Int × Sl) =>
                  k (.tuple #[.int .i64 0, sv G29 x1, .int .i64 2]) S5)
              (evV (TT.one (Ty.agg G29)) (loadV E0 S4 30 (.pointer (some ⟨b2, 0, none⟩))) fun (x2 : Int × Int × Int × Int × Int × Int × Int × Int × Sl) =>
                evC E0 tB 44 [sv G29 x2] S4 fun (t2 : Bool) (S6 : St) =>
                  ifW (!t2)
                    (evS
                      (storeV E0 S6 30 (.pointer (some ⟨b3, 0, none⟩))
                        (.agg
                          #[.int .i64 0, .int .i64 0, .int .u32 0, .int .u64 0, .int .i64 0, .int .i64 0, .int .i64 0,
                            .int .i64 0, .slice none 0 0]))
                      fun (S7 : St) =>
                      evV (TT.one (Ty.agg G29)) (loadV E0 S7 30 (.pointer (some ⟨b3, 0, none⟩))) fun (x3 : Int × Int × Int × Int × Int × Int × Int × Int × Sl) =>
                        k (.tuple #[.int .i64 0, sv G29 x3, .int .i64 160]) S7)
                    (ptrW (some ⟨b2, 0, none⟩) fun (b4 b5 : Nat) =>
                      evV tI (loadV E0 S6 3 (.pointer (some ⟨b4, b5 + 6, none⟩))) fun (n1 : Int) =>
                        ifW (eqI n1 self_0)
                          (ptrW (some ⟨b2, 0, none⟩) fun (b6 b7 : Nat) =>
                            evV tI (loadV E0 S6 3 (.pointer (some ⟨b6, b7 + 7, none⟩))) fun (n2 : Int) =>
                              evS
                                (storeV E0 S6 30 (.pointer (some ⟨b3, 0, none⟩))
                                  (.agg
                                    #[.int .i64 7, .int .i64 0, .int .u32 0, .int .u64 0, .int .i64 0, .int .i64 0, .int .i64 self_0,
                                      .int .i64 n2, .slice none 0 0]))
                                fun (S8 : St) =>
                                evV (TT.one (Ty.agg G29)) (loadV E0 S8 30 (.pointer (some ⟨b3, 0, none⟩))) fun (x4 : Int × Int × Int × Int × Int × Int × Int × Int × Sl) =>
                                  k (.tuple #[.int .i64 2, sv G29 x4, .int .i64 0]) S8)
                          (ptrW (some ⟨b1, 0, none⟩) fun (b8 b9 : Nat) =>
                            evV tB (loadV E0 S6 4 (.pointer (some ⟨b8, b9 + 0, none⟩))) fun (t3 : Bool) =>
                              ifW (!t3)
                                (evS
                                  (storeV E0 S6 30 (.pointer (some ⟨b3, 0, none⟩))
                                    (.agg
                                      #[.int .i64 0, .int .i64 0, .int .u32 0, .int .u64 0, .int .i64 0, .int .i64 0, .int .i64 0,
                                        .int .i64 0, .slice none 0 0]))
                                  fun (S9 : St) =>
                                  evV (TT.one (Ty.agg G29)) (loadV E0 S9 30 (.pointer (some ⟨b3, 0, none⟩))) fun (x5 : Int × Int × Int × Int × Int × Int × Int × Int × Sl) =>
                                    k (.tuple #[.int .i64 0, sv G29 x5, .int .i64 0]) S9)
                                (ptrW (some ⟨b2, 0, none⟩) fun (b10 b11 : Nat) =>
                                  evV tI (loadV E0 S6 3 (.pointer (some ⟨b10, b11 + 5, none⟩))) fun (n3 : Int) =>
                                    ifW (eqI n3 1)
                                      (evS
                                        (storeV E0 S6 30 (.pointer (some ⟨b3, 0, none⟩))
                                          (.agg
                                            #[.int .i64 0, .int .i64 0, .int .u32 0, .int .u64 0, .int .i64 0, .int .i64 0, .int .i64 0,
                                              .int .i64 0, .slice none 0 0]))
                                        fun (S10 : St) =>
                                        evV (TT.one (Ty.agg G29)) (loadV E0 S10 30 (.pointer (some ⟨b3, 0, none⟩))) fun (x6 : Int × Int × Int × Int × Int × Int × Int × Int × Sl) =>
                                          k (.tuple #[.int .i64 0, sv G29 x6, .int .i64 0]) S10)
                                      (evV (TT.one (Ty.agg G29)) (loadV E0 S6 30 (.pointer (some ⟨b2, 0, none⟩))) fun (x7 : Int × Int × Int × Int × Int × Int × Int × Int × Sl) =>
                                        evS (storeV E0 S6 30 (.pointer (some ⟨b3, 0, none⟩)) (sv G29 x7)) fun (S11 : St) =>
                                          ptrW (some ⟨b3, 0, none⟩) fun (b12 b13 : Nat) =>
                                            evV tI (loadV E0 S11 3 (.pointer (some ⟨b12, b13 + 5, none⟩))) fun (n4 : Int) =>
                                              ptrW (some ⟨b3, 0, none⟩) fun (b14 b15 : Nat) =>
                                                evS (storeV E0 S11 3 (.pointer (some ⟨b14, b15 + 5, none⟩)) (.int .i64 (wrapI .i64 (n4 - 1)))) fun (S12 : St) =>
                                                  ptrW (some ⟨b1, 0, none⟩) fun (b16 b17 : Nat) =>
                                                    evV tI (loadV E0 S12 3 (.pointer (some ⟨b16, b17 + 1, none⟩))) fun (n5 : Int) =>
                                                      ptrW (some ⟨b3, 0, none⟩) fun (b18 b19 : Nat) =>
                                                        evS (storeV E0 S12 3 (.pointer (some ⟨b18, b19 + 1, none⟩)) (.int .i64 n5)) fun (S13 : St) =>
                                                          joinW
                                                            (fun (t4 : Bool) (S14 : St) =>
                                                              ifW t4
                                                                (ptrW (some ⟨b3, 0, none⟩) fun (b20 b21 : Nat) =>
                                                                  evS (storeV E0 S14 3 (.pointer (some ⟨b20, b21 + 4, none⟩)) (.int .i64 prio_1)) fun (S15 : St) =>
                                                                    ptrW (some ⟨b3, 0, none⟩) fun (b22 b23 : Nat) =>
                                                                      evS (storeV E0 S15 3 (.pointer (some ⟨b22, b23 + 7, none⟩)) (.int .i64 self_0)) fun (S16 : St) =>
                                                                        evV (TT.one (Ty.agg G29)) (loadV E0 S16 30 (.pointer (some ⟨b3, 0, none⟩)))
                                                                          fun (x8 : Int × Int × Int × Int × Int × Int × Int × Int × Sl) =>
                                                                          evS (storeV E0 S16 30 (.pointer (some ⟨b3, 0, none⟩)) (sv G29 x8)) fun (S17 : St) =>
                                                                            evV (TT.one (Ty.agg G29)) (loadV E0 S17 30 (.pointer (some ⟨b3, 0, none⟩)))
                                                                              fun (x9 : Int × Int × Int × Int × Int × Int × Int × Int × Sl) =>
                                                                              k (.tuple #[.int .i64 1, sv G29 x9, .int .i64 0]) S17)
                                                                (evV (TT.one (Ty.agg G29)) (loadV E0 S14 30 (.pointer (some ⟨b3, 0, none⟩)))
                                                                  fun (x10 : Int × Int × Int × Int × Int × Int × Int × Int × Sl) =>
                                                                  evS (storeV E0 S14 30 (.pointer (some ⟨b3, 0, none⟩)) (sv G29 x10)) fun (S18 : St) =>
                                                                    evV (TT.one (Ty.agg G29)) (loadV E0 S18 30 (.pointer (some ⟨b3, 0, none⟩)))
                                                                      fun (x11 : Int × Int × Int × Int × Int × Int × Int × Int × Sl) => k (.tuple #[.int .i64 1, sv G29 x11, .int .i64 0]) S18))
                                                            fun (k1 : Bool → St → Prop) =>
                                                            ptrW (some ⟨b2, 0, none⟩) fun (b24 b25 : Nat) =>
                                                              evV tI (loadV E0 S13 3 (.pointer (some ⟨b24, b25 + 4, none⟩))) fun (n6 : Int) =>
                                                                ifW (ltI prio_1 n6) (k1 true S13)
                                                                  (ptrW (some ⟨b2, 0, none⟩) fun (b26 b27 : Nat) =>
                                                                    evV tI (loadV E0 S13 3 (.pointer (some ⟨b26, b27 + 4, none⟩))) fun (n7 : Int) =>
                                                                      ifW (eqI prio_1 n7)
                                                                        (ptrW (some ⟨b2, 0, none⟩) fun (b28 b29 : Nat) =>
                                                                          evV tI (loadV E0 S13 3 (.pointer (some ⟨b28, b29 + 7, none⟩))) fun (n8 : Int) => k1 (ltI self_0 n8) S13)
                                                                        (k1 false S13))))))))
          fun (k2 : Bool → St → Prop) =>
          evC E0 tB 42 [.int .i64 self_0, .int .i64 prio_1] S3 fun (t5 : Bool) (S19 : St) =>
            ifW (!t5) (k2 true S19)
              (evV (TT.one (Ty.agg G22)) (loadV E0 S19 23 (.pointer (some ⟨b1, 0, none⟩))) fun (x12 : Bool × Int × Int) =>
                eqW E0 S19 23 (sv G22 x12) (.agg #[.bool false, .int .i64 0, .int .i64 0]) fun (t6 : Bool) =>
                  ifW (!t6)
                    (evV (TT.one (Ty.agg G22)) (loadV E0 S19 23 (.pointer (some ⟨b1, 0, none⟩))) fun (x13 : Bool × Int × Int) =>
                      evC E0 tB 43 [.int .i64 self_0, sv G22 x13] S19 fun (t7 : Bool) (S20 : St) => k2 (!t7) S20)
                    (k2 false S19))
theorem w14 (self_0 : Int) (prio_1 : Int) (w_2 : Bool × Int × Int) (m_3 : Int × Int × Int × Int × Int × Int × Int × Int × Sl) {S : St} {k : Value → St → Prop} (h : c14 self_0 prio_1 w_2 m_3 S k) : WC E0 14 [.int .i64 self_0, .int .i64 prio_1, sv G22 w_2, sv G29 m_3] S k :=
  WC_den h14 rfl (by kernel_rfl) (by kernel_rfl : Try.f14.body = some (bodyOf Try.f14)) (by rw [show (denF E0 h14 Try.f14 (bodyOf Try.f14) [.int .i64 self_0, .int .i64 prio_1, sv G22 w_2, sv G29 m_3] S k) = c14 self_0 prio_1 w_2 m_3 S k by kernel_rfl]; exact h)

/-! 40 wagonway/chase.Begin -/
noncomputable def h40 : Hn := .no
def c40 (self_0 : Int) (prio_1 : Int) (w_2 : Bool × Int × Int) (S : St) (k : Value → St → Prop) : Prop :=
  newW S (.cells [.bool w_2.1, .int .i64 w_2.2.1, .int .i64 w_2.2.2] none false none) fun (b1 : Nat) (S1 : St) =>
    newW S1
      (.cells
        [.int .i64 0, .int .i64 0, .int .u32 0, .int .u64 0, .int .i64 0, .int .i64 0, .int .i64 0, .int .i64 0,
          .slice none 0 0]
        none false none)
      fun (b2 : Nat) (S2 : St) =>
      evC E0 tB 42 [.int .i64 self_0, .int .i64 prio_1] S2 fun (t1 : Bool) (S3 : St) =>
        ifW (!t1)
          (evS
            (storeV E0 S3 30 (.pointer (some ⟨b2, 0, none⟩))
              (.agg
                #[.int .i64 0, .int .i64 0, .int .u32 0, .int .u64 0, .int .i64 0, .int .i64 0, .int .i64 0, .int .i64 0,
                  .slice none 0 0]))
            fun (S4 : St) =>
            evV (TT.one (Ty.agg G29)) (loadV E0 S4 30 (.pointer (some ⟨b2, 0, none⟩))) fun (x1 : Int × Int × Int × Int × Int × Int × Int × Int × Sl) =>
              k (.tuple #[sv G29 x1, .int .i64 2]) S4)
          (evV (TT.one (Ty.agg G22)) (loadV E0 S3 23 (.pointer (some ⟨b1, 0, none⟩))) fun (x2 : Bool × Int × Int) =>
            evC E0 tB 43 [.int .i64 self_0, sv G22 x2] S3 fun (t2 : Bool) (S5 : St) =>
              ifW (!t2)
                (evS
                  (storeV E0 S5 30 (.pointer (some ⟨b2, 0, none⟩))
                    (.agg
                      #[.int .i64 0, .int .i64 0, .int .u32 0, .int .u64 0, .int .i64 0, .int .i64 0, .int .i64 0,
                        .int .i64 0, .slice none 0 0]))
                  fun (S6 : St) =>
                  evV (TT.one (Ty.agg G29)) (loadV E0 S6 30 (.pointer (some ⟨b2, 0, none⟩))) fun (x3 : Int × Int × Int × Int × Int × Int × Int × Int × Sl) =>
                    k (.tuple #[sv G29 x3, .int .i64 2]) S6)
                (ptrW (some ⟨b1, 0, none⟩) fun (b3 b4 : Nat) =>
                  evV tI (loadV E0 S5 3 (.pointer (some ⟨b3, b4 + 1, none⟩))) fun (n1 : Int) =>
                    evS
                      (storeV E0 S5 30 (.pointer (some ⟨b2, 0, none⟩))
                        (.agg
                          #[.int .i64 6, .int .i64 n1, .int .u32 0, .int .u64 0, .int .i64 prio_1, .int .i64 64, .int .i64 self_0,
                            .int .i64 self_0, .slice none 0 0]))
                      fun (S7 : St) =>
                      evV (TT.one (Ty.agg G29)) (loadV E0 S7 30 (.pointer (some ⟨b2, 0, none⟩))) fun (x4 : Int × Int × Int × Int × Int × Int × Int × Int × Sl) =>
                        k (.tuple #[sv G29 x4, .int .i64 0]) S7))
theorem w40 (self_0 : Int) (prio_1 : Int) (w_2 : Bool × Int × Int) {S : St} {k : Value → St → Prop} (h : c40 self_0 prio_1 w_2 S k) : WC E0 40 [.int .i64 self_0, .int .i64 prio_1, sv G22 w_2] S k :=
  WC_den h40 rfl (by kernel_rfl) (by kernel_rfl : Try.f40.body = some (bodyOf Try.f40)) (by rw [show (denF E0 h40 Try.f40 (bodyOf Try.f40) [.int .i64 self_0, .int .i64 prio_1, sv G22 w_2] S k) = c40 self_0 prio_1 w_2 S k by kernel_rfl]; exact h)

/-! 42 wagonway/chase.may -/
noncomputable def h42 : Hn := .no
def c42 (self_0 : Int) (prio_1 : Int) (S : St) (k : Value → St → Prop) : Prop :=
  evC E0 tB 64 [.int .i64 self_0] S fun (t1 : Bool) (S1 : St) => ifW t1 (ifW (leI 0 prio_1) (k (.bool (leI prio_1 15)) S1) (k (.bool false) S1)) (k (.bool false) S1)
theorem w42 (self_0 : Int) (prio_1 : Int) {S : St} {k : Value → St → Prop} (h : c42 self_0 prio_1 S k) : WC E0 42 [.int .i64 self_0, .int .i64 prio_1] S k :=
  WC_den h42 rfl (by kernel_rfl) (by kernel_rfl : Try.f42.body = some (bodyOf Try.f42)) (by rw [show (denF E0 h42 Try.f42 (bodyOf Try.f42) [.int .i64 self_0, .int .i64 prio_1] S k) = c42 self_0 prio_1 S k by kernel_rfl]; exact h)

/-! 43 wagonway/chase.waits -/
noncomputable def h43 : Hn := .no
def c43 (self_0 : Int) (w_1 : Bool × Int × Int) (S : St) (k : Value → St → Prop) : Prop :=
  newW S (.cells [.bool w_1.1, .int .i64 w_1.2.1, .int .i64 w_1.2.2] none false none) fun (b1 : Nat) (S1 : St) =>
    ptrW (some ⟨b1, 0, none⟩) fun (b2 b3 : Nat) =>
      evV tB (loadV E0 S1 4 (.pointer (some ⟨b2, b3 + 0, none⟩))) fun (t1 : Bool) =>
        ifW t1
          (ptrW (some ⟨b1, 0, none⟩) fun (b4 b5 : Nat) =>
            evV tI (loadV E0 S1 3 (.pointer (some ⟨b4, b5 + 2, none⟩))) fun (n1 : Int) =>
              evC E0 tB 64 [.int .i64 n1] S1 fun (t2 : Bool) (S2 : St) =>
                ifW t2
                  (ptrW (some ⟨b1, 0, none⟩) fun (b6 b7 : Nat) =>
                    evV tI (loadV E0 S2 3 (.pointer (some ⟨b6, b7 + 2, none⟩))) fun (n2 : Int) =>
                      ifW (!eqI n2 self_0)
                        (ptrW (some ⟨b1, 0, none⟩) fun (b8 b9 : Nat) =>
                          evV tI (loadV E0 S2 3 (.pointer (some ⟨b8, b9 + 1, none⟩))) fun (n3 : Int) =>
                            ifW (leI 0 n3)
                              (ptrW (some ⟨b1, 0, none⟩) fun (b10 b11 : Nat) => evV tI (loadV E0 S2 3 (.pointer (some ⟨b10, b11 + 1, none⟩))) fun (n4 : Int) => k (.bool (ltI n4 1024)) S2)
                              (k (.bool false) S2))
                        (k (.bool false) S2))
                  (k (.bool false) S2))
          (k (.bool false) S1)
theorem w43 (self_0 : Int) (w_1 : Bool × Int × Int) {S : St} {k : Value → St → Prop} (h : c43 self_0 w_1 S k) : WC E0 43 [.int .i64 self_0, sv G22 w_1] S k :=
  WC_den h43 rfl (by kernel_rfl) (by kernel_rfl : Try.f43.body = some (bodyOf Try.f43)) (by rw [show (denF E0 h43 Try.f43 (bodyOf Try.f43) [.int .i64 self_0, sv G22 w_1] S k) = c43 self_0 w_1 S k by kernel_rfl]; exact h)

/-! 44 wagonway/chase.probe -/
noncomputable def h44 : Hn := .no
def c44 (m_0 : Int × Int × Int × Int × Int × Int × Int × Int × Sl) (S : St) (k : Value → St → Prop) : Prop :=
  newW S
    (.cells
      [.int .i64 m_0.1, .int .i64 m_0.2.1, .int .u32 m_0.2.2.1, .int .u64 m_0.2.2.2.1, .int .i64 m_0.2.2.2.2.1,
        .int .i64 m_0.2.2.2.2.2.1, .int .i64 m_0.2.2.2.2.2.2.1, .int .i64 m_0.2.2.2.2.2.2.2.1,
        .slice m_0.2.2.2.2.2.2.2.2.a m_0.2.2.2.2.2.2.2.2.len m_0.2.2.2.2.2.2.2.2.cap]
      none false none)
    fun (b1 : Nat) (S1 : St) =>
    ptrW (some ⟨b1, 0, none⟩) fun (b2 b3 : Nat) =>
      evV tI (loadV E0 S1 3 (.pointer (some ⟨b2, b3 + 0, none⟩))) fun (n1 : Int) =>
        ifW (eqI n1 6)
          (ptrW (some ⟨b1, 0, none⟩) fun (b4 b5 : Nat) =>
            evV tI (loadV E0 S1 3 (.pointer (some ⟨b4, b5 + 6, none⟩))) fun (n2 : Int) =>
              evC E0 tB 64 [.int .i64 n2] S1 fun (t1 : Bool) (S2 : St) =>
                ifW t1
                  (ptrW (some ⟨b1, 0, none⟩) fun (b6 b7 : Nat) =>
                    evV tI (loadV E0 S2 3 (.pointer (some ⟨b6, b7 + 7, none⟩))) fun (n3 : Int) =>
                      ptrW (some ⟨b1, 0, none⟩) fun (b8 b9 : Nat) =>
                        evV tI (loadV E0 S2 3 (.pointer (some ⟨b8, b9 + 4, none⟩))) fun (n4 : Int) =>
                          evC E0 tB 42 [.int .i64 n3, .int .i64 n4] S2 fun (t2 : Bool) (S3 : St) =>
                            ifW t2
                              (ptrW (some ⟨b1, 0, none⟩) fun (b10 b11 : Nat) =>
                                evV tI (loadV E0 S3 3 (.pointer (some ⟨b10, b11 + 5, none⟩))) fun (n5 : Int) =>
                                  ifW (leI 1 n5)
                                    (ptrW (some ⟨b1, 0, none⟩) fun (b12 b13 : Nat) =>
                                      evV tI (loadV E0 S3 3 (.pointer (some ⟨b12, b13 + 5, none⟩))) fun (n6 : Int) =>
                                        ifW (leI n6 64)
                                          (ptrW (some ⟨b1, 0, none⟩) fun (b14 b15 : Nat) =>
                                            evV tI (loadV E0 S3 3 (.pointer (some ⟨b14, b15 + 1, none⟩))) fun (n7 : Int) =>
                                              ifW (leI 0 n7)
                                                (ptrW (some ⟨b1, 0, none⟩) fun (b16 b17 : Nat) =>
                                                  evV tI (loadV E0 S3 3 (.pointer (some ⟨b16, b17 + 1, none⟩))) fun (n8 : Int) =>
                                                    ifW (ltI n8 1024)
                                                      (ptrW (some ⟨b1, 0, none⟩) fun (b18 b19 : Nat) =>
                                                        evV tU32 (loadV E0 S3 26 (.pointer (some ⟨b18, b19 + 2, none⟩))) fun (n9 : Int) =>
                                                          ifW (eqI n9 0)
                                                            (ptrW (some ⟨b1, 0, none⟩) fun (b20 b21 : Nat) =>
                                                              evV tU (loadV E0 S3 27 (.pointer (some ⟨b20, b21 + 3, none⟩))) fun (n10 : Int) =>
                                                                ifW (eqI n10 0)
                                                                  (ptrW (some ⟨b1, 0, none⟩) fun (b22 b23 : Nat) =>
                                                                    evV tS (loadV E0 S3 28 (.pointer (some ⟨b22, b23 + 8, none⟩))) fun (s1 : Sl) => k (.bool (eqI (↑s1.len : Int) 0)) S3)
                                                                  (k (.bool false) S3))
                                                            (k (.bool false) S3))
                                                      (k (.bool false) S3))
                                                (k (.bool false) S3))
                                          (k (.bool false) S3))
                                    (k (.bool false) S3))
                              (k (.bool false) S3))
                  (k (.bool false) S2))
          (k (.bool false) S1)
theorem w44 (m_0 : Int × Int × Int × Int × Int × Int × Int × Int × Sl) {S : St} {k : Value → St → Prop} (h : c44 m_0 S k) : WC E0 44 [sv G29 m_0] S k :=
  WC_den h44 rfl (by kernel_rfl) (by kernel_rfl : Try.f44.body = some (bodyOf Try.f44)) (by rw [show (denF E0 h44 Try.f44 (bodyOf Try.f44) [sv G29 m_0] S k) = c44 m_0 S k by kernel_rfl]; exact h)

/-! 41 wagonway/wagonwayref16.Same -/
noncomputable def h41 : Hn := .no
def c41 (a_0 : Int × Int × Int × Int × Int × Int × Int × Int × Sl) (b_1 : Int × Int × Int × Int × Int × Int × Int × Int × Sl) (S : St) (k : Value → St → Prop) : Prop :=
  newW S
    (.cells
      [.int .i64 a_0.1, .int .i64 a_0.2.1, .int .u32 a_0.2.2.1, .int .u64 a_0.2.2.2.1, .int .i64 a_0.2.2.2.2.1,
        .int .i64 a_0.2.2.2.2.2.1, .int .i64 a_0.2.2.2.2.2.2.1, .int .i64 a_0.2.2.2.2.2.2.2.1,
        .slice a_0.2.2.2.2.2.2.2.2.a a_0.2.2.2.2.2.2.2.2.len a_0.2.2.2.2.2.2.2.2.cap]
      none false none)
    fun (b1 : Nat) (S1 : St) =>
    newW S1
      (.cells
        [.int .i64 b_1.1, .int .i64 b_1.2.1, .int .u32 b_1.2.2.1, .int .u64 b_1.2.2.2.1, .int .i64 b_1.2.2.2.2.1,
          .int .i64 b_1.2.2.2.2.2.1, .int .i64 b_1.2.2.2.2.2.2.1, .int .i64 b_1.2.2.2.2.2.2.2.1,
          .slice b_1.2.2.2.2.2.2.2.2.a b_1.2.2.2.2.2.2.2.2.len b_1.2.2.2.2.2.2.2.2.cap]
        none false none)
      fun (b2 : Nat) (S2 : St) =>
      ptrW (some ⟨b1, 0, none⟩) fun (b3 b4 : Nat) =>
        evV tI (loadV E0 S2 3 (.pointer (some ⟨b3, b4 + 0, none⟩))) fun (n1 : Int) =>
          ptrW (some ⟨b2, 0, none⟩) fun (b5 b6 : Nat) =>
            evV tI (loadV E0 S2 3 (.pointer (some ⟨b5, b6 + 0, none⟩))) fun (n2 : Int) =>
              ifW (eqI n1 n2)
                (ptrW (some ⟨b1, 0, none⟩) fun (b7 b8 : Nat) =>
                  evV tI (loadV E0 S2 3 (.pointer (some ⟨b7, b8 + 1, none⟩))) fun (n3 : Int) =>
                    ptrW (some ⟨b2, 0, none⟩) fun (b9 b10 : Nat) =>
                      evV tI (loadV E0 S2 3 (.pointer (some ⟨b9, b10 + 1, none⟩))) fun (n4 : Int) =>
                        ifW (eqI n3 n4)
                          (ptrW (some ⟨b1, 0, none⟩) fun (b11 b12 : Nat) =>
                            evV tU32 (loadV E0 S2 26 (.pointer (some ⟨b11, b12 + 2, none⟩))) fun (n5 : Int) =>
                              ptrW (some ⟨b2, 0, none⟩) fun (b13 b14 : Nat) =>
                                evV tU32 (loadV E0 S2 26 (.pointer (some ⟨b13, b14 + 2, none⟩))) fun (n6 : Int) =>
                                  ifW (eqI n5 n6)
                                    (ptrW (some ⟨b1, 0, none⟩) fun (b15 b16 : Nat) =>
                                      evV tU (loadV E0 S2 27 (.pointer (some ⟨b15, b16 + 3, none⟩))) fun (n7 : Int) =>
                                        ptrW (some ⟨b2, 0, none⟩) fun (b17 b18 : Nat) =>
                                          evV tU (loadV E0 S2 27 (.pointer (some ⟨b17, b18 + 3, none⟩))) fun (n8 : Int) =>
                                            ifW (eqI n7 n8)
                                              (ptrW (some ⟨b1, 0, none⟩) fun (b19 b20 : Nat) =>
                                                evV tI (loadV E0 S2 3 (.pointer (some ⟨b19, b20 + 4, none⟩))) fun (n9 : Int) =>
                                                  ptrW (some ⟨b2, 0, none⟩) fun (b21 b22 : Nat) =>
                                                    evV tI (loadV E0 S2 3 (.pointer (some ⟨b21, b22 + 4, none⟩))) fun (n10 : Int) =>
                                                      ifW (eqI n9 n10)
                                                        (ptrW (some ⟨b1, 0, none⟩) fun (b23 b24 : Nat) =>
                                                          evV tI (loadV E0 S2 3 (.pointer (some ⟨b23, b24 + 5, none⟩))) fun (n11 : Int) =>
                                                            ptrW (some ⟨b2, 0, none⟩) fun (b25 b26 : Nat) =>
                                                              evV tI (loadV E0 S2 3 (.pointer (some ⟨b25, b26 + 5, none⟩))) fun (n12 : Int) =>
                                                                ifW (eqI n11 n12)
                                                                  (ptrW (some ⟨b1, 0, none⟩) fun (b27 b28 : Nat) =>
                                                                    evV tI (loadV E0 S2 3 (.pointer (some ⟨b27, b28 + 6, none⟩))) fun (n13 : Int) =>
                                                                      ptrW (some ⟨b2, 0, none⟩) fun (b29 b30 : Nat) =>
                                                                        evV tI (loadV E0 S2 3 (.pointer (some ⟨b29, b30 + 6, none⟩))) fun (n14 : Int) =>
                                                                          ifW (eqI n13 n14)
                                                                            (ptrW (some ⟨b1, 0, none⟩) fun (b31 b32 : Nat) =>
                                                                              evV tI (loadV E0 S2 3 (.pointer (some ⟨b31, b32 + 7, none⟩))) fun (n15 : Int) =>
                                                                                ptrW (some ⟨b2, 0, none⟩) fun (b33 b34 : Nat) =>
                                                                                  evV tI (loadV E0 S2 3 (.pointer (some ⟨b33, b34 + 7, none⟩))) fun (n16 : Int) =>
                                                                                    ifW (eqI n15 n16)
                                                                                      (ptrW (some ⟨b1, 0, none⟩) fun (b35 b36 : Nat) =>
                                                                                        evV tS (loadV E0 S2 28 (.pointer (some ⟨b35, b36 + 8, none⟩))) fun (s1 : Sl) =>
                                                                                          ifW (eqI (↑s1.len : Int) 0)
                                                                                            (ptrW (some ⟨b2, 0, none⟩) fun (b37 b38 : Nat) =>
                                                                                              evV tS (loadV E0 S2 28 (.pointer (some ⟨b37, b38 + 8, none⟩))) fun (s2 : Sl) =>
                                                                                                k (.bool (eqI (↑s2.len : Int) 0)) S2)
                                                                                            (k (.bool false) S2))
                                                                                      (k (.bool false) S2))
                                                                            (k (.bool false) S2))
                                                                  (k (.bool false) S2))
                                                        (k (.bool false) S2))
                                              (k (.bool false) S2))
                                    (k (.bool false) S2))
                          (k (.bool false) S2))
                (k (.bool false) S2)
theorem w41 (a_0 : Int × Int × Int × Int × Int × Int × Int × Int × Sl) (b_1 : Int × Int × Int × Int × Int × Int × Int × Int × Sl) {S : St} {k : Value → St → Prop} (h : c41 a_0 b_1 S k) : WC E0 41 [sv G29 a_0, sv G29 b_1] S k :=
  WC_den h41 rfl (by kernel_rfl) (by kernel_rfl : Try.f41.body = some (bodyOf Try.f41)) (by rw [show (denF E0 h41 Try.f41 (bodyOf Try.f41) [sv G29 a_0, sv G29 b_1] S k) = c41 a_0 b_1 S k by kernel_rfl]; exact h)

/-! 64 wagonway/chase.robot -/
noncomputable def h64 : Hn := .no
def c64 (n_0 : Int) (S : St) (k : Value → St → Prop) : Prop :=
  ifW (leI 0 n_0) (k (.bool (ltI n_0 64)) S) (k (.bool false) S)
theorem w64 (n_0 : Int) {S : St} {k : Value → St → Prop} (h : c64 n_0 S k) : WC E0 64 [.int .i64 n_0] S k :=
  WC_den h64 rfl (by kernel_rfl) (by kernel_rfl : Try.f64.body = some (bodyOf Try.f64)) (by rw [show (denF E0 h64 Try.f64 (bodyOf Try.f64) [.int .i64 n_0] S k) = c64 n_0 S k by kernel_rfl]; exact h)

/-! 23 wagonway/wagonwaylaw16.chased -/
noncomputable def h23 : Hn := (.n .no (.n .no (.n .no (.n .no (.n .no (.n (.n .no (.n (.n .no .no (some ⟨[1, 3, 9, 10], [(12, .sc (.int .i64)), (13, .sc (.int .i64))], false⟩)) .no none) none) .no none) none) none) none) none) none)
def c23 (waits_0 : Sl) (prios_1 : Sl) (from_2 : Int) (S : St) (k : Value → St → Prop) : Prop :=
  newW S (.cells [.slice waits_0.a waits_0.len waits_0.cap] none false none) fun (b1 : Nat) (S1 : St) =>
    newW S1
      (.cells
        [.int .i64 0, .int .i64 0, .int .u32 0, .int .u64 0, .int .i64 0, .int .i64 0, .int .i64 0, .int .i64 0,
          .slice none 0 0]
        none false none)
      fun (b2 : Nat) (S2 : St) =>
      idxW prios_1.a prios_1.len from_2 fun (b3 b4 : Nat) =>
        evV tI (loadV E0 S2 3 (.pointer (some ⟨b3, b4 + Int.toNat from_2 * 1, none⟩))) fun (n1 : Int) =>
          evY E0 (TT.one (Ty.agg G22)) (.func (Fn.func 51) #[] #[.pointer (some ⟨b1, 0, none⟩)]) [.int .i64 from_2] S2 fun (x1 : Bool × Int × Int) (S3 : St) =>
            evV tI (loadV E0 S3 3 (.pointer (some ⟨b3, b4 + Int.toNat from_2 * 1, none⟩))) fun (n2 : Int) =>
              sameV (.int .i64 n2) (.int .i64 n1)
                (evC E0 (TT.tup [Ty.agg G29, Ty.sc (Sc.int .i64)]) 40 [.int .i64 from_2, .int .i64 n1, sv G22 x1] S3
                  fun (x2 : (Int × Int × Int × Int × Int × Int × Int × Int × Sl) × Int) (S4 : St) =>
                  evS (storeV E0 S4 30 (.pointer (some ⟨b2, 0, none⟩)) (sv G29 x2.1)) fun (S5 : St) =>
                    ifW (!eqI x2.2 0) (k (.tuple #[.int .i64 0, .int .i64 0, .int .i64 0]) S5)
                      (evV tS (loadV E0 S5 37 (.pointer (some ⟨b1, 0, none⟩))) fun (s1 : Sl) =>
                        idxW s1.a s1.len from_2 fun (b5 b6 : Nat) =>
                          evV tI (loadV E0 S5 3 (.pointer (some ⟨b5, b6 + Int.toNat from_2 * 1, none⟩))) fun (n3 : Int) =>
                            loopW
                              (fun (k1 : Int × Int → St → Prop) (x3 : Int × Int) (S6 : St) =>
                                ifW (leI x3.2 100)
                                  (newW S6
                                    (.cells
                                      [.int .i64 0, .int .i64 0, .int .u32 0, .int .u64 0, .int .i64 0, .int .i64 0, .int .i64 0,
                                        .int .i64 0, .slice none 0 0]
                                      none false none)
                                    fun (b7 : Nat) (S7 : St) =>
                                    idxW prios_1.a prios_1.len x3.1 fun (b8 b9 : Nat) =>
                                      evV tI (loadV E0 S7 3 (.pointer (some ⟨b8, b9 + Int.toNat x3.1 * 1, none⟩))) fun (n4 : Int) =>
                                        evY E0 (TT.one (Ty.agg G22)) (.func (Fn.func 51) #[] #[.pointer (some ⟨b1, 0, none⟩)]) [.int .i64 x3.1] S7
                                          fun (x4 : Bool × Int × Int) (S8 : St) =>
                                          evV tI (loadV E0 S8 3 (.pointer (some ⟨b8, b9 + Int.toNat x3.1 * 1, none⟩))) fun (n5 : Int) =>
                                            sameV (.int .i64 n5) (.int .i64 n4)
                                              (evV (TT.one (Ty.agg G29)) (loadV E0 S8 30 (.pointer (some ⟨b2, 0, none⟩))) fun (x5 : Int × Int × Int × Int × Int × Int × Int × Int × Sl) =>
                                                evV (TT.one (Ty.agg G29)) (loadV E0 S7 30 (.pointer (some ⟨b2, 0, none⟩))) fun (x6 : Int × Int × Int × Int × Int × Int × Int × Int × Sl) =>
                                                  sameV (sv G29 x6) (sv G29 x5)
                                                    (evC E0 (TT.tup [Ty.sc (Sc.int .i64), Ty.agg G29, Ty.sc (Sc.int .i64)]) 14 [.int .i64 x3.1, .int .i64 n4, sv G22 x4, sv G29 x5] S8
                                                      fun (x7 : Int × (Int × Int × Int × Int × Int × Int × Int × Int × Sl) × Int) (S9 : St) =>
                                                      evS (storeV E0 S9 30 (.pointer (some ⟨b7, 0, none⟩)) (sv G29 x7.2.1)) fun (S10 : St) =>
                                                        ifW (!eqI x7.2.2 0) (k (.tuple #[.int .i64 (-1), .int .i64 0, .int .i64 x3.2]) S10)
                                                          (ifW (!eqI x7.1 1)
                                                            (ptrW (some ⟨b7, 0, none⟩) fun (b10 b11 : Nat) =>
                                                              evV tI (loadV E0 S10 3 (.pointer (some ⟨b10, b11 + 7, none⟩))) fun (n6 : Int) =>
                                                                k (.tuple #[.int .i64 x7.1, .int .i64 n6, .int .i64 x3.2]) S10)
                                                            (evV (TT.one (Ty.agg G29)) (loadV E0 S10 30 (.pointer (some ⟨b7, 0, none⟩))) fun (x8 : Int × Int × Int × Int × Int × Int × Int × Int × Sl) =>
                                                              evS (storeV E0 S10 30 (.pointer (some ⟨b2, 0, none⟩)) (sv G29 x8)) fun (S11 : St) =>
                                                                evV tS (loadV E0 S11 37 (.pointer (some ⟨b1, 0, none⟩))) fun (s2 : Sl) =>
                                                                  idxW s2.a s2.len x3.1 fun (b12 b13 : Nat) =>
                                                                    evV tI (loadV E0 S11 3 (.pointer (some ⟨b12, b13 + Int.toNat x3.1 * 1, none⟩))) fun (n7 : Int) =>
                                                                      k1 (n7, wrapI .i64 (x3.2 + 1)) S11)))))
                                  (k (.tuple #[.int .i64 (-1), .int .i64 0, .int .i64 100]) S6))
                              (n3, 1) S5))
theorem w23 (waits_0 : Sl) (prios_1 : Sl) (from_2 : Int) {S : St} {k : Value → St → Prop} (h : c23 waits_0 prios_1 from_2 S k) : WC E0 23 [.slice waits_0.a waits_0.len waits_0.cap, .slice prios_1.a prios_1.len prios_1.cap, .int .i64 from_2] S k :=
  WC_den h23 rfl (by kernel_rfl) (by kernel_rfl : Try.f23.body = some (bodyOf Try.f23)) (by rw [show (denF E0 h23 Try.f23 (bodyOf Try.f23) [.slice waits_0.a waits_0.len waits_0.cap, .slice prios_1.a prios_1.len prios_1.cap, .int .i64 from_2] S k) = c23 waits_0 prios_1 from_2 S k by kernel_rfl]; exact h)

/-! 51 wagonway/wagonwaylaw16.chased$1 -/
noncomputable def h51 : Hn := .no
def c51 (r_0 : Int) (c1 : Nat) (S : St) (k : Value → St → Prop) : Prop :=
  newW S (.cells [.bool false, .int .i64 0, .int .i64 0] none false none) fun (b1 : Nat) (S1 : St) =>
    ifW (ltI r_0 0)
      (evS (storeV E0 S1 23 (.pointer (some ⟨b1, 0, none⟩)) (.agg #[.bool false, .int .i64 0, .int .i64 0])) fun (S2 : St) =>
        evV (TT.one (Ty.agg G22)) (loadV E0 S2 23 (.pointer (some ⟨b1, 0, none⟩))) fun (x1 : Bool × Int × Int) => k (sv G22 x1) S2)
      (evV tS (loadV E0 S1 37 (.pointer (some ⟨c1, 0, none⟩))) fun (s1 : Sl) =>
        ifW (leI (↑s1.len : Int) r_0)
          (evS (storeV E0 S1 23 (.pointer (some ⟨b1, 0, none⟩)) (.agg #[.bool false, .int .i64 0, .int .i64 0])) fun (S3 : St) =>
            evV (TT.one (Ty.agg G22)) (loadV E0 S3 23 (.pointer (some ⟨b1, 0, none⟩))) fun (x2 : Bool × Int × Int) => k (sv G22 x2) S3)
          (evV tS (loadV E0 S1 37 (.pointer (some ⟨c1, 0, none⟩))) fun (s2 : Sl) =>
            idxW s2.a s2.len r_0 fun (b2 b3 : Nat) =>
              evV tI (loadV E0 S1 3 (.pointer (some ⟨b2, b3 + Int.toNat r_0 * 1, none⟩))) fun (n1 : Int) =>
                ifW (ltI n1 0)
                  (evS (storeV E0 S1 23 (.pointer (some ⟨b1, 0, none⟩)) (.agg #[.bool false, .int .i64 0, .int .i64 0])) fun (S4 : St) =>
                    evV (TT.one (Ty.agg G22)) (loadV E0 S4 23 (.pointer (some ⟨b1, 0, none⟩))) fun (x3 : Bool × Int × Int) => k (sv G22 x3) S4)
                  (evV tS (loadV E0 S1 37 (.pointer (some ⟨c1, 0, none⟩))) fun (s3 : Sl) =>
                    idxW s3.a s3.len r_0 fun (b4 b5 : Nat) =>
                      evV tI (loadV E0 S1 3 (.pointer (some ⟨b4, b5 + Int.toNat r_0 * 1, none⟩))) fun (n2 : Int) =>
                        evV tS (loadV E0 S1 37 (.pointer (some ⟨c1, 0, none⟩))) fun (s4 : Sl) =>
                          ifW (leI (↑s4.len : Int) n2)
                            (evS (storeV E0 S1 23 (.pointer (some ⟨b1, 0, none⟩)) (.agg #[.bool false, .int .i64 0, .int .i64 0])) fun (S5 : St) =>
                              evV (TT.one (Ty.agg G22)) (loadV E0 S5 23 (.pointer (some ⟨b1, 0, none⟩))) fun (x4 : Bool × Int × Int) => k (sv G22 x4) S5)
                            (evV tS (loadV E0 S1 37 (.pointer (some ⟨c1, 0, none⟩))) fun (s5 : Sl) =>
                              idxW s5.a s5.len r_0 fun (b6 b7 : Nat) =>
                                evV tI (loadV E0 S1 3 (.pointer (some ⟨b6, b7 + Int.toNat r_0 * 1, none⟩))) fun (n3 : Int) =>
                                  ifW (eqI n3 r_0)
                                    (evS (storeV E0 S1 23 (.pointer (some ⟨b1, 0, none⟩)) (.agg #[.bool false, .int .i64 0, .int .i64 0])) fun (S6 : St) =>
                                      evV (TT.one (Ty.agg G22)) (loadV E0 S6 23 (.pointer (some ⟨b1, 0, none⟩))) fun (x5 : Bool × Int × Int) => k (sv G22 x5) S6)
                                    (evV tS (loadV E0 S1 37 (.pointer (some ⟨c1, 0, none⟩))) fun (s6 : Sl) =>
                                      idxW s6.a s6.len r_0 fun (b8 b9 : Nat) =>
                                        evV tI (loadV E0 S1 3 (.pointer (some ⟨b8, b9 + Int.toNat r_0 * 1, none⟩))) fun (n4 : Int) =>
                                          evS (storeV E0 S1 23 (.pointer (some ⟨b1, 0, none⟩)) (.agg #[.bool true, .int .i64 r_0, .int .i64 n4])) fun (S7 : St) =>
                                            evV (TT.one (Ty.agg G22)) (loadV E0 S7 23 (.pointer (some ⟨b1, 0, none⟩))) fun (x6 : Bool × Int × Int) => k (sv G22 x6) S7)))))
theorem w51 (r_0 : Int) (c1 : Nat) {S : St} {k : Value → St → Prop} (h : c51 r_0 c1 S k) : WC E0 51 [.int .i64 r_0, .pointer (some ⟨c1, 0, none⟩)] S k :=
  WC_den h51 rfl (by kernel_rfl) (by kernel_rfl : Try.f51.body = some (bodyOf Try.f51)) (by rw [show (denF E0 h51 Try.f51 (bodyOf Try.f51) [.int .i64 r_0, .pointer (some ⟨c1, 0, none⟩)] S k) = c51 r_0 c1 S k by kernel_rfl]; exact h)

/-! 7 wagonway/wagonwaylaw16.ChaseFinds -/
noncomputable def h7 : Hn := (.n .no (.n .no (.n .no (.n .no (.n (.n .no (.n (.n (.n .no (.n .no (.n (.n (.n .no (.n .no (.n .no .no (some ⟨[0, 1, 5, 6, 7, 8, 30, 31], [(9, .sc (.int .i64))], false⟩)) none) none) .no none) .no none) none) none) .no (some ⟨[0, 1, 5, 30], [(6, .sc .sl), (7, .sc .sl), (31, .sc (.int .i64))], false⟩)) .no none) none) .no none) none) none) none) none)
def c7 (l_0 : Sl) (from_1 : Int) (S : St) (k : Value → St → Prop) : Prop :=
  evC E0 tB 13 [] S fun (t1 : Bool) (S1 : St) =>
    ifW (ltI (↑l_0.len : Int) 1) (k (.bool t1) S1)
      (ifW (ltI 64 (↑l_0.len : Int)) (k (.bool t1) S1)
        (ifW (!t1) (k (.bool t1) S1)
          (loopW
            (fun (k1 : Sl × Sl × Int → St → Prop) (x1 : Sl × Sl × Int) (S2 : St) =>
              ifW (ltI x1.2.2 (↑l_0.len : Int))
                (idxW l_0.a l_0.len x1.2.2 fun (b1 b2 : Nat) =>
                  idxW (some ⟨b1, b2 + Int.toNat x1.2.2 * 2, none⟩) 2 0 fun (b3 b4 : Nat) =>
                    evV (TT.one (Ty.sc (Sc.int .i8))) (loadV E0 S2 48 (.pointer (some ⟨b3, b4 + Int.toNat 0 * 1, none⟩))) fun (n1 : Int) =>
                      joinW
                        (fun (n2 : Int) (S3 : St) =>
                          newW S3 (.cells [.int .i64 n2] none false none) fun (b5 : Nat) (S4 : St) =>
                            evP tS (appendD E0 S4 37 37 (.slice x1.1.a x1.1.len x1.1.cap) (.slice (some ⟨b5, 0, none⟩) 1 1)) fun (s1 : Sl) (S5 : St) =>
                              idxW l_0.a l_0.len x1.2.2 fun (b6 b7 : Nat) =>
                                idxW (some ⟨b6, b7 + Int.toNat x1.2.2 * 2, none⟩) 2 1 fun (b8 b9 : Nat) =>
                                  evV (TT.one (Ty.sc (Sc.int .i8))) (loadV E0 S5 48 (.pointer (some ⟨b8, b9 + Int.toNat 1 * 1, none⟩))) fun (n3 : Int) =>
                                    newW S5 (.cells [.int .i64 (wrapI .i64 (andI .i8 n3 15))] none false none) fun (b10 : Nat) (S6 : St) =>
                                      evP tS (appendD E0 S6 37 37 (.slice x1.2.1.a x1.2.1.len x1.2.1.cap) (.slice (some ⟨b10, 0, none⟩) 1 1)) fun (s2 : Sl) (S7 : St) =>
                                        k1 ({ a := s1.a, len := s1.len, cap := s1.cap }, { a := s2.a, len := s2.len, cap := s2.cap }, wrapI .i64 (x1.2.2 + 1)) S7)
                        fun (k2 : Int → St → Prop) =>
                        ifW (ltI (wrapI .i64 n1) 0) (k2 (-1) S2)
                          (ifW (leI (↑l_0.len : Int) (wrapI .i64 n1)) (k2 (-1) S2) (ifW (eqI (wrapI .i64 n1) x1.2.2) (k2 (-1) S2) (k2 (wrapI .i64 n1) S2))))
                (needW (!decide ((↑l_0.len : Int) = 0))
                  (evC E0 (TT.tup [Ty.sc (Sc.int .i64), Ty.sc (Sc.int .i64), Ty.sc (Sc.int .i64)]) 23
                    [.slice x1.1.a x1.1.len x1.1.cap, .slice x1.2.1.a x1.2.1.len x1.2.1.cap, .int .i64 (Int.tmod (wrapI .i64 from_1) (↑l_0.len : Int))] S2
                    fun (x2 : Int × Int × Int) (S8 : St) =>
                    evC E0 tS 16 [.slice x1.1.a x1.1.len x1.1.cap, .int .i64 (Int.tmod (wrapI .i64 from_1) (↑l_0.len : Int))] S8 fun (s3 : Sl) (S9 : St) =>
                      ifW (eqI x2.2.2 0)
                        (ifW t1
                          (idxW x1.1.a x1.1.len (Int.tmod (wrapI .i64 from_1) (↑l_0.len : Int)) fun (b11 b12 : Nat) =>
                            evV tI (loadV E0 S9 3 (.pointer (some ⟨b11, b12 + Int.toNat (Int.tmod (wrapI .i64 from_1) (↑l_0.len : Int)) * 1, none⟩))) fun (n4 : Int) =>
                              ifW (ltI n4 0) (k (.bool (eqI (↑s3.len : Int) 0)) S9) (k (.bool false) S9))
                          (k (.bool false) S9))
                        (ifW (ltI 64 x2.2.2) (k (.bool false) S9)
                          (eqW E0 S9 4 (.bool (eqI x2.1 2)) (.bool (ltI 0 (↑s3.len : Int))) fun (t2 : Bool) =>
                            ifW (!t2) (k (.bool false) S9)
                              (ifW t1
                                (ifW (!eqI x2.1 2)
                                  (ifW (eqI x2.1 0) (k (.bool true) S9)
                                    (evC E0 tI 18 [.slice x1.2.1.a x1.2.1.len x1.2.1.cap, .slice s3.a s3.len s3.cap] S9 fun (n5 : Int) (S10 : St) =>
                                      ifW (eqI x2.2.1 n5) (k (.bool (eqI x2.2.2 (↑s3.len : Int))) S10) (k (.bool false) S10)))
                                  (evC E0 tI 18 [.slice x1.2.1.a x1.2.1.len x1.2.1.cap, .slice s3.a s3.len s3.cap] S9 fun (n6 : Int) (S11 : St) =>
                                    ifW (eqI x2.2.1 n6) (k (.bool (eqI x2.2.2 (↑s3.len : Int))) S11) (k (.bool false) S11)))
                                (k (.bool false) S9)))))))
            ({ a := none, len := 0, cap := 0 }, { a := none, len := 0, cap := 0 }, 0) S1)))
theorem w7 (l_0 : Sl) (from_1 : Int) {S : St} {k : Value → St → Prop} (h : c7 l_0 from_1 S k) : WC E0 7 [.slice l_0.a l_0.len l_0.cap, .int .u8 from_1] S k :=
  WC_den h7 rfl (by kernel_rfl) (by kernel_rfl : Try.f7.body = some (bodyOf Try.f7)) (by rw [show (denF E0 h7 Try.f7 (bodyOf Try.f7) [.slice l_0.a l_0.len l_0.cap, .int .u8 from_1] S k) = c7 l_0 from_1 S k by kernel_rfl]; exact h)

end
end Go.Proofs.Ytcookjolkhcjhaa
