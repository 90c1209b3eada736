/- Parts of the proof, put together. -/
import Derived.Test.YtcdignblakejoaaDC
import Derived.Test.YtcdignblakejoaaChecked
import Derived.KernelRfl
import Derived.Test.YtcdignblakejoaaDG
import Derived.Test.YtcdignblakejoaaDE
/-
  D over this seat's program: what D is told of its types and functions (printed by GenEnv.lean).
-/
namespace Go.Proofs.Ytcdignblakejoaa.DEnv
open Go.Proofs.Ytcdignblakejoaa.D
abbrev lf {α : Type} (v : α) : PM α := .node .leaf (some v) .leaf
noncomputable def i0 : DInfo := ⟨Try.t0.desc, 1, 0, Try.t0.zero, false, false, true⟩
noncomputable def i1 : DInfo := ⟨Try.t1.desc, 1, 8, Try.t1.zero, false, false, true⟩
noncomputable def i2 : DInfo := ⟨Try.t2.desc, 1, 8, Try.t2.zero, true, false, true⟩
noncomputable def i3 : DInfo := ⟨Try.t3.desc, 1, 8, Try.t3.zero, true, false, true⟩
noncomputable def i4 : DInfo := ⟨Try.t4.desc, 1, 1, Try.t4.zero, true, false, true⟩
noncomputable def i5 : DInfo := ⟨Try.t5.desc, 1, 1, Try.t5.zero, true, false, true⟩
noncomputable def i6 : DInfo := ⟨Try.t5.desc, 1, 1, Try.t6.zero, true, false, true⟩
noncomputable def i7 : DInfo := ⟨Try.t7.desc, 4, 24, Try.t7.zero, true, false, true⟩
noncomputable def i8 : DInfo := ⟨Try.t7.desc, 4, 24, Try.t8.zero, true, false, true⟩
noncomputable def i9 : DInfo := ⟨Try.t9.desc, 1, 16, Try.t9.zero, true, false, true⟩
noncomputable def i10 : DInfo := ⟨Try.t9.desc, 1, 16, Try.t10.zero, true, false, true⟩
noncomputable def i11 : DInfo := ⟨Try.t9.desc, 1, 16, Try.t11.zero, true, false, true⟩
noncomputable def i12 : DInfo := ⟨Try.t12.desc, 1, 8, Try.t12.zero, true, false, true⟩
noncomputable def i13 : DInfo := ⟨Try.t13.desc, 2, 24, Try.t13.zero, true, false, false⟩
noncomputable def i14 : DInfo := ⟨Try.t13.desc, 2, 24, Try.t14.zero, true, false, false⟩
noncomputable def i15 : DInfo := ⟨Try.t15.desc, 1, 8, Try.t15.zero, true, false, true⟩
noncomputable def i16 : DInfo := ⟨Try.t16.desc, 1, 8, Try.t16.zero, true, false, true⟩
noncomputable def i17 : DInfo := ⟨Try.t17.desc, 1, 8, Try.t17.zero, true, false, true⟩
noncomputable def i18 : DInfo := ⟨Try.t18.desc, 1, 8, Try.t18.zero, true, false, false⟩
noncomputable def i19 : DInfo := ⟨Try.t18.desc, 1, 8, Try.t19.zero, true, false, false⟩
noncomputable def i20 : DInfo := ⟨Try.t20.desc, 1, 16, Try.t20.zero, true, false, true⟩
noncomputable def i21 : DInfo := ⟨Try.t21.desc, 1, 4, Try.t21.zero, true, false, true⟩
noncomputable def i22 : DInfo := ⟨Try.t22.desc, 1, 24, Try.t22.zero, false, false, true⟩
noncomputable def i23 : DInfo := ⟨Try.t23.desc, 1, 8, Try.t23.zero, true, false, true⟩
noncomputable def i24 : DInfo := ⟨Try.t3.desc, 1, 8, Try.t24.zero, true, false, true⟩
noncomputable def i25 : DInfo := ⟨Try.t25.desc, 1, 0, Try.t25.zero, false, false, true⟩
noncomputable def i26 : DInfo := ⟨Try.t26.desc, 1, 8, Try.t26.zero, false, false, true⟩
noncomputable def i27 : DInfo := ⟨Try.t27.desc, 1, 24, Try.t27.zero, false, false, true⟩
noncomputable def i28 : DInfo := ⟨Try.t28.desc, 1, 0, Try.t28.zero, false, false, true⟩
noncomputable def i29 : DInfo := ⟨Try.t29.desc, 1, 8, Try.t29.zero, false, false, true⟩
noncomputable def i30 : DInfo := ⟨Try.t30.desc, 1, 4, Try.t30.zero, true, false, true⟩
noncomputable def i31 : DInfo := ⟨Try.t31.desc, 1, 0, Try.t31.zero, false, false, true⟩
noncomputable def i32 : DInfo := ⟨Try.t32.desc, 1, 8, Try.t32.zero, false, false, true⟩
noncomputable def i33 : DInfo := ⟨Try.t33.desc, 1, 8, Try.t33.zero, false, false, true⟩
noncomputable def i34 : DInfo := ⟨Try.t34.desc, 1, 8, Try.t34.zero, false, false, true⟩
noncomputable def i35 : DInfo := ⟨Try.t35.desc, 1, 8, Try.t35.zero, false, false, true⟩
noncomputable def i36 : DInfo := ⟨Try.t36.desc, 1, 8, Try.t36.zero, false, false, true⟩
noncomputable def i37 : DInfo := ⟨Try.t37.desc, 1, 8, Try.t37.zero, false, false, true⟩
noncomputable def i38 : DInfo := ⟨Try.t37.desc, 1, 8, Try.t38.zero, false, false, true⟩
noncomputable def i39 : DInfo := ⟨Try.t39.desc, 1, 8, Try.t39.zero, false, false, true⟩
noncomputable def i40 : DInfo := ⟨Try.t40.desc, 1, 24, Try.t40.zero, false, false, true⟩
noncomputable def i41 : DInfo := ⟨Try.t41.desc, 3, 40, Try.t41.zero, false, false, true⟩
noncomputable def i42 : DInfo := ⟨Try.t41.desc, 3, 40, Try.t42.zero, false, false, true⟩
noncomputable def i43 : DInfo := ⟨Try.t43.desc, 1, 8, Try.t43.zero, false, false, true⟩
noncomputable def i44 : DInfo := ⟨Try.t44.desc, 1, 24, Try.t44.zero, false, false, true⟩
noncomputable def i45 : DInfo := ⟨Try.t45.desc, 1, 24, Try.t45.zero, false, false, true⟩
noncomputable def i46 : DInfo := ⟨Try.t45.desc, 1, 24, Try.t46.zero, false, false, true⟩
noncomputable def i47 : DInfo := ⟨Try.t47.desc, 1, 8, Try.t47.zero, false, false, true⟩
noncomputable def i48 : DInfo := ⟨Try.t48.desc, 1, 8, Try.t48.zero, false, false, true⟩
noncomputable def i49 : DInfo := ⟨Try.t49.desc, 1, 8, Try.t49.zero, true, false, true⟩
noncomputable def i50 : DInfo := ⟨Try.t50.desc, 1, 0, Try.t50.zero, false, false, true⟩
noncomputable def i51 : DInfo := ⟨Try.t51.desc, 1, 8, Try.t51.zero, false, false, true⟩
noncomputable def i52 : DInfo := ⟨Try.t52.desc, 1, 8, Try.t52.zero, false, false, true⟩
noncomputable def i53 : DInfo := ⟨Try.t53.desc, 1, 0, none, false, false, true⟩
noncomputable def i54 : DInfo := ⟨Try.t54.desc, 1, 8, Try.t54.zero, false, false, true⟩
noncomputable def i55 : DInfo := ⟨Try.t55.desc, 1, 8, Try.t55.zero, false, false, true⟩
noncomputable def i56 : DInfo := ⟨Try.t56.desc, 1, 8, Try.t56.zero, false, false, true⟩
noncomputable def i57 : DInfo := ⟨Try.t57.desc, 1, 24, Try.t57.zero, false, false, true⟩
noncomputable def i58 : DInfo := ⟨Try.t58.desc, 3, 40, Try.t58.zero, false, false, true⟩
noncomputable def i59 : DInfo := ⟨Try.t58.desc, 3, 40, Try.t59.zero, false, false, true⟩
noncomputable def i60 : DInfo := ⟨Try.t60.desc, 1, 0, Try.t60.zero, false, false, true⟩
noncomputable def i61 : DInfo := ⟨Try.t61.desc, 1, 8, Try.t61.zero, false, false, true⟩
noncomputable def i62 : DInfo := ⟨Try.t62.desc, 1, 8, Try.t62.zero, true, false, true⟩
noncomputable def i63 : DInfo := ⟨Try.t63.desc, 1, 8, Try.t63.zero, false, false, true⟩
noncomputable def i64 : DInfo := ⟨Try.t64.desc, 1, 8, Try.t64.zero, false, false, true⟩
noncomputable def i65 : DInfo := ⟨Try.t64.desc, 1, 8, Try.t65.zero, false, false, true⟩
noncomputable def i66 : DInfo := ⟨Try.t66.desc, 1, 8, Try.t66.zero, false, false, true⟩
noncomputable def i67 : DInfo := ⟨Try.t67.desc, 2, 16, Try.t67.zero, true, false, true⟩
noncomputable def i68 : DInfo := ⟨Try.t67.desc, 2, 16, Try.t68.zero, true, false, true⟩
noncomputable def i69 : DInfo := ⟨Try.t69.desc, 1, 8, Try.t69.zero, false, false, true⟩
noncomputable def i70 : DInfo := ⟨Try.t70.desc, 1, 8, Try.t70.zero, false, false, true⟩
noncomputable def i71 : DInfo := ⟨Try.t71.desc, 1, 8, Try.t71.zero, false, false, true⟩
noncomputable def i72 : DInfo := ⟨Try.t71.desc, 1, 8, Try.t72.zero, false, false, true⟩
noncomputable def i73 : DInfo := ⟨Try.t73.desc, 1, 8, Try.t73.zero, false, false, true⟩
noncomputable def i74 : DInfo := ⟨Try.t74.desc, 1, 8, Try.t74.zero, false, false, true⟩
noncomputable def i75 : DInfo := ⟨Try.t75.desc, 1, 8, Try.t75.zero, false, false, true⟩
noncomputable def i76 : DInfo := ⟨Try.t76.desc, 1, 8, Try.t76.zero, true, false, true⟩
noncomputable def i77 : DInfo := ⟨Try.t77.desc, 1, 0, Try.t77.zero, false, false, true⟩
noncomputable def i78 : DInfo := ⟨Try.t78.desc, 1, 8, Try.t78.zero, false, false, true⟩
noncomputable def i79 : DInfo := ⟨Try.t79.desc, 1, 8, Try.t79.zero, false, false, true⟩
noncomputable def i80 : DInfo := ⟨Try.t80.desc, 2, 16, Try.t80.zero, true, false, true⟩
noncomputable def i81 : DInfo := ⟨Try.t80.desc, 2, 16, Try.t81.zero, true, false, true⟩
noncomputable def i82 : DInfo := ⟨Try.t82.desc, 1, 8, Try.t82.zero, false, false, true⟩
noncomputable def i83 : DInfo := ⟨Try.t83.desc, 1, 8, Try.t83.zero, false, false, true⟩
noncomputable def i84 : DInfo := ⟨Try.t84.desc, 1, 8, Try.t84.zero, false, false, true⟩
noncomputable def i85 : DInfo := ⟨Try.t85.desc, 1, 8, Try.t85.zero, false, false, true⟩
noncomputable def i86 : DInfo := ⟨Try.t86.desc, 6, 48, Try.t86.zero, false, false, true⟩
noncomputable def i87 : DInfo := ⟨Try.t86.desc, 6, 48, Try.t87.zero, false, false, true⟩
noncomputable def i88 : DInfo := ⟨Try.t88.desc, 1, 8, Try.t88.zero, false, false, true⟩
noncomputable def i89 : DInfo := ⟨Try.t89.desc, 2, 16, Try.t89.zero, true, false, true⟩
noncomputable def i90 : DInfo := ⟨Try.t89.desc, 2, 16, Try.t90.zero, true, false, true⟩
noncomputable def i91 : DInfo := ⟨Try.t91.desc, 1, 8, Try.t91.zero, false, false, true⟩
noncomputable def i92 : DInfo := ⟨Try.t92.desc, 1, 8, Try.t92.zero, false, false, true⟩
noncomputable def i93 : DInfo := ⟨Try.t93.desc, 1, 24, Try.t93.zero, false, false, true⟩
noncomputable def i94 : DInfo := ⟨Try.t94.desc, 3, 72, Try.t94.zero, false, false, true⟩
noncomputable def i95 : DInfo := ⟨Try.t94.desc, 3, 72, Try.t95.zero, false, false, true⟩
noncomputable def i96 : DInfo := ⟨Try.t96.desc, 1, 8, Try.t96.zero, false, false, true⟩
noncomputable def i97 : DInfo := ⟨Try.t97.desc, 1, 8, Try.t97.zero, true, false, true⟩
noncomputable def i98 : DInfo := ⟨Try.t98.desc, 1, 8, Try.t98.zero, false, false, true⟩
noncomputable def i99 : DInfo := ⟨Try.t99.desc, 1, 8, Try.t99.zero, false, false, true⟩
noncomputable def i100 : DInfo := ⟨Try.t100.desc, 1, 8, Try.t100.zero, false, false, true⟩
noncomputable def i101 : DInfo := ⟨Try.t101.desc, 1, 24, Try.t101.zero, false, false, true⟩
noncomputable def i102 : DInfo := ⟨Try.t102.desc, 1, 8, Try.t102.zero, false, false, true⟩
noncomputable def i103 : DInfo := ⟨Try.t103.desc, 1, 8, Try.t103.zero, false, false, true⟩
noncomputable def i104 : DInfo := ⟨Try.t104.desc, 1, 8, Try.t104.zero, false, false, true⟩
noncomputable def i105 : DInfo := ⟨Try.t105.desc, 1, 8, Try.t105.zero, false, false, true⟩
noncomputable def i106 : DInfo := ⟨Try.t106.desc, 1, 8, Try.t106.zero, false, false, true⟩
noncomputable def i107 : DInfo := ⟨Try.t107.desc, 1, 8, Try.t107.zero, false, false, true⟩
noncomputable def i108 : DInfo := ⟨Try.t108.desc, 1, 8, Try.t108.zero, false, false, true⟩
noncomputable def i109 : DInfo := ⟨Try.t109.desc, 1, 8, Try.t109.zero, false, false, true⟩
noncomputable def i110 : DInfo := ⟨Try.t110.desc, 1, 8, Try.t110.zero, false, false, true⟩
noncomputable def i111 : DInfo := ⟨Try.t111.desc, 1, 8, Try.t111.zero, false, false, true⟩
noncomputable def i112 : DInfo := ⟨Try.t112.desc, 1, 0, none, false, false, true⟩
noncomputable def i113 : DInfo := ⟨Try.t113.desc, 1, 8, Try.t113.zero, false, false, true⟩
noncomputable def i114 : DInfo := ⟨Try.t114.desc, 1, 8, Try.t114.zero, false, false, true⟩
noncomputable def i115 : DInfo := ⟨Try.t115.desc, 1, 8, Try.t115.zero, false, false, true⟩
noncomputable def i116 : DInfo := ⟨Try.t116.desc, 1, 8, Try.t116.zero, false, false, true⟩
noncomputable def i117 : DInfo := ⟨Try.t117.desc, 1, 8, Try.t117.zero, false, false, true⟩
noncomputable def i118 : DInfo := ⟨Try.t118.desc, 1, 8, Try.t118.zero, false, false, true⟩
noncomputable def i119 : DInfo := ⟨Try.t119.desc, 1, 8, Try.t119.zero, false, false, true⟩
noncomputable def i120 : DInfo := ⟨Try.t120.desc, 1, 8, Try.t120.zero, false, false, true⟩
noncomputable def i121 : DInfo := ⟨Try.t121.desc, 1, 8, Try.t121.zero, false, false, true⟩
noncomputable def i122 : DInfo := ⟨Try.t3.desc, 1, 8, Try.t122.zero, true, false, true⟩
noncomputable def i123 : DInfo := ⟨Try.t123.desc, 1, 0, Try.t123.zero, false, false, true⟩
noncomputable def i124 : DInfo := ⟨Try.t124.desc, 1, 8, Try.t124.zero, false, false, true⟩
noncomputable def i125 : DInfo := ⟨Try.t125.desc, 1, 8, Try.t125.zero, false, false, true⟩
noncomputable def i126 : DInfo := ⟨Try.t126.desc, 1, 8, Try.t126.zero, false, false, true⟩
noncomputable def i127 : DInfo := ⟨Try.t127.desc, 1, 8, Try.t127.zero, false, false, true⟩
noncomputable def i128 : DInfo := ⟨Try.t128.desc, 1, 8, Try.t128.zero, false, false, true⟩
noncomputable def i129 : DInfo := ⟨Try.t129.desc, 1, 8, Try.t129.zero, false, false, true⟩
noncomputable def i130 : DInfo := ⟨Try.t130.desc, 1, 8, Try.t130.zero, false, false, true⟩
noncomputable def i131 : DInfo := ⟨Try.t131.desc, 1, 8, Try.t131.zero, true, false, true⟩
noncomputable def i132 : DInfo := ⟨Try.t132.desc, 1, 8, Try.t132.zero, false, false, true⟩
noncomputable def i133 : DInfo := ⟨Try.t133.desc, 1, 8, Try.t133.zero, false, false, true⟩
noncomputable def i134 : DInfo := ⟨Try.t134.desc, 1, 8, Try.t134.zero, false, false, true⟩
noncomputable def i135 : DInfo := ⟨Try.t135.desc, 1, 8, Try.t135.zero, false, false, true⟩
noncomputable def i136 : DInfo := ⟨Try.t136.desc, 1, 8, Try.t136.zero, false, false, true⟩
noncomputable def i137 : DInfo := ⟨Try.t137.desc, 1, 8, Try.t137.zero, false, false, true⟩
noncomputable def i138 : DInfo := ⟨Try.t131.desc, 1, 8, Try.t138.zero, true, false, true⟩
noncomputable def i139 : DInfo := ⟨Try.t139.desc, 1, 8, Try.t139.zero, false, false, true⟩
noncomputable def i140 : DInfo := ⟨Try.t140.desc, 1, 8, Try.t140.zero, false, false, true⟩
noncomputable def i141 : DInfo := ⟨Try.t141.desc, 1, 8, Try.t141.zero, false, false, true⟩
noncomputable def i142 : DInfo := ⟨Try.t142.desc, 1, 8, Try.t142.zero, true, false, true⟩
noncomputable def i143 : DInfo := ⟨Try.t143.desc, 1, 8, Try.t143.zero, false, false, true⟩
noncomputable def i144 : DInfo := ⟨Try.t144.desc, 1, 8, Try.t144.zero, false, false, true⟩
noncomputable def i145 : DInfo := ⟨Try.t145.desc, 1, 8, Try.t145.zero, false, false, true⟩
noncomputable def i146 : DInfo := ⟨Try.t146.desc, 1, 8, Try.t146.zero, true, false, true⟩
noncomputable def i147 : DInfo := ⟨Try.t147.desc, 1, 0, Try.t147.zero, false, false, true⟩
noncomputable def i148 : DInfo := ⟨Try.t148.desc, 1, 8, Try.t148.zero, false, false, true⟩
noncomputable def i149 : DInfo := ⟨Try.t149.desc, 1, 8, Try.t149.zero, false, false, true⟩
noncomputable def i150 : DInfo := ⟨Try.t150.desc, 1, 8, Try.t150.zero, false, false, true⟩
noncomputable def i151 : DInfo := ⟨Try.t151.desc, 4, 40, Try.t151.zero, true, false, false⟩
noncomputable def i152 : DInfo := ⟨Try.t151.desc, 4, 40, Try.t152.zero, true, false, false⟩
noncomputable def i153 : DInfo := ⟨Try.t153.desc, 0, 0, Try.t153.zero, true, false, true⟩
noncomputable def i154 : DInfo := ⟨Try.t154.desc, 0, 0, Try.t154.zero, true, false, false⟩
noncomputable def i155 : DInfo := ⟨Try.t154.desc, 0, 0, Try.t155.zero, true, false, false⟩
noncomputable def i156 : DInfo := ⟨Try.t156.desc, 1, 8, Try.t156.zero, false, false, true⟩
noncomputable def i157 : DInfo := ⟨Try.t5.desc, 1, 1, Try.t157.zero, true, false, true⟩
noncomputable def i158 : DInfo := ⟨Try.t5.desc, 1, 1, Try.t158.zero, true, false, true⟩
noncomputable def i159 : DInfo := ⟨Try.t159.desc, 1, 8, Try.t159.zero, false, false, true⟩
noncomputable def i160 : DInfo := ⟨Try.t160.desc, 1, 8, Try.t160.zero, true, false, true⟩
noncomputable def i161 : DInfo := ⟨Try.t21.desc, 1, 4, Try.t161.zero, true, false, true⟩
noncomputable def i162 : DInfo := ⟨Try.t21.desc, 1, 4, Try.t162.zero, true, false, true⟩
noncomputable def i163 : DInfo := ⟨Try.t163.desc, 11, 48, Try.t163.zero, false, false, false⟩
noncomputable def i164 : DInfo := ⟨Try.t163.desc, 11, 48, Try.t164.zero, false, false, false⟩
noncomputable def i165 : DInfo := ⟨Try.t165.desc, 1, 8, Try.t165.zero, false, false, true⟩
noncomputable def i166 : DInfo := ⟨Try.t166.desc, 3, 24, Try.t166.zero, true, false, true⟩
noncomputable def i167 : DInfo := ⟨Try.t166.desc, 3, 24, Try.t167.zero, true, false, true⟩
noncomputable def i168 : DInfo := ⟨Try.t168.desc, 1, 8, Try.t168.zero, true, false, true⟩
noncomputable def i169 : DInfo := ⟨Try.t169.desc, 9, 88, Try.t169.zero, false, false, true⟩
noncomputable def i170 : DInfo := ⟨Try.t169.desc, 9, 88, Try.t170.zero, false, false, true⟩
noncomputable def i171 : DInfo := ⟨Try.t171.desc, 10, 96, Try.t171.zero, false, false, true⟩
noncomputable def i172 : DInfo := ⟨Try.t171.desc, 10, 96, Try.t172.zero, false, false, true⟩
noncomputable def i173 : DInfo := ⟨Try.t173.desc, 1, 8, Try.t173.zero, false, false, true⟩
noncomputable def i174 : DInfo := ⟨Try.t174.desc, 1, 8, Try.t174.zero, true, false, true⟩
noncomputable def i175 : DInfo := ⟨Try.t175.desc, 1, 24, Try.t175.zero, false, false, true⟩
noncomputable def i176 : DInfo := ⟨Try.t175.desc, 1, 24, Try.t176.zero, false, false, true⟩
noncomputable def ts : List (Nat × DInfo) := [(0, i0), (1, i1), (2, i2), (3, i3), (4, i4), (5, i5), (6, i6), (7, i7), (8, i8), (9, i9), (10, i10), (11, i11), (12, i12), (13, i13), (14, i14), (15, i15), (16, i16), (17, i17), (18, i18), (19, i19), (20, i20), (21, i21), (22, i22), (23, i23), (24, i24), (25, i25), (26, i26), (27, i27), (28, i28), (29, i29), (30, i30), (31, i31), (32, i32), (33, i33), (34, i34), (35, i35), (36, i36), (37, i37), (38, i38), (39, i39), (40, i40), (41, i41), (42, i42), (43, i43), (44, i44), (45, i45), (46, i46), (47, i47), (48, i48), (49, i49), (50, i50), (51, i51), (52, i52), (53, i53), (54, i54), (55, i55), (56, i56), (57, i57), (58, i58), (59, i59), (60, i60), (61, i61), (62, i62), (63, i63), (64, i64), (65, i65), (66, i66), (67, i67), (68, i68), (69, i69), (70, i70), (71, i71), (72, i72), (73, i73), (74, i74), (75, i75), (76, i76), (77, i77), (78, i78), (79, i79), (80, i80), (81, i81), (82, i82), (83, i83), (84, i84), (85, i85), (86, i86), (87, i87), (88, i88), (89, i89), (90, i90), (91, i91), (92, i92), (93, i93), (94, i94), (95, i95), (96, i96), (97, i97), (98, i98), (99, i99), (100, i100), (101, i101), (102, i102), (103, i103), (104, i104), (105, i105), (106, i106), (107, i107), (108, i108), (109, i109), (110, i110), (111, i111), (112, i112), (113, i113), (114, i114), (115, i115), (116, i116), (117, i117), (118, i118), (119, i119), (120, i120), (121, i121), (122, i122), (123, i123), (124, i124), (125, i125), (126, i126), (127, i127), (128, i128), (129, i129), (130, i130), (131, i131), (132, i132), (133, i133), (134, i134), (135, i135), (136, i136), (137, i137), (138, i138), (139, i139), (140, i140), (141, i141), (142, i142), (143, i143), (144, i144), (145, i145), (146, i146), (147, i147), (148, i148), (149, i149), (150, i150), (151, i151), (152, i152), (153, i153), (154, i154), (155, i155), (156, i156), (157, i157), (158, i158), (159, i159), (160, i160), (161, i161), (162, i162), (163, i163), (164, i164), (165, i165), (166, i166), (167, i167), (168, i168), (169, i169), (170, i170), (171, i171), (172, i172), (173, i173), (174, i174), (175, i175), (176, i176)]
noncomputable def tt : PM DInfo := (.node (.node (.node (.node (.node (.node (lf i126) (some i62) (.node .leaf (some i94) (lf i158))) (some i30) (.node (.node .leaf (some i110) (lf i174)) (some i46) (.node .leaf (some i78) (lf i142)))) (some i14) (.node (.node (lf i118) (some i54) (.node .leaf (some i86) (lf i150))) (some i22) (.node (.node .leaf (some i102) (lf i166)) (some i38) (.node .leaf (some i70) (lf i134))))) (some i6) (.node (.node (.node (lf i122) (some i58) (.node .leaf (some i90) (lf i154))) (some i26) (.node (.node .leaf (some i106) (lf i170)) (some i42) (.node .leaf (some i74) (lf i138)))) (some i10) (.node (.node (lf i114) (some i50) (.node .leaf (some i82) (lf i146))) (some i18) (.node (.node .leaf (some i98) (lf i162)) (some i34) (.node .leaf (some i66) (lf i130)))))) (some i2) (.node (.node (.node (.node (lf i124) (some i60) (.node .leaf (some i92) (lf i156))) (some i28) (.node (.node .leaf (some i108) (lf i172)) (some i44) (.node .leaf (some i76) (lf i140)))) (some i12) (.node (.node (lf i116) (some i52) (.node .leaf (some i84) (lf i148))) (some i20) (.node (.node .leaf (some i100) (lf i164)) (some i36) (.node .leaf (some i68) (lf i132))))) (some i4) (.node (.node (.node (lf i120) (some i56) (.node .leaf (some i88) (lf i152))) (some i24) (.node (.node .leaf (some i104) (lf i168)) (some i40) (.node .leaf (some i72) (lf i136)))) (some i8) (.node (.node (.node .leaf (some i112) (lf i176)) (some i48) (.node .leaf (some i80) (lf i144))) (some i16) (.node (.node .leaf (some i96) (lf i160)) (some i32) (.node .leaf (some i64) (lf i128))))))) (some i0) (.node (.node (.node (.node (.node (lf i125) (some i61) (.node .leaf (some i93) (lf i157))) (some i29) (.node (.node .leaf (some i109) (lf i173)) (some i45) (.node .leaf (some i77) (lf i141)))) (some i13) (.node (.node (lf i117) (some i53) (.node .leaf (some i85) (lf i149))) (some i21) (.node (.node .leaf (some i101) (lf i165)) (some i37) (.node .leaf (some i69) (lf i133))))) (some i5) (.node (.node (.node (lf i121) (some i57) (.node .leaf (some i89) (lf i153))) (some i25) (.node (.node .leaf (some i105) (lf i169)) (some i41) (.node .leaf (some i73) (lf i137)))) (some i9) (.node (.node (lf i113) (some i49) (.node .leaf (some i81) (lf i145))) (some i17) (.node (.node .leaf (some i97) (lf i161)) (some i33) (.node .leaf (some i65) (lf i129)))))) (some i1) (.node (.node (.node (.node (lf i123) (some i59) (.node .leaf (some i91) (lf i155))) (some i27) (.node (.node .leaf (some i107) (lf i171)) (some i43) (.node .leaf (some i75) (lf i139)))) (some i11) (.node (.node (lf i115) (some i51) (.node .leaf (some i83) (lf i147))) (some i19) (.node (.node .leaf (some i99) (lf i163)) (some i35) (.node .leaf (some i67) (lf i131))))) (some i3) (.node (.node (.node (lf i119) (some i55) (.node .leaf (some i87) (lf i151))) (some i23) (.node (.node .leaf (some i103) (lf i167)) (some i39) (.node .leaf (some i71) (lf i135)))) (some i7) (.node (.node (.node .leaf (some i111) (lf i175)) (some i47) (.node .leaf (some i79) (lf i143))) (some i15) (.node (.node .leaf (some i95) (lf i159)) (some i31) (.node .leaf (some i63) (lf i127))))))))
noncomputable def fs : List (Nat × Func) := [(2, Try.f2), (3, Try.f3), (4, Try.f4), (5, Try.f5), (6, Try.f6), (7, Try.f7), (8, Try.f8), (9, Try.f9), (10, Try.f10), (11, Try.f11), (12, Try.f12), (13, Try.f13), (14, Try.f14), (15, Try.f15), (16, Try.f16), (17, Try.f17), (18, Try.f18), (19, Try.f19), (20, Try.f20), (21, Try.f21), (22, Try.f22), (23, Try.f23), (24, Try.f24), (25, Try.f25), (26, Try.f26), (27, Try.f27), (28, Try.f28), (29, Try.f29), (30, Try.f30), (31, Try.f31), (32, Try.f32), (33, Try.f33), (34, Try.f34), (35, Try.f35), (36, Try.f36), (37, Try.f37), (38, Try.f38), (39, Try.f39), (40, Try.f40), (41, Try.f41), (42, Try.f42), (43, Try.f43), (44, Try.f44), (45, Try.f45), (46, Try.f46), (47, Try.f47), (48, Try.f48), (49, Try.f49), (50, Try.f50), (52, Try.f52), (53, Try.f53), (54, Try.f54), (55, Try.f55), (56, Try.f56), (57, Try.f57), (58, Try.f58), (59, Try.f59), (60, Try.f60), (61, Try.f61), (62, Try.f62), (63, Try.f63), (64, Try.f64), (65, Try.f65), (66, Try.f66), (67, Try.f67), (68, Try.f68), (69, Try.f69), (70, Try.f70), (71, Try.f71), (72, Try.f72), (73, Try.f73), (74, Try.f74), (75, Try.f75), (76, Try.f76), (77, Try.f77), (78, Try.f78), (79, Try.f79), (80, Try.f80), (81, Try.f81), (82, Try.f82), (83, Try.f83), (84, Try.f84), (85, Try.f85), (86, Try.f86), (87, Try.f87), (88, Try.f88), (89, Try.f89), (90, Try.f90), (91, Try.f91), (92, Try.f92), (93, Try.f93)]
noncomputable def ff : PM Func := (.node (.node (.node (.node (.node (lf Try.f62) (some Try.f30) (.node .leaf (some Try.f46) (lf Try.f78))) (some Try.f14) (.node (.node .leaf (some Try.f54) (lf Try.f86)) (some Try.f22) (.node .leaf (some Try.f38) (lf Try.f70)))) (some Try.f6) (.node (.node (.node .leaf (some Try.f58) (lf Try.f90)) (some Try.f26) (.node .leaf (some Try.f42) (lf Try.f74))) (some Try.f10) (.node (.node .leaf (some Try.f50) (lf Try.f82)) (some Try.f18) (.node .leaf (some Try.f34) (lf Try.f66))))) (some Try.f2) (.node (.node (.node (.node .leaf (some Try.f60) (lf Try.f92)) (some Try.f28) (.node .leaf (some Try.f44) (lf Try.f76))) (some Try.f12) (.node (.node .leaf (some Try.f52) (lf Try.f84)) (some Try.f20) (.node .leaf (some Try.f36) (lf Try.f68)))) (some Try.f4) (.node (.node (.node .leaf (some Try.f56) (lf Try.f88)) (some Try.f24) (.node .leaf (some Try.f40) (lf Try.f72))) (some Try.f8) (.node (.node .leaf (some Try.f48) (lf Try.f80)) (some Try.f16) (.node .leaf (some Try.f32) (lf Try.f64)))))) none (.node (.node (.node (.node (.node .leaf (some Try.f61) (lf Try.f93)) (some Try.f29) (.node .leaf (some Try.f45) (lf Try.f77))) (some Try.f13) (.node (.node .leaf (some Try.f53) (lf Try.f85)) (some Try.f21) (.node .leaf (some Try.f37) (lf Try.f69)))) (some Try.f5) (.node (.node (.node .leaf (some Try.f57) (lf Try.f89)) (some Try.f25) (.node .leaf (some Try.f41) (lf Try.f73))) (some Try.f9) (.node (.node .leaf (some Try.f49) (lf Try.f81)) (some Try.f17) (.node .leaf (some Try.f33) (lf Try.f65))))) none (.node (.node (.node (.node .leaf (some Try.f59) (lf Try.f91)) (some Try.f27) (.node .leaf (some Try.f43) (lf Try.f75))) (some Try.f11) (.node (.node .leaf none (lf Try.f83)) (some Try.f19) (.node .leaf (some Try.f35) (lf Try.f67)))) (some Try.f3) (.node (.node (.node .leaf (some Try.f55) (lf Try.f87)) (some Try.f23) (.node .leaf (some Try.f39) (lf Try.f71))) (some Try.f7) (.node (.node .leaf (some Try.f47) (lf Try.f79)) (some Try.f15) (.node .leaf (some Try.f31) (lf Try.f63)))))))
noncomputable def globs : Nat := 0
theorem tt_eq : tt = layD ts := by kernel_rfl
theorem ff_eq : ff = layD fs := by kernel_rfl
theorem info_eq : ts.map (fun p => infoOf Try.prog p.1) = ts.map fun p => some p.2 := by kernel_rfl
theorem funcs_eq : ∀ p ∈ fs, Try.prog.funcs[p.1]? = some p.2 := by
  have key : fs.map (fun p => Try.prog.funcs[p.1]?) = fs.map fun p => some p.2 := by kernel_rfl
  exact fun p hp => List.map_inj_left.1 key p hp
theorem names_eq : fs.all (fun p => !(p.2.name == "runtime.NumGoroutine")) = true := by kernel_rfl
theorem mixed : Try.prog.follows .mixedOrders = true := by kernel_rfl
/-- The environment, with given functions stood in for. -/
noncomputable def env (prim : Nat → Option (List Value → St → Option (Value × St))) : Env := { inf := tt.get, fn := ff.get, prim, globs }
theorem env_ok (prim : Nat → Option (List Value → St → Option (Value × St))) : (env prim).Ok Try.prog :=
  envOk (fun t => by show tt.get t = _; rw [tt_eq]) (fun f => by show ff.get f = _; rw [ff_eq]) info_eq funcs_eq names_eq
end Go.Proofs.Ytcdignblakejoaa.DEnv

/- The seat's base: D over the program, without stand-ins; structs' cells (printed by GenBase.lean). -/
namespace Go.Proofs.Ytcdignblakejoaa
open Go Go.Proofs.Ytcdignblakejoaa.D
/-- slices.Insert, slices.Sort, slices.SortedFunc (its iterator, who compares) -/
abbrev pK : KNums := ⟨none, 31, 2, some 47, 41, 56, 43⟩
noncomputable def E0 : Env := DEnv.env (primsK pK)
/-- [x, y, signed, code] -/
abbrev G7 : List Sc := [.int .i64, .int .i64, .bool, .int .u8]
/-- [msg, addr] -/
abbrev G13 : List Sc := [.str, .int .u64]
/-- [Kind, N, Data] -/
abbrev G41 : List Sc := [.int .i64, .int .i64, .sl]
/-- [Holder, Gen, Wait] -/
abbrev G58 : List Sc := [.int .i64, .int .u32, .sl]
/-- [kind, n] -/
abbrev G67 : List Sc := [.int .i64, .int .i64]
/-- [Cell, Gen] -/
abbrev G80 : List Sc := [.int .i64, .int .u32]
/-- [home, robots, cells, entries, queues, told] -/
abbrev G86 : List Sc := [.int .i64, .int .i64, .int .i64, .mp, .mp, .mp]
/-- [Writes, Posts, Behind] -/
abbrev G94 : List Sc := [.sl, .sl, .sl]
/-- [_interface, concrete, asserted, missingMethod] -/
abbrev G151 : List Sc := [.ptr, .ptr, .ptr, .str]
/-- [Size_, PtrBytes, Hash, TFlag, Align_, FieldAlign_, Kind_, Equal, GCData, Str, PtrToThis] -/
abbrev G163 : List Sc := [.int .u64, .int .u64, .int .u32, .int .u8, .int .u8, .int .u8, .int .u8, .any, .ptr, .int .i32, .int .i32]
/-- [Robot, Stamp, Prio] -/
abbrev G166 : List Sc := [.int .i64, .int .u64, .int .i64]
/-- [Kind, Cell, Gen, Stamp, Prio, Hops, Origin, Other, Claims] -/
abbrev G169 : List Sc := [.int .i64, .int .i64, .int .u32, .int .u64, .int .i64, .int .i64, .int .i64, .int .i64, .sl]
/-- [To, Msg] -/
abbrev G171 : List Sc := [.int .i64, .int .i64, .int .i64, .int .u32, .int .u64, .int .i64, .int .i64, .int .i64, .int .i64, .sl]
end Go.Proofs.Ytcdignblakejoaa
