/- Parts of the proof, put together. -/
import Derived.Test.YtfopfocedlbihaaDoorDC
import Derived.Test.YtfopfocedlbihaaDoorChecked
import Derived.KernelRfl
import Derived.Test.YtfopfocedlbihaaDoorWA
/-
  D over this seat's program: what D is told of its types and functions (printed by GenEnv.lean).
-/
namespace Go.Proofs.YtfopfocedlbihaaDoor.DEnv
open Go.Proofs.YtfopfocedlbihaaDoor.D
abbrev lf {α : Type} (v : α) : PM α := .node .leaf (some v) .leaf
noncomputable def i0 : DInfo := ⟨Tryd.t0.desc, 1, 0, Tryd.t0.zero, false, false, true⟩
noncomputable def i1 : DInfo := ⟨Tryd.t1.desc, 1, 8, Tryd.t1.zero, false, false, true⟩
noncomputable def i2 : DInfo := ⟨Tryd.t2.desc, 1, 8, Tryd.t2.zero, true, false, true⟩
noncomputable def i3 : DInfo := ⟨Tryd.t3.desc, 1, 8, Tryd.t3.zero, true, false, true⟩
noncomputable def i4 : DInfo := ⟨Tryd.t4.desc, 1, 1, Tryd.t4.zero, true, false, true⟩
noncomputable def i5 : DInfo := ⟨Tryd.t5.desc, 1, 1, Tryd.t5.zero, true, false, true⟩
noncomputable def i6 : DInfo := ⟨Tryd.t5.desc, 1, 1, Tryd.t6.zero, true, false, true⟩
noncomputable def i7 : DInfo := ⟨Tryd.t7.desc, 4, 24, Tryd.t7.zero, true, false, true⟩
noncomputable def i8 : DInfo := ⟨Tryd.t7.desc, 4, 24, Tryd.t8.zero, true, false, true⟩
noncomputable def i9 : DInfo := ⟨Tryd.t9.desc, 1, 16, Tryd.t9.zero, true, false, true⟩
noncomputable def i10 : DInfo := ⟨Tryd.t9.desc, 1, 16, Tryd.t10.zero, true, false, true⟩
noncomputable def i11 : DInfo := ⟨Tryd.t9.desc, 1, 16, Tryd.t11.zero, true, false, true⟩
noncomputable def i12 : DInfo := ⟨Tryd.t12.desc, 1, 8, Tryd.t12.zero, true, false, true⟩
noncomputable def i13 : DInfo := ⟨Tryd.t13.desc, 2, 24, Tryd.t13.zero, true, false, false⟩
noncomputable def i14 : DInfo := ⟨Tryd.t13.desc, 2, 24, Tryd.t14.zero, true, false, false⟩
noncomputable def i15 : DInfo := ⟨Tryd.t15.desc, 1, 8, Tryd.t15.zero, true, false, true⟩
noncomputable def i16 : DInfo := ⟨Tryd.t16.desc, 1, 8, Tryd.t16.zero, true, false, true⟩
noncomputable def i17 : DInfo := ⟨Tryd.t17.desc, 1, 8, Tryd.t17.zero, true, false, true⟩
noncomputable def i18 : DInfo := ⟨Tryd.t18.desc, 1, 8, Tryd.t18.zero, true, false, false⟩
noncomputable def i19 : DInfo := ⟨Tryd.t18.desc, 1, 8, Tryd.t19.zero, true, false, false⟩
noncomputable def i20 : DInfo := ⟨Tryd.t20.desc, 1, 16, Tryd.t20.zero, true, false, true⟩
noncomputable def i21 : DInfo := ⟨Tryd.t21.desc, 1, 4, Tryd.t21.zero, true, false, true⟩
noncomputable def i22 : DInfo := ⟨Tryd.t22.desc, 1, 24, Tryd.t22.zero, false, false, true⟩
noncomputable def i23 : DInfo := ⟨Tryd.t23.desc, 1, 24, Tryd.t23.zero, false, false, true⟩
noncomputable def i24 : DInfo := ⟨Tryd.t24.desc, 1, 24, Tryd.t24.zero, false, false, true⟩
noncomputable def i25 : DInfo := ⟨Tryd.t25.desc, 1, 24, Tryd.t25.zero, false, false, true⟩
noncomputable def i26 : DInfo := ⟨Tryd.t26.desc, 9, 200, Tryd.t26.zero, false, false, true⟩
noncomputable def i27 : DInfo := ⟨Tryd.t26.desc, 9, 200, Tryd.t27.zero, false, false, true⟩
noncomputable def i28 : DInfo := ⟨Tryd.t28.desc, 1, 8, Tryd.t28.zero, false, false, true⟩
noncomputable def i29 : DInfo := ⟨Tryd.t29.desc, 1, 8, Tryd.t29.zero, false, false, true⟩
noncomputable def i30 : DInfo := ⟨Tryd.t30.desc, 1, 24, Tryd.t30.zero, false, false, true⟩
noncomputable def i31 : DInfo := ⟨Tryd.t31.desc, 1, 8, Tryd.t31.zero, false, false, true⟩
noncomputable def i32 : DInfo := ⟨Tryd.t32.desc, 3, 24, Tryd.t32.zero, true, false, true⟩
noncomputable def i33 : DInfo := ⟨Tryd.t32.desc, 3, 24, Tryd.t33.zero, true, false, true⟩
noncomputable def i34 : DInfo := ⟨Tryd.t34.desc, 1, 8, Tryd.t34.zero, false, false, true⟩
noncomputable def i35 : DInfo := ⟨Tryd.t35.desc, 1, 24, Tryd.t35.zero, false, false, true⟩
noncomputable def i36 : DInfo := ⟨Tryd.t36.desc, 1, 4, Tryd.t36.zero, true, false, true⟩
noncomputable def i37 : DInfo := ⟨Tryd.t37.desc, 2, 16, Tryd.t37.zero, true, false, true⟩
noncomputable def i38 : DInfo := ⟨Tryd.t37.desc, 2, 16, Tryd.t38.zero, true, false, true⟩
noncomputable def i39 : DInfo := ⟨Tryd.t39.desc, 1, 8, Tryd.t39.zero, false, false, true⟩
noncomputable def i40 : DInfo := ⟨Tryd.t40.desc, 1, 8, Tryd.t40.zero, false, false, true⟩
noncomputable def i41 : DInfo := ⟨Tryd.t41.desc, 1, 24, Tryd.t41.zero, false, false, true⟩
noncomputable def i42 : DInfo := ⟨Tryd.t42.desc, 1, 8, Tryd.t42.zero, false, false, true⟩
noncomputable def i43 : DInfo := ⟨Tryd.t3.desc, 1, 8, Tryd.t43.zero, true, false, true⟩
noncomputable def i44 : DInfo := ⟨Tryd.t44.desc, 1, 0, Tryd.t44.zero, false, false, true⟩
noncomputable def i45 : DInfo := ⟨Tryd.t45.desc, 1, 8, Tryd.t45.zero, false, false, true⟩
noncomputable def i46 : DInfo := ⟨Tryd.t46.desc, 1, 8, Tryd.t46.zero, true, false, true⟩
noncomputable def i47 : DInfo := ⟨Tryd.t47.desc, 6, 48, Tryd.t47.zero, true, false, true⟩
noncomputable def i48 : DInfo := ⟨Tryd.t47.desc, 6, 48, Tryd.t48.zero, true, false, true⟩
noncomputable def i49 : DInfo := ⟨Tryd.t49.desc, 1, 24, Tryd.t49.zero, false, false, true⟩
noncomputable def i50 : DInfo := ⟨Tryd.t50.desc, 8, 80, Tryd.t50.zero, false, false, true⟩
noncomputable def i51 : DInfo := ⟨Tryd.t50.desc, 8, 80, Tryd.t51.zero, false, false, true⟩
noncomputable def i52 : DInfo := ⟨Tryd.t52.desc, 1, 0, none, false, false, true⟩
noncomputable def i53 : DInfo := ⟨Tryd.t53.desc, 1, 8, Tryd.t53.zero, false, false, true⟩
noncomputable def i54 : DInfo := ⟨Tryd.t54.desc, 1, 8, Tryd.t54.zero, false, false, true⟩
noncomputable def i55 : DInfo := ⟨Tryd.t55.desc, 1, 8, Tryd.t55.zero, false, false, true⟩
noncomputable def i56 : DInfo := ⟨Tryd.t56.desc, 1, 0, Tryd.t56.zero, false, false, true⟩
noncomputable def i57 : DInfo := ⟨Tryd.t57.desc, 1, 8, Tryd.t57.zero, false, false, true⟩
noncomputable def i58 : DInfo := ⟨Tryd.t58.desc, 1, 8, Tryd.t58.zero, false, false, true⟩
noncomputable def i59 : DInfo := ⟨Tryd.t59.desc, 1, 8, Tryd.t59.zero, false, false, true⟩
noncomputable def i60 : DInfo := ⟨Tryd.t60.desc, 1, 8, Tryd.t60.zero, false, false, true⟩
noncomputable def i61 : DInfo := ⟨Tryd.t61.desc, 1, 8, Tryd.t61.zero, false, false, true⟩
noncomputable def i62 : DInfo := ⟨Tryd.t62.desc, 1, 8, Tryd.t62.zero, false, false, true⟩
noncomputable def i63 : DInfo := ⟨Tryd.t62.desc, 1, 8, Tryd.t63.zero, false, false, true⟩
noncomputable def i64 : DInfo := ⟨Tryd.t64.desc, 1, 8, Tryd.t64.zero, false, false, true⟩
noncomputable def i65 : DInfo := ⟨Tryd.t65.desc, 1, 8, Tryd.t65.zero, false, false, true⟩
noncomputable def i66 : DInfo := ⟨Tryd.t66.desc, 1, 8, Tryd.t66.zero, false, false, true⟩
noncomputable def i67 : DInfo := ⟨Tryd.t67.desc, 1, 8, Tryd.t67.zero, false, false, true⟩
noncomputable def i68 : DInfo := ⟨Tryd.t68.desc, 1, 8, Tryd.t68.zero, false, false, true⟩
noncomputable def i69 : DInfo := ⟨Tryd.t69.desc, 1, 8, Tryd.t69.zero, false, false, true⟩
noncomputable def i70 : DInfo := ⟨Tryd.t70.desc, 8, 128, Tryd.t70.zero, true, false, true⟩
noncomputable def i71 : DInfo := ⟨Tryd.t71.desc, 1, 8, Tryd.t71.zero, false, false, true⟩
noncomputable def i72 : DInfo := ⟨Tryd.t72.desc, 1, 8, Tryd.t72.zero, false, false, true⟩
noncomputable def i73 : DInfo := ⟨Tryd.t73.desc, 1, 8, Tryd.t73.zero, false, false, true⟩
noncomputable def i74 : DInfo := ⟨Tryd.t74.desc, 1, 24, Tryd.t74.zero, false, false, true⟩
noncomputable def i75 : DInfo := ⟨Tryd.t75.desc, 3, 24, Tryd.t75.zero, true, false, true⟩
noncomputable def i76 : DInfo := ⟨Tryd.t75.desc, 3, 24, Tryd.t76.zero, true, false, true⟩
noncomputable def i77 : DInfo := ⟨Tryd.t77.desc, 4, 64, Tryd.t77.zero, true, false, true⟩
noncomputable def i78 : DInfo := ⟨Tryd.t78.desc, 1, 8, Tryd.t78.zero, false, false, true⟩
noncomputable def i79 : DInfo := ⟨Tryd.t79.desc, 1, 0, Tryd.t79.zero, false, false, true⟩
noncomputable def i80 : DInfo := ⟨Tryd.t80.desc, 1, 8, Tryd.t80.zero, false, false, true⟩
noncomputable def i81 : DInfo := ⟨Tryd.t81.desc, 1, 8, Tryd.t81.zero, false, false, true⟩
noncomputable def i82 : DInfo := ⟨Tryd.t82.desc, 1, 8, Tryd.t82.zero, false, false, true⟩
noncomputable def i83 : DInfo := ⟨Tryd.t83.desc, 1, 0, none, false, false, true⟩
noncomputable def i84 : DInfo := ⟨Tryd.t84.desc, 1, 8, Tryd.t84.zero, false, false, true⟩
noncomputable def i85 : DInfo := ⟨Tryd.t85.desc, 1, 8, Tryd.t85.zero, false, false, true⟩
noncomputable def i86 : DInfo := ⟨Tryd.t85.desc, 1, 8, Tryd.t86.zero, false, false, true⟩
noncomputable def i87 : DInfo := ⟨Tryd.t87.desc, 1, 8, Tryd.t87.zero, false, false, true⟩
noncomputable def i88 : DInfo := ⟨Tryd.t88.desc, 1, 8, Tryd.t88.zero, false, false, true⟩
noncomputable def i89 : DInfo := ⟨Tryd.t89.desc, 1, 8, Tryd.t89.zero, false, false, true⟩
noncomputable def i90 : DInfo := ⟨Tryd.t90.desc, 1, 8, Tryd.t90.zero, false, false, true⟩
noncomputable def i91 : DInfo := ⟨Tryd.t91.desc, 1, 8, Tryd.t91.zero, true, false, true⟩
noncomputable def i92 : DInfo := ⟨Tryd.t92.desc, 1, 24, Tryd.t92.zero, false, false, true⟩
noncomputable def i93 : DInfo := ⟨Tryd.t93.desc, 2, 32, Tryd.t93.zero, false, false, true⟩
noncomputable def i94 : DInfo := ⟨Tryd.t93.desc, 2, 32, Tryd.t94.zero, false, false, true⟩
noncomputable def i95 : DInfo := ⟨Tryd.t95.desc, 1, 16, Tryd.t95.zero, true, true, true⟩
noncomputable def i96 : DInfo := ⟨Tryd.t95.desc, 1, 16, Tryd.t96.zero, true, true, true⟩
noncomputable def i97 : DInfo := ⟨Tryd.t97.desc, 1, 0, Tryd.t97.zero, false, false, true⟩
noncomputable def i98 : DInfo := ⟨Tryd.t98.desc, 1, 8, Tryd.t98.zero, false, false, true⟩
noncomputable def i99 : DInfo := ⟨Tryd.t99.desc, 1, 8, Tryd.t99.zero, false, false, true⟩
noncomputable def i100 : DInfo := ⟨Tryd.t100.desc, 1, 8, Tryd.t100.zero, false, false, true⟩
noncomputable def i101 : DInfo := ⟨Tryd.t100.desc, 1, 8, Tryd.t101.zero, false, false, true⟩
noncomputable def i102 : DInfo := ⟨Tryd.t102.desc, 1, 8, Tryd.t102.zero, false, false, true⟩
noncomputable def i103 : DInfo := ⟨Tryd.t103.desc, 1, 8, Tryd.t103.zero, false, false, true⟩
noncomputable def i104 : DInfo := ⟨Tryd.t104.desc, 1, 8, Tryd.t104.zero, false, false, true⟩
noncomputable def i105 : DInfo := ⟨Tryd.t105.desc, 1, 8, Tryd.t105.zero, false, false, true⟩
noncomputable def i106 : DInfo := ⟨Tryd.t106.desc, 1, 8, Tryd.t106.zero, false, false, true⟩
noncomputable def i107 : DInfo := ⟨Tryd.t107.desc, 1, 8, Tryd.t107.zero, false, false, true⟩
noncomputable def i108 : DInfo := ⟨Tryd.t108.desc, 1, 8, Tryd.t108.zero, false, false, true⟩
noncomputable def i109 : DInfo := ⟨Tryd.t109.desc, 1, 8, Tryd.t109.zero, false, false, true⟩
noncomputable def i110 : DInfo := ⟨Tryd.t110.desc, 1, 8, Tryd.t110.zero, false, false, true⟩
noncomputable def i111 : DInfo := ⟨Tryd.t111.desc, 1, 8, Tryd.t111.zero, false, false, true⟩
noncomputable def i112 : DInfo := ⟨Tryd.t112.desc, 1, 8, Tryd.t112.zero, false, false, true⟩
noncomputable def i113 : DInfo := ⟨Tryd.t113.desc, 1, 8, Tryd.t113.zero, false, false, true⟩
noncomputable def i114 : DInfo := ⟨Tryd.t114.desc, 1, 8, Tryd.t114.zero, false, false, true⟩
noncomputable def i115 : DInfo := ⟨Tryd.t115.desc, 1, 8, Tryd.t115.zero, false, false, true⟩
noncomputable def i116 : DInfo := ⟨Tryd.t116.desc, 1, 8, Tryd.t116.zero, false, false, true⟩
noncomputable def i117 : DInfo := ⟨Tryd.t117.desc, 1, 8, Tryd.t117.zero, false, false, true⟩
noncomputable def i118 : DInfo := ⟨Tryd.t118.desc, 1, 8, Tryd.t118.zero, false, false, true⟩
noncomputable def i119 : DInfo := ⟨Tryd.t119.desc, 1, 8, Tryd.t119.zero, true, false, true⟩
noncomputable def i120 : DInfo := ⟨Tryd.t120.desc, 1, 8, Tryd.t120.zero, false, false, true⟩
noncomputable def i121 : DInfo := ⟨Tryd.t121.desc, 1, 8, Tryd.t121.zero, false, false, true⟩
noncomputable def i122 : DInfo := ⟨Tryd.t122.desc, 1, 8, Tryd.t122.zero, false, false, true⟩
noncomputable def i123 : DInfo := ⟨Tryd.t122.desc, 1, 8, Tryd.t123.zero, false, false, true⟩
noncomputable def i124 : DInfo := ⟨Tryd.t124.desc, 1, 8, Tryd.t124.zero, false, false, true⟩
noncomputable def i125 : DInfo := ⟨Tryd.t125.desc, 1, 8, Tryd.t125.zero, false, false, true⟩
noncomputable def i126 : DInfo := ⟨Tryd.t126.desc, 1, 8, Tryd.t126.zero, false, false, true⟩
noncomputable def i127 : DInfo := ⟨Tryd.t127.desc, 1, 8, Tryd.t127.zero, false, false, true⟩
noncomputable def i128 : DInfo := ⟨Tryd.t128.desc, 10, 160, Tryd.t128.zero, true, false, true⟩
noncomputable def i129 : DInfo := ⟨Tryd.t129.desc, 1, 0, Tryd.t129.zero, false, false, true⟩
noncomputable def i130 : DInfo := ⟨Tryd.t130.desc, 1, 8, Tryd.t130.zero, false, false, true⟩
noncomputable def i131 : DInfo := ⟨Tryd.t131.desc, 1, 8, Tryd.t131.zero, false, false, true⟩
noncomputable def i132 : DInfo := ⟨Tryd.t132.desc, 1, 8, Tryd.t132.zero, false, false, true⟩
noncomputable def i133 : DInfo := ⟨Tryd.t133.desc, 1, 8, Tryd.t133.zero, true, false, true⟩
noncomputable def i134 : DInfo := ⟨Tryd.t134.desc, 1, 8, Tryd.t134.zero, false, false, true⟩
noncomputable def i135 : DInfo := ⟨Tryd.t135.desc, 1, 8, Tryd.t135.zero, false, false, true⟩
noncomputable def i136 : DInfo := ⟨Tryd.t136.desc, 1, 8, Tryd.t136.zero, false, false, true⟩
noncomputable def i137 : DInfo := ⟨Tryd.t137.desc, 1, 8, Tryd.t137.zero, false, false, true⟩
noncomputable def i138 : DInfo := ⟨Tryd.t138.desc, 1, 8, Tryd.t138.zero, false, false, true⟩
noncomputable def i139 : DInfo := ⟨Tryd.t139.desc, 1, 8, Tryd.t139.zero, false, false, true⟩
noncomputable def i140 : DInfo := ⟨Tryd.t140.desc, 1, 8, Tryd.t140.zero, false, false, true⟩
noncomputable def i141 : DInfo := ⟨Tryd.t141.desc, 1, 8, Tryd.t141.zero, false, false, true⟩
noncomputable def i142 : DInfo := ⟨Tryd.t3.desc, 1, 8, Tryd.t142.zero, true, false, true⟩
noncomputable def i143 : DInfo := ⟨Tryd.t143.desc, 1, 0, Tryd.t143.zero, false, false, true⟩
noncomputable def i144 : DInfo := ⟨Tryd.t144.desc, 1, 8, Tryd.t144.zero, false, false, true⟩
noncomputable def i145 : DInfo := ⟨Tryd.t145.desc, 1, 8, Tryd.t145.zero, false, false, true⟩
noncomputable def i146 : DInfo := ⟨Tryd.t146.desc, 1, 8, Tryd.t146.zero, false, false, true⟩
noncomputable def i147 : DInfo := ⟨Tryd.t147.desc, 1, 0, Tryd.t147.zero, false, false, true⟩
noncomputable def i148 : DInfo := ⟨Tryd.t148.desc, 1, 8, Tryd.t148.zero, false, false, true⟩
noncomputable def i149 : DInfo := ⟨Tryd.t149.desc, 1, 8, Tryd.t149.zero, false, false, true⟩
noncomputable def i150 : DInfo := ⟨Tryd.t150.desc, 1, 8, Tryd.t150.zero, false, false, true⟩
noncomputable def i151 : DInfo := ⟨Tryd.t151.desc, 1, 8, Tryd.t151.zero, false, false, true⟩
noncomputable def i152 : DInfo := ⟨Tryd.t152.desc, 1, 8, Tryd.t152.zero, false, false, true⟩
noncomputable def i153 : DInfo := ⟨Tryd.t153.desc, 1, 8, Tryd.t153.zero, false, false, true⟩
noncomputable def i154 : DInfo := ⟨Tryd.t154.desc, 1, 8, Tryd.t154.zero, false, false, true⟩
noncomputable def i155 : DInfo := ⟨Tryd.t155.desc, 1, 8, Tryd.t155.zero, false, false, true⟩
noncomputable def i156 : DInfo := ⟨Tryd.t156.desc, 1, 8, Tryd.t156.zero, false, false, true⟩
noncomputable def i157 : DInfo := ⟨Tryd.t157.desc, 1, 8, Tryd.t157.zero, false, false, true⟩
noncomputable def i158 : DInfo := ⟨Tryd.t158.desc, 1, 8, Tryd.t158.zero, true, false, true⟩
noncomputable def i159 : DInfo := ⟨Tryd.t159.desc, 1, 8, Tryd.t159.zero, false, false, true⟩
noncomputable def i160 : DInfo := ⟨Tryd.t160.desc, 1, 8, Tryd.t160.zero, false, false, true⟩
noncomputable def i161 : DInfo := ⟨Tryd.t161.desc, 1, 8, Tryd.t161.zero, false, false, true⟩
noncomputable def i162 : DInfo := ⟨Tryd.t46.desc, 1, 8, Tryd.t162.zero, true, false, true⟩
noncomputable def i163 : DInfo := ⟨Tryd.t163.desc, 1, 8, Tryd.t163.zero, false, false, true⟩
noncomputable def i164 : DInfo := ⟨Tryd.t164.desc, 1, 8, Tryd.t164.zero, false, false, true⟩
noncomputable def i165 : DInfo := ⟨Tryd.t165.desc, 1, 8, Tryd.t165.zero, false, false, true⟩
noncomputable def i166 : DInfo := ⟨Tryd.t166.desc, 1, 8, Tryd.t166.zero, true, false, true⟩
noncomputable def i167 : DInfo := ⟨Tryd.t167.desc, 1, 8, Tryd.t167.zero, false, false, true⟩
noncomputable def i168 : DInfo := ⟨Tryd.t168.desc, 24, 24, Tryd.t168.zero, true, false, true⟩
noncomputable def i169 : DInfo := ⟨Tryd.t169.desc, 1, 8, Tryd.t169.zero, false, false, true⟩
noncomputable def i170 : DInfo := ⟨Tryd.t170.desc, 1, 0, Tryd.t170.zero, false, false, true⟩
noncomputable def i171 : DInfo := ⟨Tryd.t171.desc, 1, 8, Tryd.t171.zero, false, false, true⟩
noncomputable def i172 : DInfo := ⟨Tryd.t172.desc, 1, 8, Tryd.t172.zero, false, false, true⟩
noncomputable def i173 : DInfo := ⟨Tryd.t173.desc, 1, 8, Tryd.t173.zero, false, false, true⟩
noncomputable def i174 : DInfo := ⟨Tryd.t174.desc, 1, 0, Tryd.t174.zero, false, false, true⟩
noncomputable def i175 : DInfo := ⟨Tryd.t175.desc, 1, 8, Tryd.t175.zero, false, false, true⟩
noncomputable def i176 : DInfo := ⟨Tryd.t3.desc, 1, 8, Tryd.t176.zero, true, false, true⟩
noncomputable def i177 : DInfo := ⟨Tryd.t177.desc, 1, 0, Tryd.t177.zero, false, false, true⟩
noncomputable def i178 : DInfo := ⟨Tryd.t178.desc, 1, 8, Tryd.t178.zero, false, false, true⟩
noncomputable def i179 : DInfo := ⟨Tryd.t179.desc, 1, 8, Tryd.t179.zero, true, false, true⟩
noncomputable def i180 : DInfo := ⟨Tryd.t180.desc, 1, 8, Tryd.t180.zero, false, false, true⟩
noncomputable def i181 : DInfo := ⟨Tryd.t181.desc, 1, 8, Tryd.t181.zero, false, false, true⟩
noncomputable def i182 : DInfo := ⟨Tryd.t182.desc, 1, 8, Tryd.t182.zero, false, false, true⟩
noncomputable def i183 : DInfo := ⟨Tryd.t183.desc, 1, 8, Tryd.t183.zero, false, false, true⟩
noncomputable def i184 : DInfo := ⟨Tryd.t184.desc, 1, 8, Tryd.t184.zero, false, false, true⟩
noncomputable def i185 : DInfo := ⟨Tryd.t185.desc, 1, 8, Tryd.t185.zero, false, false, true⟩
noncomputable def i186 : DInfo := ⟨Tryd.t186.desc, 1, 8, Tryd.t186.zero, false, false, true⟩
noncomputable def i187 : DInfo := ⟨Tryd.t187.desc, 1, 8, Tryd.t187.zero, false, false, true⟩
noncomputable def i188 : DInfo := ⟨Tryd.t188.desc, 1, 8, Tryd.t188.zero, false, false, true⟩
noncomputable def i189 : DInfo := ⟨Tryd.t189.desc, 1, 8, Tryd.t189.zero, true, false, true⟩
noncomputable def i190 : DInfo := ⟨Tryd.t190.desc, 1, 0, Tryd.t190.zero, false, false, true⟩
noncomputable def i191 : DInfo := ⟨Tryd.t191.desc, 1, 8, Tryd.t191.zero, false, false, true⟩
noncomputable def i192 : DInfo := ⟨Tryd.t192.desc, 1, 8, Tryd.t192.zero, false, false, true⟩
noncomputable def i193 : DInfo := ⟨Tryd.t193.desc, 20, 160, Tryd.t193.zero, true, false, true⟩
noncomputable def i194 : DInfo := ⟨Tryd.t194.desc, 65, 65, Tryd.t194.zero, true, false, true⟩
noncomputable def i195 : DInfo := ⟨Tryd.t195.desc, 1, 0, Tryd.t195.zero, false, false, true⟩
noncomputable def i196 : DInfo := ⟨Tryd.t196.desc, 1, 8, Tryd.t196.zero, false, false, true⟩
noncomputable def i197 : DInfo := ⟨Tryd.t197.desc, 1, 8, Tryd.t197.zero, false, false, true⟩
noncomputable def i198 : DInfo := ⟨Tryd.t198.desc, 3, 48, Tryd.t198.zero, true, true, true⟩
noncomputable def i199 : DInfo := ⟨Tryd.t198.desc, 3, 48, Tryd.t199.zero, true, true, true⟩
noncomputable def i200 : DInfo := ⟨Tryd.t200.desc, 1, 8, Tryd.t200.zero, false, false, true⟩
noncomputable def i201 : DInfo := ⟨Tryd.t201.desc, 1, 8, Tryd.t201.zero, false, false, true⟩
noncomputable def i202 : DInfo := ⟨Tryd.t202.desc, 1, 8, Tryd.t202.zero, false, false, true⟩
noncomputable def i203 : DInfo := ⟨Tryd.t203.desc, 256, 256, Tryd.t203.zero, true, false, true⟩
noncomputable def i204 : DInfo := ⟨Tryd.t204.desc, 2, 2, Tryd.t204.zero, true, false, true⟩
noncomputable def i205 : DInfo := ⟨Tryd.t204.desc, 2, 2, Tryd.t205.zero, true, false, true⟩
noncomputable def i206 : DInfo := ⟨Tryd.t206.desc, 32, 32, Tryd.t206.zero, true, false, true⟩
noncomputable def i207 : DInfo := ⟨Tryd.t207.desc, 1, 8, Tryd.t207.zero, true, false, true⟩
noncomputable def i208 : DInfo := ⟨Tryd.t208.desc, 1, 16, Tryd.t208.zero, true, false, true⟩
noncomputable def i209 : DInfo := ⟨Tryd.t208.desc, 1, 16, Tryd.t209.zero, true, false, true⟩
noncomputable def i210 : DInfo := ⟨Tryd.t210.desc, 1, 8, Tryd.t210.zero, false, false, true⟩
noncomputable def i211 : DInfo := ⟨Tryd.t211.desc, 32, 32, Tryd.t211.zero, true, false, true⟩
noncomputable def i212 : DInfo := ⟨Tryd.t212.desc, 64, 64, Tryd.t212.zero, true, false, true⟩
noncomputable def i213 : DInfo := ⟨Tryd.t213.desc, 4, 40, Tryd.t213.zero, true, false, false⟩
noncomputable def i214 : DInfo := ⟨Tryd.t213.desc, 4, 40, Tryd.t214.zero, true, false, false⟩
noncomputable def i215 : DInfo := ⟨Tryd.t215.desc, 0, 0, Tryd.t215.zero, true, false, true⟩
noncomputable def i216 : DInfo := ⟨Tryd.t216.desc, 0, 0, Tryd.t216.zero, true, false, false⟩
noncomputable def i217 : DInfo := ⟨Tryd.t216.desc, 0, 0, Tryd.t217.zero, true, false, false⟩
noncomputable def i218 : DInfo := ⟨Tryd.t218.desc, 1, 8, Tryd.t218.zero, false, false, true⟩
noncomputable def i219 : DInfo := ⟨Tryd.t5.desc, 1, 1, Tryd.t219.zero, true, false, true⟩
noncomputable def i220 : DInfo := ⟨Tryd.t5.desc, 1, 1, Tryd.t220.zero, true, false, true⟩
noncomputable def i221 : DInfo := ⟨Tryd.t221.desc, 1, 8, Tryd.t221.zero, false, false, true⟩
noncomputable def i222 : DInfo := ⟨Tryd.t21.desc, 1, 4, Tryd.t222.zero, true, false, true⟩
noncomputable def i223 : DInfo := ⟨Tryd.t21.desc, 1, 4, Tryd.t223.zero, true, false, true⟩
noncomputable def i224 : DInfo := ⟨Tryd.t224.desc, 11, 48, Tryd.t224.zero, false, false, false⟩
noncomputable def i225 : DInfo := ⟨Tryd.t224.desc, 11, 48, Tryd.t225.zero, false, false, false⟩
noncomputable def ts : List (Nat × DInfo) := [(0, i0), (1, i1), (2, i2), (3, i3), (4, i4), (5, i5), (6, i6), (7, i7), (8, i8), (9, i9), (10, i10), (11, i11), (12, i12), (13, i13), (14, i14), (15, i15), (16, i16), (17, i17), (18, i18), (19, i19), (20, i20), (21, i21), (22, i22), (23, i23), (24, i24), (25, i25), (26, i26), (27, i27), (28, i28), (29, i29), (30, i30), (31, i31), (32, i32), (33, i33), (34, i34), (35, i35), (36, i36), (37, i37), (38, i38), (39, i39), (40, i40), (41, i41), (42, i42), (43, i43), (44, i44), (45, i45), (46, i46), (47, i47), (48, i48), (49, i49), (50, i50), (51, i51), (52, i52), (53, i53), (54, i54), (55, i55), (56, i56), (57, i57), (58, i58), (59, i59), (60, i60), (61, i61), (62, i62), (63, i63), (64, i64), (65, i65), (66, i66), (67, i67), (68, i68), (69, i69), (70, i70), (71, i71), (72, i72), (73, i73), (74, i74), (75, i75), (76, i76), (77, i77), (78, i78), (79, i79), (80, i80), (81, i81), (82, i82), (83, i83), (84, i84), (85, i85), (86, i86), (87, i87), (88, i88), (89, i89), (90, i90), (91, i91), (92, i92), (93, i93), (94, i94), (95, i95), (96, i96), (97, i97), (98, i98), (99, i99), (100, i100), (101, i101), (102, i102), (103, i103), (104, i104), (105, i105), (106, i106), (107, i107), (108, i108), (109, i109), (110, i110), (111, i111), (112, i112), (113, i113), (114, i114), (115, i115), (116, i116), (117, i117), (118, i118), (119, i119), (120, i120), (121, i121), (122, i122), (123, i123), (124, i124), (125, i125), (126, i126), (127, i127), (128, i128), (129, i129), (130, i130), (131, i131), (132, i132), (133, i133), (134, i134), (135, i135), (136, i136), (137, i137), (138, i138), (139, i139), (140, i140), (141, i141), (142, i142), (143, i143), (144, i144), (145, i145), (146, i146), (147, i147), (148, i148), (149, i149), (150, i150), (151, i151), (152, i152), (153, i153), (154, i154), (155, i155), (156, i156), (157, i157), (158, i158), (159, i159), (160, i160), (161, i161), (162, i162), (163, i163), (164, i164), (165, i165), (166, i166), (167, i167), (168, i168), (169, i169), (170, i170), (171, i171), (172, i172), (173, i173), (174, i174), (175, i175), (176, i176), (177, i177), (178, i178), (179, i179), (180, i180), (181, i181), (182, i182), (183, i183), (184, i184), (185, i185), (186, i186), (187, i187), (188, i188), (189, i189), (190, i190), (191, i191), (192, i192), (193, i193), (194, i194), (195, i195), (196, i196), (197, i197), (198, i198), (199, i199), (200, i200), (201, i201), (202, i202), (203, i203), (204, i204), (205, i205), (206, i206), (207, i207), (208, i208), (209, i209), (210, i210), (211, i211), (212, i212), (213, i213), (214, i214), (215, i215), (216, i216), (217, i217), (218, i218), (219, i219), (220, i220), (221, i221), (222, i222), (223, i223), (224, i224), (225, i225)]
noncomputable def tt : PM DInfo := (.node (.node (.node (.node (.node (.node (.node .leaf (some i126) (lf i190)) (some i62) (.node (lf i222) (some i94) (lf i158))) (some i30) (.node (.node .leaf (some i110) (lf i174)) (some i46) (.node (lf i206) (some i78) (lf i142)))) (some i14) (.node (.node (.node .leaf (some i118) (lf i182)) (some i54) (.node (lf i214) (some i86) (lf i150))) (some i22) (.node (.node .leaf (some i102) (lf i166)) (some i38) (.node (lf i198) (some i70) (lf i134))))) (some i6) (.node (.node (.node (.node .leaf (some i122) (lf i186)) (some i58) (.node (lf i218) (some i90) (lf i154))) (some i26) (.node (.node .leaf (some i106) (lf i170)) (some i42) (.node (lf i202) (some i74) (lf i138)))) (some i10) (.node (.node (.node .leaf (some i114) (lf i178)) (some i50) (.node (lf i210) (some i82) (lf i146))) (some i18) (.node (.node .leaf (some i98) (lf i162)) (some i34) (.node (lf i194) (some i66) (lf i130)))))) (some i2) (.node (.node (.node (.node (.node .leaf (some i124) (lf i188)) (some i60) (.node (lf i220) (some i92) (lf i156))) (some i28) (.node (.node .leaf (some i108) (lf i172)) (some i44) (.node (lf i204) (some i76) (lf i140)))) (some i12) (.node (.node (.node .leaf (some i116) (lf i180)) (some i52) (.node (lf i212) (some i84) (lf i148))) (some i20) (.node (.node .leaf (some i100) (lf i164)) (some i36) (.node (lf i196) (some i68) (lf i132))))) (some i4) (.node (.node (.node (.node .leaf (some i120) (lf i184)) (some i56) (.node (lf i216) (some i88) (lf i152))) (some i24) (.node (.node .leaf (some i104) (lf i168)) (some i40) (.node (lf i200) (some i72) (lf i136)))) (some i8) (.node (.node (.node .leaf (some i112) (lf i176)) (some i48) (.node (lf i208) (some i80) (lf i144))) (some i16) (.node (.node (lf i224) (some i96) (lf i160)) (some i32) (.node (lf i192) (some i64) (lf i128))))))) (some i0) (.node (.node (.node (.node (.node (.node .leaf (some i125) (lf i189)) (some i61) (.node (lf i221) (some i93) (lf i157))) (some i29) (.node (.node .leaf (some i109) (lf i173)) (some i45) (.node (lf i205) (some i77) (lf i141)))) (some i13) (.node (.node (.node .leaf (some i117) (lf i181)) (some i53) (.node (lf i213) (some i85) (lf i149))) (some i21) (.node (.node .leaf (some i101) (lf i165)) (some i37) (.node (lf i197) (some i69) (lf i133))))) (some i5) (.node (.node (.node (.node .leaf (some i121) (lf i185)) (some i57) (.node (lf i217) (some i89) (lf i153))) (some i25) (.node (.node .leaf (some i105) (lf i169)) (some i41) (.node (lf i201) (some i73) (lf i137)))) (some i9) (.node (.node (.node .leaf (some i113) (lf i177)) (some i49) (.node (lf i209) (some i81) (lf i145))) (some i17) (.node (.node (lf i225) (some i97) (lf i161)) (some i33) (.node (lf i193) (some i65) (lf i129)))))) (some i1) (.node (.node (.node (.node (.node .leaf (some i123) (lf i187)) (some i59) (.node (lf i219) (some i91) (lf i155))) (some i27) (.node (.node .leaf (some i107) (lf i171)) (some i43) (.node (lf i203) (some i75) (lf i139)))) (some i11) (.node (.node (.node .leaf (some i115) (lf i179)) (some i51) (.node (lf i211) (some i83) (lf i147))) (some i19) (.node (.node .leaf (some i99) (lf i163)) (some i35) (.node (lf i195) (some i67) (lf i131))))) (some i3) (.node (.node (.node (.node .leaf (some i119) (lf i183)) (some i55) (.node (lf i215) (some i87) (lf i151))) (some i23) (.node (.node .leaf (some i103) (lf i167)) (some i39) (.node (lf i199) (some i71) (lf i135)))) (some i7) (.node (.node (.node .leaf (some i111) (lf i175)) (some i47) (.node (lf i207) (some i79) (lf i143))) (some i15) (.node (.node (lf i223) (some i95) (lf i159)) (some i31) (.node (lf i191) (some i63) (lf i127))))))))
noncomputable def fs : List (Nat × Func) := [(2, Tryd.f2), (3, Tryd.f3), (4, Tryd.f4), (5, Tryd.f5), (6, Tryd.f6), (7, Tryd.f7), (8, Tryd.f8), (9, Tryd.f9), (10, Tryd.f10), (11, Tryd.f11), (12, Tryd.f12), (13, Tryd.f13), (14, Tryd.f14), (15, Tryd.f15), (16, Tryd.f16), (17, Tryd.f17), (18, Tryd.f18), (19, Tryd.f19), (20, Tryd.f20), (21, Tryd.f21), (22, Tryd.f22), (23, Tryd.f23), (24, Tryd.f24), (25, Tryd.f25), (26, Tryd.f26), (27, Tryd.f27), (28, Tryd.f28), (29, Tryd.f29), (30, Tryd.f30), (31, Tryd.f31), (32, Tryd.f32), (33, Tryd.f33), (34, Tryd.f34), (35, Tryd.f35), (36, Tryd.f36), (37, Tryd.f37), (38, Tryd.f38), (39, Tryd.f39), (40, Tryd.f40), (41, Tryd.f41), (42, Tryd.f42), (43, Tryd.f43), (44, Tryd.f44), (45, Tryd.f45), (46, Tryd.f46), (47, Tryd.f47), (48, Tryd.f48), (49, Tryd.f49), (50, Tryd.f50), (51, Tryd.f51), (52, Tryd.f52), (53, Tryd.f53), (54, Tryd.f54), (55, Tryd.f55), (56, Tryd.f56), (57, Tryd.f57), (58, Tryd.f58), (59, Tryd.f59), (60, Tryd.f60), (61, Tryd.f61), (62, Tryd.f62), (63, Tryd.f63), (64, Tryd.f64), (65, Tryd.f65), (66, Tryd.f66), (67, Tryd.f67), (68, Tryd.f68), (69, Tryd.f69), (70, Tryd.f70), (71, Tryd.f71), (72, Tryd.f72), (73, Tryd.f73), (74, Tryd.f74), (75, Tryd.f75), (76, Tryd.f76), (77, Tryd.f77), (78, Tryd.f78), (79, Tryd.f79), (80, Tryd.f80), (81, Tryd.f81), (82, Tryd.f82), (83, Tryd.f83), (84, Tryd.f84), (85, Tryd.f85), (86, Tryd.f86), (87, Tryd.f87), (88, Tryd.f88), (89, Tryd.f89), (90, Tryd.f90), (91, Tryd.f91), (92, Tryd.f92), (93, Tryd.f93), (94, Tryd.f94), (95, Tryd.f95), (96, Tryd.f96), (97, Tryd.f97), (98, Tryd.f98), (99, Tryd.f99), (100, Tryd.f100), (101, Tryd.f101), (102, Tryd.f102), (103, Tryd.f103), (104, Tryd.f104), (105, Tryd.f105), (106, Tryd.f106), (107, Tryd.f107), (108, Tryd.f108), (110, Tryd.f110), (111, Tryd.f111), (112, Tryd.f112), (113, Tryd.f113), (114, Tryd.f114), (115, Tryd.f115), (116, Tryd.f116), (117, Tryd.f117), (118, Tryd.f118), (119, Tryd.f119), (120, Tryd.f120), (121, Tryd.f121), (124, Tryd.f124), (125, Tryd.f125), (126, Tryd.f126), (127, Tryd.f127), (129, Tryd.f129), (130, Tryd.f130), (131, Tryd.f131), (132, Tryd.f132), (133, Tryd.f133), (134, Tryd.f134), (135, Tryd.f135), (137, Tryd.f137), (138, Tryd.f138), (139, Tryd.f139), (140, Tryd.f140), (141, Tryd.f141), (142, Tryd.f142), (143, Tryd.f143), (144, Tryd.f144), (145, Tryd.f145), (146, Tryd.f146), (147, Tryd.f147), (148, Tryd.f148), (149, Tryd.f149), (150, Tryd.f150), (151, Tryd.f151), (152, Tryd.f152), (153, Tryd.f153), (154, Tryd.f154), (155, Tryd.f155), (156, Tryd.f156), (157, Tryd.f157), (158, Tryd.f158), (159, Tryd.f159), (160, Tryd.f160), (194, Tryd.f194)]
noncomputable def ff : PM Func := (.node (.node (.node (.node (.node (.node (lf Tryd.f126) (some Tryd.f62) (.node .leaf (some Tryd.f94) (lf Tryd.f158))) (some Tryd.f30) (.node (lf Tryd.f110) (some Tryd.f46) (.node .leaf (some Tryd.f78) (lf Tryd.f142)))) (some Tryd.f14) (.node (.node (lf Tryd.f118) (some Tryd.f54) (.node .leaf (some Tryd.f86) (lf Tryd.f150))) (some Tryd.f22) (.node (lf Tryd.f102) (some Tryd.f38) (.node .leaf (some Tryd.f70) (lf Tryd.f134))))) (some Tryd.f6) (.node (.node (.node .leaf (some Tryd.f58) (.node .leaf (some Tryd.f90) (lf Tryd.f154))) (some Tryd.f26) (.node (lf Tryd.f106) (some Tryd.f42) (.node .leaf (some Tryd.f74) (lf Tryd.f138)))) (some Tryd.f10) (.node (.node (lf Tryd.f114) (some Tryd.f50) (.node .leaf (some Tryd.f82) (lf Tryd.f146))) (some Tryd.f18) (.node (lf Tryd.f98) (some Tryd.f34) (.node (lf Tryd.f194) (some Tryd.f66) (lf Tryd.f130)))))) (some Tryd.f2) (.node (.node (.node (.node (lf Tryd.f124) (some Tryd.f60) (.node .leaf (some Tryd.f92) (lf Tryd.f156))) (some Tryd.f28) (.node (lf Tryd.f108) (some Tryd.f44) (.node .leaf (some Tryd.f76) (lf Tryd.f140)))) (some Tryd.f12) (.node (.node (lf Tryd.f116) (some Tryd.f52) (.node .leaf (some Tryd.f84) (lf Tryd.f148))) (some Tryd.f20) (.node (lf Tryd.f100) (some Tryd.f36) (.node .leaf (some Tryd.f68) (lf Tryd.f132))))) (some Tryd.f4) (.node (.node (.node (lf Tryd.f120) (some Tryd.f56) (.node .leaf (some Tryd.f88) (lf Tryd.f152))) (some Tryd.f24) (.node (lf Tryd.f104) (some Tryd.f40) (lf Tryd.f72))) (some Tryd.f8) (.node (.node (lf Tryd.f112) (some Tryd.f48) (.node .leaf (some Tryd.f80) (lf Tryd.f144))) (some Tryd.f16) (.node (.node .leaf (some Tryd.f96) (lf Tryd.f160)) (some Tryd.f32) (lf Tryd.f64)))))) none (.node (.node (.node (.node (.node (lf Tryd.f125) (some Tryd.f61) (.node .leaf (some Tryd.f93) (lf Tryd.f157))) (some Tryd.f29) (.node .leaf (some Tryd.f45) (.node .leaf (some Tryd.f77) (lf Tryd.f141)))) (some Tryd.f13) (.node (.node (lf Tryd.f117) (some Tryd.f53) (.node .leaf (some Tryd.f85) (lf Tryd.f149))) (some Tryd.f21) (.node (lf Tryd.f101) (some Tryd.f37) (.node .leaf (some Tryd.f69) (lf Tryd.f133))))) (some Tryd.f5) (.node (.node (.node (lf Tryd.f121) (some Tryd.f57) (.node .leaf (some Tryd.f89) (lf Tryd.f153))) (some Tryd.f25) (.node (lf Tryd.f105) (some Tryd.f41) (.node .leaf (some Tryd.f73) (lf Tryd.f137)))) (some Tryd.f9) (.node (.node (lf Tryd.f113) (some Tryd.f49) (.node .leaf (some Tryd.f81) (lf Tryd.f145))) (some Tryd.f17) (.node (lf Tryd.f97) (some Tryd.f33) (.node .leaf (some Tryd.f65) (lf Tryd.f129)))))) none (.node (.node (.node (.node .leaf (some Tryd.f59) (.node .leaf (some Tryd.f91) (lf Tryd.f155))) (some Tryd.f27) (.node (lf Tryd.f107) (some Tryd.f43) (.node .leaf (some Tryd.f75) (lf Tryd.f139)))) (some Tryd.f11) (.node (.node (lf Tryd.f115) (some Tryd.f51) (.node .leaf (some Tryd.f83) (lf Tryd.f147))) (some Tryd.f19) (.node (lf Tryd.f99) (some Tryd.f35) (.node .leaf (some Tryd.f67) (lf Tryd.f131))))) (some Tryd.f3) (.node (.node (.node (lf Tryd.f119) (some Tryd.f55) (.node .leaf (some Tryd.f87) (lf Tryd.f151))) (some Tryd.f23) (.node (lf Tryd.f103) (some Tryd.f39) (.node .leaf (some Tryd.f71) (lf Tryd.f135)))) (some Tryd.f7) (.node (.node (lf Tryd.f111) (some Tryd.f47) (.node .leaf (some Tryd.f79) (lf Tryd.f143))) (some Tryd.f15) (.node (.node .leaf (some Tryd.f95) (lf Tryd.f159)) (some Tryd.f31) (.node .leaf (some Tryd.f63) (lf Tryd.f127))))))))
noncomputable def globs : Nat := 11
theorem tt_eq : tt = layD ts := by kernel_rfl
theorem ff_eq : ff = layD fs := by kernel_rfl
theorem info_eq : ts.map (fun p => infoOf Tryd.prog p.1) = ts.map fun p => some p.2 := by kernel_rfl
theorem funcs_eq : ∀ p ∈ fs, Tryd.prog.funcs[p.1]? = some p.2 := by
  have key : fs.map (fun p => Tryd.prog.funcs[p.1]?) = fs.map fun p => some p.2 := by kernel_rfl
  exact fun p hp => List.map_inj_left.1 key p hp
theorem names_eq : fs.all (fun p => !(p.2.name == "runtime.NumGoroutine")) = true := by kernel_rfl
theorem mixed : Tryd.prog.follows .mixedOrders = true := by kernel_rfl
/-- The environment, with given functions stood in for. -/
noncomputable def env (prim : Nat → Option (List Value → St → Option (Value × St))) : Env := { inf := tt.get, fn := ff.get, prim, globs }
theorem env_ok (prim : Nat → Option (List Value → St → Option (Value × St))) : (env prim).Ok Tryd.prog :=
  envOk (fun t => by show tt.get t = _; rw [tt_eq]) (fun f => by show ff.get f = _; rw [ff_eq]) info_eq funcs_eq names_eq
end Go.Proofs.YtfopfocedlbihaaDoor.DEnv

/- The seat's base: D over the program, without stand-ins; structs' cells (printed by GenBase.lean). -/
namespace Go.Proofs.YtfopfocedlbihaaDoor
open Go Go.Proofs.YtfopfocedlbihaaDoor.D
abbrev pN : PNums := ⟨30, 32, 69, 71, 120, 95, 118, 3, 5, 6, 179⟩
abbrev pB : BNums := ⟨75, 40, 110, 31, 3, 94, 5⟩
abbrev pS : SNums := ⟨83, 21, 22⟩
noncomputable def E0 : Env := DEnv.env (primsS ltT pS pN pB)
/-- [x, y, signed, code] -/
abbrev G7 : List Sc := [.int .i64, .int .i64, .bool, .int .u8]
/-- [msg, addr] -/
abbrev G13 : List Sc := [.str, .int .u64]
/-- [At, Claims, Goals, Open, Records, Epochs, Holders, Gens, Flights] -/
abbrev G26 : List Sc := [.sl, .sl, .sl, .sl, .sl, .sl, .sl, .sl, .int .i64]
/-- [Code, Robot, Cell] -/
abbrev G32 : List Sc := [.int .i64, .int .i64, .int .i64]
/-- [Cell, Gen] -/
abbrev G37 : List Sc := [.int .i64, .int .u32]
/-- [Kind, Robot, N, At, With, Draw] -/
abbrev G47 : List Sc := [.int .i64, .int .i64, .int .i64, .int .i64, .int .i64, .int .u64]
/-- [Order, Err, Steps] -/
abbrev G50 : List Sc := [.int .i64, .int .i64, .int .i64, .int .i64, .int .i64, .int .u64, .int .i64, .sl]
/-- [addr, buf] -/
abbrev G93 : List Sc := [.ptr, .sl]
/-- [Func, Num, Err] -/
abbrev G198 : List Sc := [.str, .str, .any]
/-- [lo, hi] -/
abbrev G204 : List Sc := [.int .u8, .int .u8]
/-- [_interface, concrete, asserted, missingMethod] -/
abbrev G213 : List Sc := [.ptr, .ptr, .ptr, .str]
/-- [Size_, PtrBytes, Hash, TFlag, Align_, FieldAlign_, Kind_, Equal, GCData, Str, PtrToThis] -/
abbrev G224 : List Sc := [.int .u64, .int .u64, .int .u32, .int .u8, .int .u8, .int .u8, .int .u8, .any, .ptr, .int .i32, .int .i32]
end Go.Proofs.YtfopfocedlbihaaDoor
