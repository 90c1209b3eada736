/- Parts of the proof, put together. -/
import Derived.Test.YtfopfocedlbihaaGreatDoorDC
import Derived.Test.YtfopfocedlbihaaGreatDoorChecked
import Derived.KernelRfl
import Derived.Test.YtfopfocedlbihaaGreatDoorDE
/-
  D over this seat's program: what D is told of its types and functions (printed by GenEnv.lean).
-/
namespace Go.Proofs.YtfopfocedlbihaaGreatDoor.DEnv
open Go.Proofs.YtfopfocedlbihaaGreatDoor.D
abbrev lf {α : Type} (v : α) : PM α := .node .leaf (some v) .leaf
noncomputable def i0 : DInfo := ⟨Tryz.t0.desc, 1, 0, Tryz.t0.zero, false, false, true⟩
noncomputable def i1 : DInfo := ⟨Tryz.t1.desc, 1, 8, Tryz.t1.zero, false, false, true⟩
noncomputable def i2 : DInfo := ⟨Tryz.t2.desc, 1, 8, Tryz.t2.zero, true, false, true⟩
noncomputable def i3 : DInfo := ⟨Tryz.t3.desc, 1, 8, Tryz.t3.zero, true, false, true⟩
noncomputable def i4 : DInfo := ⟨Tryz.t4.desc, 1, 1, Tryz.t4.zero, true, false, true⟩
noncomputable def i5 : DInfo := ⟨Tryz.t5.desc, 1, 1, Tryz.t5.zero, true, false, true⟩
noncomputable def i6 : DInfo := ⟨Tryz.t5.desc, 1, 1, Tryz.t6.zero, true, false, true⟩
noncomputable def i7 : DInfo := ⟨Tryz.t7.desc, 4, 24, Tryz.t7.zero, true, false, true⟩
noncomputable def i8 : DInfo := ⟨Tryz.t7.desc, 4, 24, Tryz.t8.zero, true, false, true⟩
noncomputable def i9 : DInfo := ⟨Tryz.t9.desc, 1, 16, Tryz.t9.zero, true, false, true⟩
noncomputable def i10 : DInfo := ⟨Tryz.t9.desc, 1, 16, Tryz.t10.zero, true, false, true⟩
noncomputable def i11 : DInfo := ⟨Tryz.t9.desc, 1, 16, Tryz.t11.zero, true, false, true⟩
noncomputable def i12 : DInfo := ⟨Tryz.t12.desc, 1, 8, Tryz.t12.zero, true, false, true⟩
noncomputable def i13 : DInfo := ⟨Tryz.t13.desc, 2, 24, Tryz.t13.zero, true, false, false⟩
noncomputable def i14 : DInfo := ⟨Tryz.t13.desc, 2, 24, Tryz.t14.zero, true, false, false⟩
noncomputable def i15 : DInfo := ⟨Tryz.t15.desc, 1, 8, Tryz.t15.zero, true, false, true⟩
noncomputable def i16 : DInfo := ⟨Tryz.t16.desc, 1, 8, Tryz.t16.zero, true, false, true⟩
noncomputable def i17 : DInfo := ⟨Tryz.t17.desc, 1, 8, Tryz.t17.zero, true, false, true⟩
noncomputable def i18 : DInfo := ⟨Tryz.t18.desc, 1, 8, Tryz.t18.zero, true, false, false⟩
noncomputable def i19 : DInfo := ⟨Tryz.t18.desc, 1, 8, Tryz.t19.zero, true, false, false⟩
noncomputable def i20 : DInfo := ⟨Tryz.t20.desc, 1, 16, Tryz.t20.zero, true, false, true⟩
noncomputable def i21 : DInfo := ⟨Tryz.t21.desc, 1, 4, Tryz.t21.zero, true, false, true⟩
noncomputable def i22 : DInfo := ⟨Tryz.t22.desc, 1, 24, Tryz.t22.zero, false, false, true⟩
noncomputable def i23 : DInfo := ⟨Tryz.t23.desc, 1, 8, Tryz.t23.zero, false, false, true⟩
noncomputable def i24 : DInfo := ⟨Tryz.t3.desc, 1, 8, Tryz.t24.zero, true, false, true⟩
noncomputable def i25 : DInfo := ⟨Tryz.t25.desc, 1, 0, Tryz.t25.zero, false, false, true⟩
noncomputable def i26 : DInfo := ⟨Tryz.t26.desc, 1, 8, Tryz.t26.zero, false, false, true⟩
noncomputable def i27 : DInfo := ⟨Tryz.t27.desc, 1, 0, Tryz.t27.zero, false, false, true⟩
noncomputable def i28 : DInfo := ⟨Tryz.t28.desc, 1, 8, Tryz.t28.zero, false, false, true⟩
noncomputable def i29 : DInfo := ⟨Tryz.t29.desc, 1, 0, Tryz.t29.zero, false, false, true⟩
noncomputable def i30 : DInfo := ⟨Tryz.t30.desc, 1, 8, Tryz.t30.zero, false, false, true⟩
noncomputable def i31 : DInfo := ⟨Tryz.t31.desc, 1, 0, Tryz.t31.zero, false, false, true⟩
noncomputable def i32 : DInfo := ⟨Tryz.t32.desc, 1, 8, Tryz.t32.zero, false, false, true⟩
noncomputable def i33 : DInfo := ⟨Tryz.t33.desc, 1, 24, Tryz.t33.zero, false, false, true⟩
noncomputable def i34 : DInfo := ⟨Tryz.t34.desc, 1, 24, Tryz.t34.zero, false, false, true⟩
noncomputable def i35 : DInfo := ⟨Tryz.t35.desc, 1, 8, Tryz.t35.zero, true, false, true⟩
noncomputable def i36 : DInfo := ⟨Tryz.t36.desc, 6, 48, Tryz.t36.zero, true, false, true⟩
noncomputable def i37 : DInfo := ⟨Tryz.t36.desc, 6, 48, Tryz.t37.zero, true, false, true⟩
noncomputable def i38 : DInfo := ⟨Tryz.t38.desc, 8, 80, Tryz.t38.zero, false, false, true⟩
noncomputable def i39 : DInfo := ⟨Tryz.t38.desc, 8, 80, Tryz.t39.zero, false, false, true⟩
noncomputable def i40 : DInfo := ⟨Tryz.t40.desc, 3, 24, Tryz.t40.zero, true, false, true⟩
noncomputable def i41 : DInfo := ⟨Tryz.t40.desc, 3, 24, Tryz.t41.zero, true, false, true⟩
noncomputable def i42 : DInfo := ⟨Tryz.t42.desc, 1, 8, Tryz.t42.zero, false, false, true⟩
noncomputable def i43 : DInfo := ⟨Tryz.t43.desc, 1, 8, Tryz.t43.zero, false, false, true⟩
noncomputable def i44 : DInfo := ⟨Tryz.t44.desc, 1, 8, Tryz.t44.zero, false, false, true⟩
noncomputable def i45 : DInfo := ⟨Tryz.t45.desc, 1, 8, Tryz.t45.zero, false, false, true⟩
noncomputable def i46 : DInfo := ⟨Tryz.t46.desc, 1, 8, Tryz.t46.zero, false, false, true⟩
noncomputable def i47 : DInfo := ⟨Tryz.t47.desc, 1, 8, Tryz.t47.zero, false, false, true⟩
noncomputable def i48 : DInfo := ⟨Tryz.t48.desc, 1, 8, Tryz.t48.zero, false, false, true⟩
noncomputable def i49 : DInfo := ⟨Tryz.t49.desc, 1, 8, Tryz.t49.zero, false, false, true⟩
noncomputable def i50 : DInfo := ⟨Tryz.t50.desc, 1, 8, Tryz.t50.zero, false, false, true⟩
noncomputable def i51 : DInfo := ⟨Tryz.t51.desc, 1, 8, Tryz.t51.zero, true, false, true⟩
noncomputable def i52 : DInfo := ⟨Tryz.t52.desc, 1, 24, Tryz.t52.zero, false, false, true⟩
noncomputable def i53 : DInfo := ⟨Tryz.t53.desc, 2, 32, Tryz.t53.zero, false, false, true⟩
noncomputable def i54 : DInfo := ⟨Tryz.t53.desc, 2, 32, Tryz.t54.zero, false, false, true⟩
noncomputable def i55 : DInfo := ⟨Tryz.t55.desc, 1, 8, Tryz.t55.zero, false, false, true⟩
noncomputable def i56 : DInfo := ⟨Tryz.t56.desc, 1, 16, Tryz.t56.zero, true, true, true⟩
noncomputable def i57 : DInfo := ⟨Tryz.t56.desc, 1, 16, Tryz.t57.zero, true, true, true⟩
noncomputable def i58 : DInfo := ⟨Tryz.t58.desc, 1, 0, Tryz.t58.zero, false, false, true⟩
noncomputable def i59 : DInfo := ⟨Tryz.t59.desc, 1, 8, Tryz.t59.zero, false, false, true⟩
noncomputable def i60 : DInfo := ⟨Tryz.t60.desc, 1, 8, Tryz.t60.zero, false, false, true⟩
noncomputable def i61 : DInfo := ⟨Tryz.t61.desc, 1, 8, Tryz.t61.zero, false, false, true⟩
noncomputable def i62 : DInfo := ⟨Tryz.t62.desc, 1, 8, Tryz.t62.zero, false, false, true⟩
noncomputable def i63 : DInfo := ⟨Tryz.t62.desc, 1, 8, Tryz.t63.zero, false, false, true⟩
noncomputable def i64 : DInfo := ⟨Tryz.t64.desc, 1, 8, Tryz.t64.zero, false, false, true⟩
noncomputable def i65 : DInfo := ⟨Tryz.t65.desc, 1, 0, none, false, false, true⟩
noncomputable def i66 : DInfo := ⟨Tryz.t66.desc, 1, 8, Tryz.t66.zero, false, false, true⟩
noncomputable def i67 : DInfo := ⟨Tryz.t67.desc, 1, 8, Tryz.t67.zero, false, false, true⟩
noncomputable def i68 : DInfo := ⟨Tryz.t68.desc, 1, 8, Tryz.t68.zero, false, false, true⟩
noncomputable def i69 : DInfo := ⟨Tryz.t69.desc, 1, 0, none, false, false, true⟩
noncomputable def i70 : DInfo := ⟨Tryz.t70.desc, 1, 8, Tryz.t70.zero, false, false, true⟩
noncomputable def i71 : DInfo := ⟨Tryz.t71.desc, 1, 8, Tryz.t71.zero, false, false, true⟩
noncomputable def i72 : DInfo := ⟨Tryz.t72.desc, 1, 8, Tryz.t72.zero, false, false, true⟩
noncomputable def i73 : DInfo := ⟨Tryz.t73.desc, 1, 8, Tryz.t73.zero, false, false, true⟩
noncomputable def i74 : DInfo := ⟨Tryz.t74.desc, 1, 8, Tryz.t74.zero, false, false, true⟩
noncomputable def i75 : DInfo := ⟨Tryz.t75.desc, 1, 8, Tryz.t75.zero, false, false, true⟩
noncomputable def i76 : DInfo := ⟨Tryz.t76.desc, 1, 8, Tryz.t76.zero, false, false, true⟩
noncomputable def i77 : DInfo := ⟨Tryz.t77.desc, 1, 8, Tryz.t77.zero, false, false, true⟩
noncomputable def i78 : DInfo := ⟨Tryz.t78.desc, 1, 24, Tryz.t78.zero, false, false, true⟩
noncomputable def i79 : DInfo := ⟨Tryz.t79.desc, 4, 64, Tryz.t79.zero, true, false, true⟩
noncomputable def i80 : DInfo := ⟨Tryz.t80.desc, 1, 8, Tryz.t80.zero, false, false, true⟩
noncomputable def i81 : DInfo := ⟨Tryz.t81.desc, 1, 8, Tryz.t81.zero, true, false, true⟩
noncomputable def i82 : DInfo := ⟨Tryz.t82.desc, 1, 8, Tryz.t82.zero, false, false, true⟩
noncomputable def i83 : DInfo := ⟨Tryz.t83.desc, 1, 8, Tryz.t83.zero, false, false, true⟩
noncomputable def i84 : DInfo := ⟨Tryz.t84.desc, 1, 8, Tryz.t84.zero, false, false, true⟩
noncomputable def i85 : DInfo := ⟨Tryz.t85.desc, 1, 0, Tryz.t85.zero, false, false, true⟩
noncomputable def i86 : DInfo := ⟨Tryz.t86.desc, 1, 8, Tryz.t86.zero, false, false, true⟩
noncomputable def i87 : DInfo := ⟨Tryz.t87.desc, 1, 8, Tryz.t87.zero, false, false, true⟩
noncomputable def i88 : DInfo := ⟨Tryz.t88.desc, 1, 8, Tryz.t88.zero, false, false, true⟩
noncomputable def i89 : DInfo := ⟨Tryz.t89.desc, 1, 0, none, false, false, true⟩
noncomputable def i90 : DInfo := ⟨Tryz.t90.desc, 1, 8, Tryz.t90.zero, false, false, true⟩
noncomputable def i91 : DInfo := ⟨Tryz.t91.desc, 1, 8, Tryz.t91.zero, false, false, true⟩
noncomputable def i92 : DInfo := ⟨Tryz.t91.desc, 1, 8, Tryz.t92.zero, false, false, true⟩
noncomputable def i93 : DInfo := ⟨Tryz.t93.desc, 1, 8, Tryz.t93.zero, false, false, true⟩
noncomputable def i94 : DInfo := ⟨Tryz.t94.desc, 1, 8, Tryz.t94.zero, false, false, true⟩
noncomputable def i95 : DInfo := ⟨Tryz.t95.desc, 1, 0, none, false, false, true⟩
noncomputable def i96 : DInfo := ⟨Tryz.t96.desc, 1, 8, Tryz.t96.zero, false, false, true⟩
noncomputable def i97 : DInfo := ⟨Tryz.t97.desc, 1, 8, Tryz.t97.zero, false, false, true⟩
noncomputable def i98 : DInfo := ⟨Tryz.t97.desc, 1, 8, Tryz.t98.zero, false, false, true⟩
noncomputable def i99 : DInfo := ⟨Tryz.t99.desc, 1, 8, Tryz.t99.zero, false, false, true⟩
noncomputable def i100 : DInfo := ⟨Tryz.t100.desc, 1, 8, Tryz.t100.zero, false, false, true⟩
noncomputable def i101 : DInfo := ⟨Tryz.t101.desc, 1, 8, Tryz.t101.zero, false, false, true⟩
noncomputable def i102 : DInfo := ⟨Tryz.t102.desc, 1, 8, Tryz.t102.zero, false, false, true⟩
noncomputable def i103 : DInfo := ⟨Tryz.t103.desc, 1, 8, Tryz.t103.zero, false, false, true⟩
noncomputable def i104 : DInfo := ⟨Tryz.t104.desc, 1, 8, Tryz.t104.zero, true, false, true⟩
noncomputable def i105 : DInfo := ⟨Tryz.t105.desc, 1, 8, Tryz.t105.zero, false, false, true⟩
noncomputable def i106 : DInfo := ⟨Tryz.t106.desc, 1, 8, Tryz.t106.zero, false, false, true⟩
noncomputable def i107 : DInfo := ⟨Tryz.t107.desc, 1, 8, Tryz.t107.zero, false, false, true⟩
noncomputable def i108 : DInfo := ⟨Tryz.t108.desc, 1, 8, Tryz.t108.zero, false, false, true⟩
noncomputable def i109 : DInfo := ⟨Tryz.t109.desc, 10, 160, Tryz.t109.zero, true, false, true⟩
noncomputable def i110 : DInfo := ⟨Tryz.t110.desc, 1, 0, Tryz.t110.zero, false, false, true⟩
noncomputable def i111 : DInfo := ⟨Tryz.t111.desc, 1, 8, Tryz.t111.zero, false, false, true⟩
noncomputable def i112 : DInfo := ⟨Tryz.t112.desc, 1, 8, Tryz.t112.zero, false, false, true⟩
noncomputable def i113 : DInfo := ⟨Tryz.t113.desc, 1, 8, Tryz.t113.zero, false, false, true⟩
noncomputable def i114 : DInfo := ⟨Tryz.t114.desc, 1, 8, Tryz.t114.zero, false, false, true⟩
noncomputable def i115 : DInfo := ⟨Tryz.t115.desc, 1, 8, Tryz.t115.zero, false, false, true⟩
noncomputable def i116 : DInfo := ⟨Tryz.t116.desc, 1, 8, Tryz.t116.zero, false, false, true⟩
noncomputable def i117 : DInfo := ⟨Tryz.t117.desc, 1, 8, Tryz.t117.zero, false, false, true⟩
noncomputable def i118 : DInfo := ⟨Tryz.t118.desc, 1, 8, Tryz.t118.zero, false, false, true⟩
noncomputable def i119 : DInfo := ⟨Tryz.t119.desc, 1, 8, Tryz.t119.zero, false, false, true⟩
noncomputable def i120 : DInfo := ⟨Tryz.t120.desc, 24, 24, Tryz.t120.zero, true, false, true⟩
noncomputable def i121 : DInfo := ⟨Tryz.t121.desc, 1, 8, Tryz.t121.zero, false, false, true⟩
noncomputable def i122 : DInfo := ⟨Tryz.t122.desc, 1, 8, Tryz.t122.zero, false, false, true⟩
noncomputable def i123 : DInfo := ⟨Tryz.t123.desc, 1, 0, Tryz.t123.zero, false, false, true⟩
noncomputable def i124 : DInfo := ⟨Tryz.t124.desc, 1, 8, Tryz.t124.zero, false, false, true⟩
noncomputable def i125 : DInfo := ⟨Tryz.t125.desc, 1, 8, Tryz.t125.zero, false, false, true⟩
noncomputable def i126 : DInfo := ⟨Tryz.t126.desc, 1, 8, Tryz.t126.zero, false, false, true⟩
noncomputable def i127 : DInfo := ⟨Tryz.t127.desc, 1, 8, Tryz.t127.zero, true, false, true⟩
noncomputable def i128 : DInfo := ⟨Tryz.t128.desc, 1, 0, Tryz.t128.zero, false, false, true⟩
noncomputable def i129 : DInfo := ⟨Tryz.t129.desc, 1, 8, Tryz.t129.zero, false, false, true⟩
noncomputable def i130 : DInfo := ⟨Tryz.t3.desc, 1, 8, Tryz.t130.zero, true, false, true⟩
noncomputable def i131 : DInfo := ⟨Tryz.t131.desc, 1, 0, Tryz.t131.zero, false, false, true⟩
noncomputable def i132 : DInfo := ⟨Tryz.t132.desc, 1, 8, Tryz.t132.zero, false, false, true⟩
noncomputable def i133 : DInfo := ⟨Tryz.t133.desc, 1, 8, Tryz.t133.zero, true, false, true⟩
noncomputable def i134 : DInfo := ⟨Tryz.t134.desc, 1, 8, Tryz.t134.zero, false, false, true⟩
noncomputable def i135 : DInfo := ⟨Tryz.t135.desc, 1, 8, Tryz.t135.zero, false, false, true⟩
noncomputable def i136 : DInfo := ⟨Tryz.t136.desc, 1, 8, Tryz.t136.zero, false, false, true⟩
noncomputable def i137 : DInfo := ⟨Tryz.t137.desc, 1, 8, Tryz.t137.zero, false, false, true⟩
noncomputable def i138 : DInfo := ⟨Tryz.t138.desc, 20, 160, Tryz.t138.zero, true, false, true⟩
noncomputable def i139 : DInfo := ⟨Tryz.t139.desc, 1, 4, Tryz.t139.zero, true, false, true⟩
noncomputable def i140 : DInfo := ⟨Tryz.t140.desc, 65, 65, Tryz.t140.zero, true, false, true⟩
noncomputable def i141 : DInfo := ⟨Tryz.t141.desc, 1, 8, Tryz.t141.zero, false, false, true⟩
noncomputable def i142 : DInfo := ⟨Tryz.t142.desc, 1, 8, Tryz.t142.zero, false, false, true⟩
noncomputable def i143 : DInfo := ⟨Tryz.t143.desc, 1, 0, Tryz.t143.zero, false, false, true⟩
noncomputable def i144 : DInfo := ⟨Tryz.t144.desc, 1, 8, Tryz.t144.zero, false, false, true⟩
noncomputable def i145 : DInfo := ⟨Tryz.t145.desc, 1, 8, Tryz.t145.zero, false, false, true⟩
noncomputable def i146 : DInfo := ⟨Tryz.t146.desc, 3, 48, Tryz.t146.zero, true, true, true⟩
noncomputable def i147 : DInfo := ⟨Tryz.t146.desc, 3, 48, Tryz.t147.zero, true, true, true⟩
noncomputable def i148 : DInfo := ⟨Tryz.t148.desc, 1, 8, Tryz.t148.zero, false, false, true⟩
noncomputable def i149 : DInfo := ⟨Tryz.t149.desc, 1, 8, Tryz.t149.zero, false, false, true⟩
noncomputable def i150 : DInfo := ⟨Tryz.t150.desc, 256, 256, Tryz.t150.zero, true, false, true⟩
noncomputable def i151 : DInfo := ⟨Tryz.t151.desc, 2, 2, Tryz.t151.zero, true, false, true⟩
noncomputable def i152 : DInfo := ⟨Tryz.t151.desc, 2, 2, Tryz.t152.zero, true, false, true⟩
noncomputable def i153 : DInfo := ⟨Tryz.t153.desc, 32, 32, Tryz.t153.zero, true, false, true⟩
noncomputable def i154 : DInfo := ⟨Tryz.t154.desc, 1, 8, Tryz.t154.zero, true, false, true⟩
noncomputable def i155 : DInfo := ⟨Tryz.t155.desc, 1, 16, Tryz.t155.zero, true, false, true⟩
noncomputable def i156 : DInfo := ⟨Tryz.t155.desc, 1, 16, Tryz.t156.zero, true, false, true⟩
noncomputable def i157 : DInfo := ⟨Tryz.t157.desc, 32, 32, Tryz.t157.zero, true, false, true⟩
noncomputable def i158 : DInfo := ⟨Tryz.t158.desc, 64, 64, Tryz.t158.zero, true, false, true⟩
noncomputable def i159 : DInfo := ⟨Tryz.t159.desc, 4, 40, Tryz.t159.zero, true, false, false⟩
noncomputable def i160 : DInfo := ⟨Tryz.t159.desc, 4, 40, Tryz.t160.zero, true, false, false⟩
noncomputable def i161 : DInfo := ⟨Tryz.t161.desc, 0, 0, Tryz.t161.zero, true, false, true⟩
noncomputable def i162 : DInfo := ⟨Tryz.t162.desc, 0, 0, Tryz.t162.zero, true, false, false⟩
noncomputable def i163 : DInfo := ⟨Tryz.t162.desc, 0, 0, Tryz.t163.zero, true, false, false⟩
noncomputable def i164 : DInfo := ⟨Tryz.t164.desc, 1, 8, Tryz.t164.zero, false, false, true⟩
noncomputable def i165 : DInfo := ⟨Tryz.t5.desc, 1, 1, Tryz.t165.zero, true, false, true⟩
noncomputable def i166 : DInfo := ⟨Tryz.t5.desc, 1, 1, Tryz.t166.zero, true, false, true⟩
noncomputable def i167 : DInfo := ⟨Tryz.t167.desc, 1, 8, Tryz.t167.zero, false, false, true⟩
noncomputable def i168 : DInfo := ⟨Tryz.t21.desc, 1, 4, Tryz.t168.zero, true, false, true⟩
noncomputable def i169 : DInfo := ⟨Tryz.t21.desc, 1, 4, Tryz.t169.zero, true, false, true⟩
noncomputable def i170 : DInfo := ⟨Tryz.t170.desc, 11, 48, Tryz.t170.zero, false, false, false⟩
noncomputable def i171 : DInfo := ⟨Tryz.t170.desc, 11, 48, Tryz.t171.zero, false, false, false⟩
noncomputable def ts : List (Nat × DInfo) := [(0, i0), (1, i1), (2, i2), (3, i3), (4, i4), (5, i5), (6, i6), (7, i7), (8, i8), (9, i9), (10, i10), (11, i11), (12, i12), (13, i13), (14, i14), (15, i15), (16, i16), (17, i17), (18, i18), (19, i19), (20, i20), (21, i21), (22, i22), (23, i23), (24, i24), (25, i25), (26, i26), (27, i27), (28, i28), (29, i29), (30, i30), (31, i31), (32, i32), (33, i33), (34, i34), (35, i35), (36, i36), (37, i37), (38, i38), (39, i39), (40, i40), (41, i41), (42, i42), (43, i43), (44, i44), (45, i45), (46, i46), (47, i47), (48, i48), (49, i49), (50, i50), (51, i51), (52, i52), (53, i53), (54, i54), (55, i55), (56, i56), (57, i57), (58, i58), (59, i59), (60, i60), (61, i61), (62, i62), (63, i63), (64, i64), (65, i65), (66, i66), (67, i67), (68, i68), (69, i69), (70, i70), (71, i71), (72, i72), (73, i73), (74, i74), (75, i75), (76, i76), (77, i77), (78, i78), (79, i79), (80, i80), (81, i81), (82, i82), (83, i83), (84, i84), (85, i85), (86, i86), (87, i87), (88, i88), (89, i89), (90, i90), (91, i91), (92, i92), (93, i93), (94, i94), (95, i95), (96, i96), (97, i97), (98, i98), (99, i99), (100, i100), (101, i101), (102, i102), (103, i103), (104, i104), (105, i105), (106, i106), (107, i107), (108, i108), (109, i109), (110, i110), (111, i111), (112, i112), (113, i113), (114, i114), (115, i115), (116, i116), (117, i117), (118, i118), (119, i119), (120, i120), (121, i121), (122, i122), (123, i123), (124, i124), (125, i125), (126, i126), (127, i127), (128, i128), (129, i129), (130, i130), (131, i131), (132, i132), (133, i133), (134, i134), (135, i135), (136, i136), (137, i137), (138, i138), (139, i139), (140, i140), (141, i141), (142, i142), (143, i143), (144, i144), (145, i145), (146, i146), (147, i147), (148, i148), (149, i149), (150, i150), (151, i151), (152, i152), (153, i153), (154, i154), (155, i155), (156, i156), (157, i157), (158, i158), (159, i159), (160, i160), (161, i161), (162, i162), (163, i163), (164, i164), (165, i165), (166, i166), (167, i167), (168, i168), (169, i169), (170, i170), (171, i171)]
noncomputable def tt : PM DInfo := (.node (.node (.node (.node (.node (.node (lf i126) (some i62) (.node .leaf (some i94) (lf i158))) (some i30) (.node (lf i110) (some i46) (.node .leaf (some i78) (lf i142)))) (some i14) (.node (.node (lf i118) (some i54) (.node .leaf (some i86) (lf i150))) (some i22) (.node (.node .leaf (some i102) (lf i166)) (some i38) (.node .leaf (some i70) (lf i134))))) (some i6) (.node (.node (.node (lf i122) (some i58) (.node .leaf (some i90) (lf i154))) (some i26) (.node (.node .leaf (some i106) (lf i170)) (some i42) (.node .leaf (some i74) (lf i138)))) (some i10) (.node (.node (lf i114) (some i50) (.node .leaf (some i82) (lf i146))) (some i18) (.node (.node .leaf (some i98) (lf i162)) (some i34) (.node .leaf (some i66) (lf i130)))))) (some i2) (.node (.node (.node (.node (lf i124) (some i60) (.node .leaf (some i92) (lf i156))) (some i28) (.node (lf i108) (some i44) (.node .leaf (some i76) (lf i140)))) (some i12) (.node (.node (lf i116) (some i52) (.node .leaf (some i84) (lf i148))) (some i20) (.node (.node .leaf (some i100) (lf i164)) (some i36) (.node .leaf (some i68) (lf i132))))) (some i4) (.node (.node (.node (lf i120) (some i56) (.node .leaf (some i88) (lf i152))) (some i24) (.node (.node .leaf (some i104) (lf i168)) (some i40) (.node .leaf (some i72) (lf i136)))) (some i8) (.node (.node (lf i112) (some i48) (.node .leaf (some i80) (lf i144))) (some i16) (.node (.node .leaf (some i96) (lf i160)) (some i32) (.node .leaf (some i64) (lf i128))))))) (some i0) (.node (.node (.node (.node (.node (lf i125) (some i61) (.node .leaf (some i93) (lf i157))) (some i29) (.node (lf i109) (some i45) (.node .leaf (some i77) (lf i141)))) (some i13) (.node (.node (lf i117) (some i53) (.node .leaf (some i85) (lf i149))) (some i21) (.node (.node .leaf (some i101) (lf i165)) (some i37) (.node .leaf (some i69) (lf i133))))) (some i5) (.node (.node (.node (lf i121) (some i57) (.node .leaf (some i89) (lf i153))) (some i25) (.node (.node .leaf (some i105) (lf i169)) (some i41) (.node .leaf (some i73) (lf i137)))) (some i9) (.node (.node (lf i113) (some i49) (.node .leaf (some i81) (lf i145))) (some i17) (.node (.node .leaf (some i97) (lf i161)) (some i33) (.node .leaf (some i65) (lf i129)))))) (some i1) (.node (.node (.node (.node (lf i123) (some i59) (.node .leaf (some i91) (lf i155))) (some i27) (.node (.node .leaf (some i107) (lf i171)) (some i43) (.node .leaf (some i75) (lf i139)))) (some i11) (.node (.node (lf i115) (some i51) (.node .leaf (some i83) (lf i147))) (some i19) (.node (.node .leaf (some i99) (lf i163)) (some i35) (.node .leaf (some i67) (lf i131))))) (some i3) (.node (.node (.node (lf i119) (some i55) (.node .leaf (some i87) (lf i151))) (some i23) (.node (.node .leaf (some i103) (lf i167)) (some i39) (.node .leaf (some i71) (lf i135)))) (some i7) (.node (.node (lf i111) (some i47) (.node .leaf (some i79) (lf i143))) (some i15) (.node (.node .leaf (some i95) (lf i159)) (some i31) (.node .leaf (some i63) (lf i127))))))))
noncomputable def fs : List (Nat × Func) := [(2, Tryz.f2), (3, Tryz.f3), (4, Tryz.f4), (5, Tryz.f5), (6, Tryz.f6), (7, Tryz.f7), (8, Tryz.f8), (9, Tryz.f9), (10, Tryz.f10), (11, Tryz.f11), (12, Tryz.f12), (13, Tryz.f13), (14, Tryz.f14), (15, Tryz.f15), (16, Tryz.f16), (17, Tryz.f17), (18, Tryz.f18), (19, Tryz.f19), (20, Tryz.f20), (21, Tryz.f21), (22, Tryz.f22), (23, Tryz.f23), (24, Tryz.f24), (25, Tryz.f25), (26, Tryz.f26), (27, Tryz.f27), (28, Tryz.f28), (29, Tryz.f29), (30, Tryz.f30), (31, Tryz.f31), (32, Tryz.f32), (33, Tryz.f33), (34, Tryz.f34), (35, Tryz.f35), (36, Tryz.f36), (37, Tryz.f37), (38, Tryz.f38), (39, Tryz.f39), (40, Tryz.f40), (41, Tryz.f41), (42, Tryz.f42), (43, Tryz.f43), (44, Tryz.f44), (45, Tryz.f45), (46, Tryz.f46), (47, Tryz.f47), (48, Tryz.f48), (49, Tryz.f49), (50, Tryz.f50), (51, Tryz.f51), (52, Tryz.f52), (53, Tryz.f53), (54, Tryz.f54), (55, Tryz.f55), (56, Tryz.f56), (57, Tryz.f57), (58, Tryz.f58), (60, Tryz.f60), (61, Tryz.f61), (62, Tryz.f62), (63, Tryz.f63), (64, Tryz.f64), (65, Tryz.f65), (66, Tryz.f66), (67, Tryz.f67), (68, Tryz.f68), (69, Tryz.f69), (70, Tryz.f70), (71, Tryz.f71), (72, Tryz.f72), (73, Tryz.f73), (74, Tryz.f74), (75, Tryz.f75), (76, Tryz.f76), (77, Tryz.f77), (79, Tryz.f79), (80, Tryz.f80), (81, Tryz.f81), (82, Tryz.f82), (83, Tryz.f83), (84, Tryz.f84), (85, Tryz.f85), (86, Tryz.f86), (87, Tryz.f87), (88, Tryz.f88), (89, Tryz.f89), (92, Tryz.f92), (93, Tryz.f93), (94, Tryz.f94), (95, Tryz.f95), (97, Tryz.f97), (98, Tryz.f98), (99, Tryz.f99), (100, Tryz.f100), (101, Tryz.f101), (102, Tryz.f102), (103, Tryz.f103), (104, Tryz.f104), (105, Tryz.f105), (106, Tryz.f106), (107, Tryz.f107), (108, Tryz.f108), (109, Tryz.f109), (110, Tryz.f110), (111, Tryz.f111), (112, Tryz.f112), (113, Tryz.f113), (114, Tryz.f114), (147, Tryz.f147)]
noncomputable def ff : PM Func := (.node (.node (.node (.node (.node (.node .leaf (some Tryz.f62) (lf Tryz.f94)) (some Tryz.f30) (.node (lf Tryz.f110) (some Tryz.f46) .leaf)) (some Tryz.f14) (.node (.node .leaf (some Tryz.f54) (lf Tryz.f86)) (some Tryz.f22) (.node (lf Tryz.f102) (some Tryz.f38) (lf Tryz.f70)))) (some Tryz.f6) (.node (.node (lf Tryz.f58) (some Tryz.f26) (.node (lf Tryz.f106) (some Tryz.f42) (lf Tryz.f74))) (some Tryz.f10) (.node (.node (lf Tryz.f114) (some Tryz.f50) (lf Tryz.f82)) (some Tryz.f18) (.node (lf Tryz.f98) (some Tryz.f34) (lf Tryz.f66))))) (some Tryz.f2) (.node (.node (.node (.node .leaf (some Tryz.f60) (lf Tryz.f92)) (some Tryz.f28) (.node (lf Tryz.f108) (some Tryz.f44) (lf Tryz.f76))) (some Tryz.f12) (.node (.node .leaf (some Tryz.f52) (lf Tryz.f84)) (some Tryz.f20) (.node (lf Tryz.f100) (some Tryz.f36) (lf Tryz.f68)))) (some Tryz.f4) (.node (.node (.node .leaf (some Tryz.f56) (lf Tryz.f88)) (some Tryz.f24) (.node (lf Tryz.f104) (some Tryz.f40) (lf Tryz.f72))) (some Tryz.f8) (.node (.node (lf Tryz.f112) (some Tryz.f48) (lf Tryz.f80)) (some Tryz.f16) (.node .leaf (some Tryz.f32) (lf Tryz.f64)))))) none (.node (.node (.node (.node (.node .leaf (some Tryz.f61) (lf Tryz.f93)) (some Tryz.f29) (.node (lf Tryz.f109) (some Tryz.f45) (lf Tryz.f77))) (some Tryz.f13) (.node (.node .leaf (some Tryz.f53) (lf Tryz.f85)) (some Tryz.f21) (.node (lf Tryz.f101) (some Tryz.f37) (lf Tryz.f69)))) (some Tryz.f5) (.node (.node (.node .leaf (some Tryz.f57) (lf Tryz.f89)) (some Tryz.f25) (.node (lf Tryz.f105) (some Tryz.f41) (lf Tryz.f73))) (some Tryz.f9) (.node (.node (lf Tryz.f113) (some Tryz.f49) (lf Tryz.f81)) (some Tryz.f17) (.node (lf Tryz.f97) (some Tryz.f33) (lf Tryz.f65))))) none (.node (.node (.node .leaf (some Tryz.f27) (.node (lf Tryz.f107) (some Tryz.f43) (lf Tryz.f75))) (some Tryz.f11) (.node (.node .leaf (some Tryz.f51) (.node .leaf (some Tryz.f83) (lf Tryz.f147))) (some Tryz.f19) (.node (lf Tryz.f99) (some Tryz.f35) (lf Tryz.f67)))) (some Tryz.f3) (.node (.node (.node .leaf (some Tryz.f55) (lf Tryz.f87)) (some Tryz.f23) (.node (lf Tryz.f103) (some Tryz.f39) (lf Tryz.f71))) (some Tryz.f7) (.node (.node (lf Tryz.f111) (some Tryz.f47) (lf Tryz.f79)) (some Tryz.f15) (.node (lf Tryz.f95) (some Tryz.f31) (lf Tryz.f63)))))))
noncomputable def globs : Nat := 10
theorem tt_eq : tt = layD ts := by kernel_rfl
theorem ff_eq : ff = layD fs := by kernel_rfl
theorem info_eq : ts.map (fun p => infoOf Tryz.prog p.1) = ts.map fun p => some p.2 := by kernel_rfl
theorem funcs_eq : ∀ p ∈ fs, Tryz.prog.funcs[p.1]? = some p.2 := by
  have key : fs.map (fun p => Tryz.prog.funcs[p.1]?) = fs.map fun p => some p.2 := by kernel_rfl
  exact fun p hp => List.map_inj_left.1 key p hp
theorem names_eq : fs.all (fun p => !(p.2.name == "runtime.NumGoroutine")) = true := by kernel_rfl
theorem mixed : Tryz.prog.follows .mixedOrders = true := by kernel_rfl
/-- The environment, with given functions stood in for. -/
noncomputable def env (prim : Nat → Option (List Value → St → Option (Value × St))) : Env := { inf := tt.get, fn := ff.get, prim, globs }
theorem env_ok (prim : Nat → Option (List Value → St → Option (Value × St))) : (env prim).Ok Tryz.prog :=
  envOk (fun t => by show tt.get t = _; rw [tt_eq]) (fun f => by show ff.get f = _; rw [ff_eq]) info_eq funcs_eq names_eq
end Go.Proofs.YtfopfocedlbihaaGreatDoor.DEnv

/- The seat's base: D over the program, without stand-ins; structs' cells (printed by GenBase.lean). -/
namespace Go.Proofs.YtfopfocedlbihaaGreatDoor
open Go Go.Proofs.YtfopfocedlbihaaGreatDoor.D
abbrev pN : PNums := ⟨34, 43, 66, 68, 88, 105, 86, 2, 4, 5, 133⟩
abbrev pB : BNums := ⟨35, 19, 63, 42, 2, 54, 5⟩
noncomputable def E0 : Env := DEnv.env (primsC pN pB)
/-- [x, y, signed, code] -/
abbrev G7 : List Sc := [.int .i64, .int .i64, .bool, .int .u8]
/-- [msg, addr] -/
abbrev G13 : List Sc := [.str, .int .u64]
/-- [Kind, Robot, N, At, With, Draw] -/
abbrev G36 : List Sc := [.int .i64, .int .i64, .int .i64, .int .i64, .int .i64, .int .u64]
/-- [Order, Err, Steps] -/
abbrev G38 : List Sc := [.int .i64, .int .i64, .int .i64, .int .i64, .int .i64, .int .u64, .int .i64, .sl]
/-- [Kind, Robot, Cell] -/
abbrev G40 : List Sc := [.int .i64, .int .i64, .int .i64]
/-- [addr, buf] -/
abbrev G53 : List Sc := [.ptr, .sl]
/-- [Func, Num, Err] -/
abbrev G146 : List Sc := [.str, .str, .any]
/-- [lo, hi] -/
abbrev G151 : List Sc := [.int .u8, .int .u8]
/-- [_interface, concrete, asserted, missingMethod] -/
abbrev G159 : List Sc := [.ptr, .ptr, .ptr, .str]
/-- [Size_, PtrBytes, Hash, TFlag, Align_, FieldAlign_, Kind_, Equal, GCData, Str, PtrToThis] -/
abbrev G170 : List Sc := [.int .u64, .int .u64, .int .u32, .int .u8, .int .u8, .int .u8, .int .u8, .any, .ptr, .int .i32, .int .i32]
end Go.Proofs.YtfopfocedlbihaaGreatDoor
