/- Parts of the proof, put together. -/
import Derived.Test.YtabbbfdlgmoniaaDoorDC
import Derived.Test.YtabbbfdlgmoniaaDoorChecked
import Derived.KernelRfl
import Derived.Test.YtabbbfdlgmoniaaDoorDE
/-
  D over this seat's program: what D is told of its types and functions (printed by GenEnv.lean).
-/
namespace Go.Proofs.YtabbbfdlgmoniaaDoor.DEnv
open Go.Proofs.YtabbbfdlgmoniaaDoor.D
abbrev lf {α : Type} (v : α) : PM α := .node .leaf (some v) .leaf
noncomputable def i0 : DInfo := ⟨Tryd.t0.desc, 1, 0, Tryd.t0.zero, false, false, true⟩
noncomputable def i1 : DInfo := ⟨Tryd.t1.desc, 1, 8, Tryd.t1.zero, false, false, true⟩
noncomputable def i2 : DInfo := ⟨Tryd.t2.desc, 1, 8, Tryd.t2.zero, true, false, true⟩
noncomputable def i3 : DInfo := ⟨Tryd.t3.desc, 1, 8, Tryd.t3.zero, true, false, true⟩
noncomputable def i4 : DInfo := ⟨Tryd.t4.desc, 1, 1, Tryd.t4.zero, true, false, true⟩
noncomputable def i5 : DInfo := ⟨Tryd.t5.desc, 1, 1, Tryd.t5.zero, true, false, true⟩
noncomputable def i6 : DInfo := ⟨Tryd.t5.desc, 1, 1, Tryd.t6.zero, true, false, true⟩
noncomputable def i7 : DInfo := ⟨Tryd.t7.desc, 4, 24, Tryd.t7.zero, true, false, true⟩
noncomputable def i8 : DInfo := ⟨Tryd.t7.desc, 4, 24, Tryd.t8.zero, true, false, true⟩
noncomputable def i9 : DInfo := ⟨Tryd.t9.desc, 1, 16, Tryd.t9.zero, true, false, true⟩
noncomputable def i10 : DInfo := ⟨Tryd.t9.desc, 1, 16, Tryd.t10.zero, true, false, true⟩
noncomputable def i11 : DInfo := ⟨Tryd.t9.desc, 1, 16, Tryd.t11.zero, true, false, true⟩
noncomputable def i12 : DInfo := ⟨Tryd.t12.desc, 1, 8, Tryd.t12.zero, true, false, true⟩
noncomputable def i13 : DInfo := ⟨Tryd.t13.desc, 2, 24, Tryd.t13.zero, true, false, false⟩
noncomputable def i14 : DInfo := ⟨Tryd.t13.desc, 2, 24, Tryd.t14.zero, true, false, false⟩
noncomputable def i15 : DInfo := ⟨Tryd.t15.desc, 1, 8, Tryd.t15.zero, true, false, true⟩
noncomputable def i16 : DInfo := ⟨Tryd.t16.desc, 1, 8, Tryd.t16.zero, true, false, true⟩
noncomputable def i17 : DInfo := ⟨Tryd.t17.desc, 1, 8, Tryd.t17.zero, true, false, true⟩
noncomputable def i18 : DInfo := ⟨Tryd.t18.desc, 1, 8, Tryd.t18.zero, true, false, false⟩
noncomputable def i19 : DInfo := ⟨Tryd.t18.desc, 1, 8, Tryd.t19.zero, true, false, false⟩
noncomputable def i20 : DInfo := ⟨Tryd.t20.desc, 1, 16, Tryd.t20.zero, true, false, true⟩
noncomputable def i21 : DInfo := ⟨Tryd.t21.desc, 1, 4, Tryd.t21.zero, true, false, true⟩
noncomputable def i22 : DInfo := ⟨Tryd.t22.desc, 1, 8, Tryd.t22.zero, true, false, true⟩
noncomputable def i23 : DInfo := ⟨Tryd.t23.desc, 6, 48, Tryd.t23.zero, true, false, true⟩
noncomputable def i24 : DInfo := ⟨Tryd.t23.desc, 6, 48, Tryd.t24.zero, true, false, true⟩
noncomputable def i25 : DInfo := ⟨Tryd.t3.desc, 1, 8, Tryd.t25.zero, true, false, true⟩
noncomputable def i26 : DInfo := ⟨Tryd.t26.desc, 1, 0, Tryd.t26.zero, false, false, true⟩
noncomputable def i27 : DInfo := ⟨Tryd.t27.desc, 1, 8, Tryd.t27.zero, false, false, true⟩
noncomputable def i28 : DInfo := ⟨Tryd.t28.desc, 1, 0, Tryd.t28.zero, false, false, true⟩
noncomputable def i29 : DInfo := ⟨Tryd.t29.desc, 1, 8, Tryd.t29.zero, false, false, true⟩
noncomputable def i30 : DInfo := ⟨Tryd.t30.desc, 1, 0, none, false, false, true⟩
noncomputable def i31 : DInfo := ⟨Tryd.t31.desc, 1, 8, Tryd.t31.zero, false, false, true⟩
noncomputable def i32 : DInfo := ⟨Tryd.t32.desc, 1, 0, none, false, false, true⟩
noncomputable def i33 : DInfo := ⟨Tryd.t33.desc, 1, 8, Tryd.t33.zero, false, false, true⟩
noncomputable def i34 : DInfo := ⟨Tryd.t34.desc, 1, 8, Tryd.t34.zero, false, false, true⟩
noncomputable def i35 : DInfo := ⟨Tryd.t35.desc, 1, 8, Tryd.t35.zero, false, false, true⟩
noncomputable def i36 : DInfo := ⟨Tryd.t36.desc, 1, 8, Tryd.t36.zero, false, false, true⟩
noncomputable def i37 : DInfo := ⟨Tryd.t37.desc, 1, 8, Tryd.t37.zero, false, false, true⟩
noncomputable def i38 : DInfo := ⟨Tryd.t38.desc, 1, 8, Tryd.t38.zero, false, false, true⟩
noncomputable def i39 : DInfo := ⟨Tryd.t39.desc, 1, 24, Tryd.t39.zero, false, false, true⟩
noncomputable def i40 : DInfo := ⟨Tryd.t40.desc, 1, 8, Tryd.t40.zero, false, false, true⟩
noncomputable def i41 : DInfo := ⟨Tryd.t41.desc, 1, 8, Tryd.t41.zero, false, false, true⟩
noncomputable def i42 : DInfo := ⟨Tryd.t42.desc, 1, 0, Tryd.t42.zero, false, false, true⟩
noncomputable def i43 : DInfo := ⟨Tryd.t43.desc, 1, 8, Tryd.t43.zero, false, false, true⟩
noncomputable def i44 : DInfo := ⟨Tryd.t44.desc, 1, 0, Tryd.t44.zero, false, false, true⟩
noncomputable def i45 : DInfo := ⟨Tryd.t45.desc, 1, 8, Tryd.t45.zero, false, false, true⟩
noncomputable def i46 : DInfo := ⟨Tryd.t46.desc, 1, 8, Tryd.t46.zero, false, false, true⟩
noncomputable def i47 : DInfo := ⟨Tryd.t47.desc, 1, 8, Tryd.t47.zero, false, false, true⟩
noncomputable def i48 : DInfo := ⟨Tryd.t48.desc, 1, 8, Tryd.t48.zero, false, false, true⟩
noncomputable def i49 : DInfo := ⟨Tryd.t49.desc, 1, 24, Tryd.t49.zero, false, false, true⟩
noncomputable def i50 : DInfo := ⟨Tryd.t50.desc, 1, 24, Tryd.t50.zero, false, false, true⟩
noncomputable def i51 : DInfo := ⟨Tryd.t51.desc, 1, 24, Tryd.t51.zero, false, false, true⟩
noncomputable def i52 : DInfo := ⟨Tryd.t52.desc, 1, 24, Tryd.t52.zero, false, false, true⟩
noncomputable def i53 : DInfo := ⟨Tryd.t53.desc, 9, 200, Tryd.t53.zero, false, false, true⟩
noncomputable def i54 : DInfo := ⟨Tryd.t53.desc, 9, 200, Tryd.t54.zero, false, false, true⟩
noncomputable def i55 : DInfo := ⟨Tryd.t55.desc, 1, 8, Tryd.t55.zero, false, false, true⟩
noncomputable def i56 : DInfo := ⟨Tryd.t56.desc, 1, 24, Tryd.t56.zero, false, false, true⟩
noncomputable def i57 : DInfo := ⟨Tryd.t57.desc, 1, 8, Tryd.t57.zero, false, false, true⟩
noncomputable def i58 : DInfo := ⟨Tryd.t58.desc, 3, 24, Tryd.t58.zero, true, false, true⟩
noncomputable def i59 : DInfo := ⟨Tryd.t58.desc, 3, 24, Tryd.t59.zero, true, false, true⟩
noncomputable def i60 : DInfo := ⟨Tryd.t60.desc, 1, 24, Tryd.t60.zero, false, false, true⟩
noncomputable def i61 : DInfo := ⟨Tryd.t61.desc, 1, 4, Tryd.t61.zero, true, false, true⟩
noncomputable def i62 : DInfo := ⟨Tryd.t62.desc, 2, 16, Tryd.t62.zero, true, false, true⟩
noncomputable def i63 : DInfo := ⟨Tryd.t62.desc, 2, 16, Tryd.t63.zero, true, false, true⟩
noncomputable def i64 : DInfo := ⟨Tryd.t64.desc, 1, 8, Tryd.t64.zero, false, false, true⟩
noncomputable def i65 : DInfo := ⟨Tryd.t65.desc, 1, 8, Tryd.t65.zero, false, false, true⟩
noncomputable def i66 : DInfo := ⟨Tryd.t66.desc, 1, 24, Tryd.t66.zero, false, false, true⟩
noncomputable def i67 : DInfo := ⟨Tryd.t67.desc, 8, 80, Tryd.t67.zero, false, false, true⟩
noncomputable def i68 : DInfo := ⟨Tryd.t67.desc, 8, 80, Tryd.t68.zero, false, false, true⟩
noncomputable def i69 : DInfo := ⟨Tryd.t69.desc, 1, 8, Tryd.t69.zero, false, false, true⟩
noncomputable def i70 : DInfo := ⟨Tryd.t70.desc, 1, 24, Tryd.t70.zero, false, false, true⟩
noncomputable def i71 : DInfo := ⟨Tryd.t71.desc, 1, 8, Tryd.t71.zero, false, false, true⟩
noncomputable def i72 : DInfo := ⟨Tryd.t72.desc, 1, 8, Tryd.t72.zero, false, false, true⟩
noncomputable def i73 : DInfo := ⟨Tryd.t73.desc, 1, 0, none, false, false, true⟩
noncomputable def i74 : DInfo := ⟨Tryd.t74.desc, 1, 8, Tryd.t74.zero, false, false, true⟩
noncomputable def i75 : DInfo := ⟨Tryd.t75.desc, 1, 0, none, false, false, true⟩
noncomputable def i76 : DInfo := ⟨Tryd.t76.desc, 1, 8, Tryd.t76.zero, false, false, true⟩
noncomputable def i77 : DInfo := ⟨Tryd.t77.desc, 1, 8, Tryd.t77.zero, false, false, true⟩
noncomputable def i78 : DInfo := ⟨Tryd.t78.desc, 1, 8, Tryd.t78.zero, false, false, true⟩
noncomputable def i79 : DInfo := ⟨Tryd.t79.desc, 1, 8, Tryd.t79.zero, false, false, true⟩
noncomputable def i80 : DInfo := ⟨Tryd.t80.desc, 1, 24, Tryd.t80.zero, false, false, true⟩
noncomputable def i81 : DInfo := ⟨Tryd.t81.desc, 1, 8, Tryd.t81.zero, false, false, true⟩
noncomputable def i82 : DInfo := ⟨Tryd.t82.desc, 1, 8, Tryd.t82.zero, false, false, true⟩
noncomputable def i83 : DInfo := ⟨Tryd.t83.desc, 1, 24, Tryd.t83.zero, false, false, true⟩
noncomputable def i84 : DInfo := ⟨Tryd.t84.desc, 1, 8, Tryd.t84.zero, false, false, true⟩
noncomputable def i85 : DInfo := ⟨Tryd.t85.desc, 1, 8, Tryd.t85.zero, false, false, true⟩
noncomputable def i86 : DInfo := ⟨Tryd.t85.desc, 1, 8, Tryd.t86.zero, false, false, true⟩
noncomputable def i87 : DInfo := ⟨Tryd.t87.desc, 1, 8, Tryd.t87.zero, false, false, true⟩
noncomputable def i88 : DInfo := ⟨Tryd.t88.desc, 1, 8, Tryd.t88.zero, false, false, true⟩
noncomputable def i89 : DInfo := ⟨Tryd.t89.desc, 1, 8, Tryd.t89.zero, false, false, true⟩
noncomputable def i90 : DInfo := ⟨Tryd.t90.desc, 1, 8, Tryd.t90.zero, false, false, true⟩
noncomputable def i91 : DInfo := ⟨Tryd.t91.desc, 1, 8, Tryd.t91.zero, false, false, true⟩
noncomputable def i92 : DInfo := ⟨Tryd.t92.desc, 1, 8, Tryd.t92.zero, false, false, true⟩
noncomputable def i93 : DInfo := ⟨Tryd.t93.desc, 10, 160, Tryd.t93.zero, true, false, true⟩
noncomputable def i94 : DInfo := ⟨Tryd.t94.desc, 1, 8, Tryd.t94.zero, false, false, true⟩
noncomputable def i95 : DInfo := ⟨Tryd.t95.desc, 1, 16, Tryd.t95.zero, true, true, true⟩
noncomputable def i96 : DInfo := ⟨Tryd.t95.desc, 1, 16, Tryd.t96.zero, true, true, true⟩
noncomputable def i97 : DInfo := ⟨Tryd.t97.desc, 1, 0, Tryd.t97.zero, false, false, true⟩
noncomputable def i98 : DInfo := ⟨Tryd.t98.desc, 1, 8, Tryd.t98.zero, false, false, true⟩
noncomputable def i99 : DInfo := ⟨Tryd.t99.desc, 1, 0, Tryd.t99.zero, false, false, true⟩
noncomputable def i100 : DInfo := ⟨Tryd.t100.desc, 1, 8, Tryd.t100.zero, false, false, true⟩
noncomputable def i101 : DInfo := ⟨Tryd.t101.desc, 1, 8, Tryd.t101.zero, false, false, true⟩
noncomputable def i102 : DInfo := ⟨Tryd.t102.desc, 1, 8, Tryd.t102.zero, false, false, true⟩
noncomputable def i103 : DInfo := ⟨Tryd.t103.desc, 1, 8, Tryd.t103.zero, false, false, true⟩
noncomputable def i104 : DInfo := ⟨Tryd.t104.desc, 1, 8, Tryd.t104.zero, false, false, true⟩
noncomputable def i105 : DInfo := ⟨Tryd.t105.desc, 1, 8, Tryd.t105.zero, false, false, true⟩
noncomputable def i106 : DInfo := ⟨Tryd.t106.desc, 1, 8, Tryd.t106.zero, false, false, true⟩
noncomputable def i107 : DInfo := ⟨Tryd.t107.desc, 1, 8, Tryd.t107.zero, true, false, true⟩
noncomputable def i108 : DInfo := ⟨Tryd.t108.desc, 2, 32, Tryd.t108.zero, false, false, true⟩
noncomputable def i109 : DInfo := ⟨Tryd.t108.desc, 2, 32, Tryd.t109.zero, false, false, true⟩
noncomputable def i110 : DInfo := ⟨Tryd.t110.desc, 1, 8, Tryd.t110.zero, false, false, true⟩
noncomputable def i111 : DInfo := ⟨Tryd.t110.desc, 1, 8, Tryd.t111.zero, false, false, true⟩
noncomputable def i112 : DInfo := ⟨Tryd.t112.desc, 1, 8, Tryd.t112.zero, false, false, true⟩
noncomputable def i113 : DInfo := ⟨Tryd.t113.desc, 1, 8, Tryd.t113.zero, false, false, true⟩
noncomputable def i114 : DInfo := ⟨Tryd.t114.desc, 1, 8, Tryd.t114.zero, false, false, true⟩
noncomputable def i115 : DInfo := ⟨Tryd.t115.desc, 1, 8, Tryd.t115.zero, false, false, true⟩
noncomputable def i116 : DInfo := ⟨Tryd.t116.desc, 1, 8, Tryd.t116.zero, false, false, true⟩
noncomputable def i117 : DInfo := ⟨Tryd.t117.desc, 1, 8, Tryd.t117.zero, false, false, true⟩
noncomputable def i118 : DInfo := ⟨Tryd.t117.desc, 1, 8, Tryd.t118.zero, false, false, true⟩
noncomputable def i119 : DInfo := ⟨Tryd.t119.desc, 1, 8, Tryd.t119.zero, false, false, true⟩
noncomputable def i120 : DInfo := ⟨Tryd.t120.desc, 1, 8, Tryd.t120.zero, false, false, true⟩
noncomputable def i121 : DInfo := ⟨Tryd.t121.desc, 1, 8, Tryd.t121.zero, false, false, true⟩
noncomputable def i122 : DInfo := ⟨Tryd.t122.desc, 1, 8, Tryd.t122.zero, false, false, true⟩
noncomputable def i123 : DInfo := ⟨Tryd.t123.desc, 1, 8, Tryd.t123.zero, false, false, true⟩
noncomputable def i124 : DInfo := ⟨Tryd.t124.desc, 1, 8, Tryd.t124.zero, false, false, true⟩
noncomputable def i125 : DInfo := ⟨Tryd.t125.desc, 8, 128, Tryd.t125.zero, true, false, true⟩
noncomputable def i126 : DInfo := ⟨Tryd.t126.desc, 3, 24, Tryd.t126.zero, true, false, true⟩
noncomputable def i127 : DInfo := ⟨Tryd.t126.desc, 3, 24, Tryd.t127.zero, true, false, true⟩
noncomputable def i128 : DInfo := ⟨Tryd.t128.desc, 4, 64, Tryd.t128.zero, true, false, true⟩
noncomputable def i129 : DInfo := ⟨Tryd.t129.desc, 1, 8, Tryd.t129.zero, false, false, true⟩
noncomputable def i130 : DInfo := ⟨Tryd.t130.desc, 1, 0, Tryd.t130.zero, false, false, true⟩
noncomputable def i131 : DInfo := ⟨Tryd.t131.desc, 1, 8, Tryd.t131.zero, false, false, true⟩
noncomputable def i132 : DInfo := ⟨Tryd.t132.desc, 1, 8, Tryd.t132.zero, false, false, true⟩
noncomputable def i133 : DInfo := ⟨Tryd.t132.desc, 1, 8, Tryd.t133.zero, false, false, true⟩
noncomputable def i134 : DInfo := ⟨Tryd.t134.desc, 1, 8, Tryd.t134.zero, false, false, true⟩
noncomputable def i135 : DInfo := ⟨Tryd.t135.desc, 1, 8, Tryd.t135.zero, false, false, true⟩
noncomputable def i136 : DInfo := ⟨Tryd.t136.desc, 1, 8, Tryd.t136.zero, false, false, true⟩
noncomputable def i137 : DInfo := ⟨Tryd.t137.desc, 1, 8, Tryd.t137.zero, false, false, true⟩
noncomputable def i138 : DInfo := ⟨Tryd.t138.desc, 1, 8, Tryd.t138.zero, false, false, true⟩
noncomputable def i139 : DInfo := ⟨Tryd.t139.desc, 1, 8, Tryd.t139.zero, false, false, true⟩
noncomputable def i140 : DInfo := ⟨Tryd.t139.desc, 1, 8, Tryd.t140.zero, false, false, true⟩
noncomputable def i141 : DInfo := ⟨Tryd.t141.desc, 1, 8, Tryd.t141.zero, false, false, true⟩
noncomputable def i142 : DInfo := ⟨Tryd.t142.desc, 1, 8, Tryd.t142.zero, false, false, true⟩
noncomputable def i143 : DInfo := ⟨Tryd.t143.desc, 1, 8, Tryd.t143.zero, false, false, true⟩
noncomputable def i144 : DInfo := ⟨Tryd.t144.desc, 1, 8, Tryd.t144.zero, false, false, true⟩
noncomputable def i145 : DInfo := ⟨Tryd.t145.desc, 1, 8, Tryd.t145.zero, false, false, true⟩
noncomputable def i146 : DInfo := ⟨Tryd.t146.desc, 1, 8, Tryd.t146.zero, false, false, true⟩
noncomputable def i147 : DInfo := ⟨Tryd.t147.desc, 1, 8, Tryd.t147.zero, false, false, true⟩
noncomputable def i148 : DInfo := ⟨Tryd.t148.desc, 1, 8, Tryd.t148.zero, true, false, true⟩
noncomputable def i149 : DInfo := ⟨Tryd.t149.desc, 1, 8, Tryd.t149.zero, false, false, true⟩
noncomputable def i150 : DInfo := ⟨Tryd.t150.desc, 1, 8, Tryd.t150.zero, false, false, true⟩
noncomputable def i151 : DInfo := ⟨Tryd.t151.desc, 1, 8, Tryd.t151.zero, false, false, true⟩
noncomputable def i152 : DInfo := ⟨Tryd.t152.desc, 1, 8, Tryd.t152.zero, false, false, true⟩
noncomputable def i153 : DInfo := ⟨Tryd.t153.desc, 1, 8, Tryd.t153.zero, false, false, true⟩
noncomputable def i154 : DInfo := ⟨Tryd.t154.desc, 1, 8, Tryd.t154.zero, false, false, true⟩
noncomputable def i155 : DInfo := ⟨Tryd.t155.desc, 1, 8, Tryd.t155.zero, false, false, true⟩
noncomputable def i156 : DInfo := ⟨Tryd.t156.desc, 1, 8, Tryd.t156.zero, false, false, true⟩
noncomputable def i157 : DInfo := ⟨Tryd.t157.desc, 1, 8, Tryd.t157.zero, false, false, true⟩
noncomputable def i158 : DInfo := ⟨Tryd.t158.desc, 1, 8, Tryd.t158.zero, false, false, true⟩
noncomputable def i159 : DInfo := ⟨Tryd.t159.desc, 1, 8, Tryd.t159.zero, false, false, true⟩
noncomputable def i160 : DInfo := ⟨Tryd.t160.desc, 1, 8, Tryd.t160.zero, false, false, true⟩
noncomputable def i161 : DInfo := ⟨Tryd.t161.desc, 1, 8, Tryd.t161.zero, false, false, true⟩
noncomputable def i162 : DInfo := ⟨Tryd.t162.desc, 1, 8, Tryd.t162.zero, false, false, true⟩
noncomputable def i163 : DInfo := ⟨Tryd.t163.desc, 1, 8, Tryd.t163.zero, false, false, true⟩
noncomputable def i164 : DInfo := ⟨Tryd.t164.desc, 1, 8, Tryd.t164.zero, true, false, true⟩
noncomputable def i165 : DInfo := ⟨Tryd.t165.desc, 1, 8, Tryd.t165.zero, false, false, true⟩
noncomputable def i166 : DInfo := ⟨Tryd.t166.desc, 1, 8, Tryd.t166.zero, false, false, true⟩
noncomputable def i167 : DInfo := ⟨Tryd.t167.desc, 1, 8, Tryd.t167.zero, false, false, true⟩
noncomputable def i168 : DInfo := ⟨Tryd.t168.desc, 24, 24, Tryd.t168.zero, true, false, true⟩
noncomputable def i169 : DInfo := ⟨Tryd.t169.desc, 1, 8, Tryd.t169.zero, false, false, true⟩
noncomputable def i170 : DInfo := ⟨Tryd.t170.desc, 1, 8, Tryd.t170.zero, false, false, true⟩
noncomputable def i171 : DInfo := ⟨Tryd.t171.desc, 1, 0, Tryd.t171.zero, false, false, true⟩
noncomputable def i172 : DInfo := ⟨Tryd.t172.desc, 1, 8, Tryd.t172.zero, false, false, true⟩
noncomputable def i173 : DInfo := ⟨Tryd.t173.desc, 1, 8, Tryd.t173.zero, false, false, true⟩
noncomputable def i174 : DInfo := ⟨Tryd.t174.desc, 1, 8, Tryd.t174.zero, false, false, true⟩
noncomputable def i175 : DInfo := ⟨Tryd.t3.desc, 1, 8, Tryd.t175.zero, true, false, true⟩
noncomputable def i176 : DInfo := ⟨Tryd.t176.desc, 1, 0, Tryd.t176.zero, false, false, true⟩
noncomputable def i177 : DInfo := ⟨Tryd.t177.desc, 1, 8, Tryd.t177.zero, false, false, true⟩
noncomputable def i178 : DInfo := ⟨Tryd.t178.desc, 1, 8, Tryd.t178.zero, true, false, true⟩
noncomputable def i179 : DInfo := ⟨Tryd.t179.desc, 1, 8, Tryd.t179.zero, false, false, true⟩
noncomputable def i180 : DInfo := ⟨Tryd.t180.desc, 1, 8, Tryd.t180.zero, false, false, true⟩
noncomputable def i181 : DInfo := ⟨Tryd.t181.desc, 1, 8, Tryd.t181.zero, false, false, true⟩
noncomputable def i182 : DInfo := ⟨Tryd.t182.desc, 1, 8, Tryd.t182.zero, true, false, true⟩
noncomputable def i183 : DInfo := ⟨Tryd.t183.desc, 1, 8, Tryd.t183.zero, false, false, true⟩
noncomputable def i184 : DInfo := ⟨Tryd.t184.desc, 1, 8, Tryd.t184.zero, false, false, true⟩
noncomputable def i185 : DInfo := ⟨Tryd.t185.desc, 1, 8, Tryd.t185.zero, false, false, true⟩
noncomputable def i186 : DInfo := ⟨Tryd.t186.desc, 1, 8, Tryd.t186.zero, false, false, true⟩
noncomputable def i187 : DInfo := ⟨Tryd.t187.desc, 1, 8, Tryd.t187.zero, false, false, true⟩
noncomputable def i188 : DInfo := ⟨Tryd.t188.desc, 1, 8, Tryd.t188.zero, false, false, true⟩
noncomputable def i189 : DInfo := ⟨Tryd.t189.desc, 1, 8, Tryd.t189.zero, false, false, true⟩
noncomputable def i190 : DInfo := ⟨Tryd.t3.desc, 1, 8, Tryd.t190.zero, true, false, true⟩
noncomputable def i191 : DInfo := ⟨Tryd.t191.desc, 1, 0, Tryd.t191.zero, false, false, true⟩
noncomputable def i192 : DInfo := ⟨Tryd.t192.desc, 1, 8, Tryd.t192.zero, false, false, true⟩
noncomputable def i193 : DInfo := ⟨Tryd.t193.desc, 1, 8, Tryd.t193.zero, false, false, true⟩
noncomputable def i194 : DInfo := ⟨Tryd.t194.desc, 1, 8, Tryd.t194.zero, false, false, true⟩
noncomputable def i195 : DInfo := ⟨Tryd.t195.desc, 1, 0, Tryd.t195.zero, false, false, true⟩
noncomputable def i196 : DInfo := ⟨Tryd.t196.desc, 1, 8, Tryd.t196.zero, false, false, true⟩
noncomputable def i197 : DInfo := ⟨Tryd.t197.desc, 1, 8, Tryd.t197.zero, false, false, true⟩
noncomputable def i198 : DInfo := ⟨Tryd.t198.desc, 1, 8, Tryd.t198.zero, false, false, true⟩
noncomputable def i199 : DInfo := ⟨Tryd.t199.desc, 1, 8, Tryd.t199.zero, false, false, true⟩
noncomputable def i200 : DInfo := ⟨Tryd.t200.desc, 20, 160, Tryd.t200.zero, true, false, true⟩
noncomputable def i201 : DInfo := ⟨Tryd.t201.desc, 65, 65, Tryd.t201.zero, true, false, true⟩
noncomputable def i202 : DInfo := ⟨Tryd.t202.desc, 1, 8, Tryd.t202.zero, false, false, true⟩
noncomputable def i203 : DInfo := ⟨Tryd.t203.desc, 1, 0, Tryd.t203.zero, false, false, true⟩
noncomputable def i204 : DInfo := ⟨Tryd.t204.desc, 1, 8, Tryd.t204.zero, false, false, true⟩
noncomputable def i205 : DInfo := ⟨Tryd.t205.desc, 1, 8, Tryd.t205.zero, false, false, true⟩
noncomputable def i206 : DInfo := ⟨Tryd.t206.desc, 3, 48, Tryd.t206.zero, true, true, true⟩
noncomputable def i207 : DInfo := ⟨Tryd.t206.desc, 3, 48, Tryd.t207.zero, true, true, true⟩
noncomputable def i208 : DInfo := ⟨Tryd.t208.desc, 1, 8, Tryd.t208.zero, false, false, true⟩
noncomputable def i209 : DInfo := ⟨Tryd.t209.desc, 1, 8, Tryd.t209.zero, false, false, true⟩
noncomputable def i210 : DInfo := ⟨Tryd.t210.desc, 1, 8, Tryd.t210.zero, false, false, true⟩
noncomputable def i211 : DInfo := ⟨Tryd.t22.desc, 1, 8, Tryd.t211.zero, true, false, true⟩
noncomputable def i212 : DInfo := ⟨Tryd.t212.desc, 1, 8, Tryd.t212.zero, false, false, true⟩
noncomputable def i213 : DInfo := ⟨Tryd.t213.desc, 1, 8, Tryd.t213.zero, false, false, true⟩
noncomputable def i214 : DInfo := ⟨Tryd.t214.desc, 1, 8, Tryd.t214.zero, false, false, true⟩
noncomputable def i215 : DInfo := ⟨Tryd.t215.desc, 1, 8, Tryd.t215.zero, true, false, true⟩
noncomputable def i216 : DInfo := ⟨Tryd.t216.desc, 1, 8, Tryd.t216.zero, false, false, true⟩
noncomputable def i217 : DInfo := ⟨Tryd.t217.desc, 1, 8, Tryd.t217.zero, true, false, true⟩
noncomputable def i218 : DInfo := ⟨Tryd.t218.desc, 1, 16, Tryd.t218.zero, true, false, true⟩
noncomputable def i219 : DInfo := ⟨Tryd.t218.desc, 1, 16, Tryd.t219.zero, true, false, true⟩
noncomputable def i220 : DInfo := ⟨Tryd.t220.desc, 1, 8, Tryd.t220.zero, false, false, true⟩
noncomputable def i221 : DInfo := ⟨Tryd.t221.desc, 1, 8, Tryd.t221.zero, false, false, true⟩
noncomputable def i222 : DInfo := ⟨Tryd.t222.desc, 1, 8, Tryd.t222.zero, false, false, true⟩
noncomputable def i223 : DInfo := ⟨Tryd.t223.desc, 1, 8, Tryd.t223.zero, false, false, true⟩
noncomputable def i224 : DInfo := ⟨Tryd.t224.desc, 1, 8, Tryd.t224.zero, false, false, true⟩
noncomputable def i225 : DInfo := ⟨Tryd.t225.desc, 1, 8, Tryd.t225.zero, false, false, true⟩
noncomputable def i226 : DInfo := ⟨Tryd.t226.desc, 1, 8, Tryd.t226.zero, true, false, true⟩
noncomputable def i227 : DInfo := ⟨Tryd.t227.desc, 1, 0, Tryd.t227.zero, false, false, true⟩
noncomputable def i228 : DInfo := ⟨Tryd.t228.desc, 1, 8, Tryd.t228.zero, false, false, true⟩
noncomputable def i229 : DInfo := ⟨Tryd.t229.desc, 1, 0, Tryd.t229.zero, false, false, true⟩
noncomputable def i230 : DInfo := ⟨Tryd.t230.desc, 1, 8, Tryd.t230.zero, false, false, true⟩
noncomputable def i231 : DInfo := ⟨Tryd.t231.desc, 32, 32, Tryd.t231.zero, true, false, true⟩
noncomputable def i232 : DInfo := ⟨Tryd.t232.desc, 64, 64, Tryd.t232.zero, true, false, true⟩
noncomputable def i233 : DInfo := ⟨Tryd.t233.desc, 256, 256, Tryd.t233.zero, true, false, true⟩
noncomputable def i234 : DInfo := ⟨Tryd.t234.desc, 2, 2, Tryd.t234.zero, true, false, true⟩
noncomputable def i235 : DInfo := ⟨Tryd.t234.desc, 2, 2, Tryd.t235.zero, true, false, true⟩
noncomputable def i236 : DInfo := ⟨Tryd.t236.desc, 32, 32, Tryd.t236.zero, true, false, true⟩
noncomputable def i237 : DInfo := ⟨Tryd.t237.desc, 1, 8, Tryd.t237.zero, false, false, true⟩
noncomputable def i238 : DInfo := ⟨Tryd.t238.desc, 1, 8, Tryd.t238.zero, false, false, true⟩
noncomputable def i239 : DInfo := ⟨Tryd.t239.desc, 1, 8, Tryd.t239.zero, false, false, true⟩
noncomputable def i240 : DInfo := ⟨Tryd.t240.desc, 4, 40, Tryd.t240.zero, true, false, false⟩
noncomputable def i241 : DInfo := ⟨Tryd.t240.desc, 4, 40, Tryd.t241.zero, true, false, false⟩
noncomputable def i242 : DInfo := ⟨Tryd.t242.desc, 0, 0, Tryd.t242.zero, true, false, true⟩
noncomputable def i243 : DInfo := ⟨Tryd.t243.desc, 0, 0, Tryd.t243.zero, true, false, false⟩
noncomputable def i244 : DInfo := ⟨Tryd.t243.desc, 0, 0, Tryd.t244.zero, true, false, false⟩
noncomputable def i245 : DInfo := ⟨Tryd.t245.desc, 1, 8, Tryd.t245.zero, false, false, true⟩
noncomputable def i246 : DInfo := ⟨Tryd.t5.desc, 1, 1, Tryd.t246.zero, true, false, true⟩
noncomputable def i247 : DInfo := ⟨Tryd.t5.desc, 1, 1, Tryd.t247.zero, true, false, true⟩
noncomputable def i248 : DInfo := ⟨Tryd.t248.desc, 1, 8, Tryd.t248.zero, false, false, true⟩
noncomputable def i249 : DInfo := ⟨Tryd.t21.desc, 1, 4, Tryd.t249.zero, true, false, true⟩
noncomputable def i250 : DInfo := ⟨Tryd.t21.desc, 1, 4, Tryd.t250.zero, true, false, true⟩
noncomputable def i251 : DInfo := ⟨Tryd.t251.desc, 11, 48, Tryd.t251.zero, false, false, false⟩
noncomputable def i252 : DInfo := ⟨Tryd.t251.desc, 11, 48, Tryd.t252.zero, false, false, false⟩
noncomputable def ts : List (Nat × DInfo) := [(0, i0), (1, i1), (2, i2), (3, i3), (4, i4), (5, i5), (6, i6), (7, i7), (8, i8), (9, i9), (10, i10), (11, i11), (12, i12), (13, i13), (14, i14), (15, i15), (16, i16), (17, i17), (18, i18), (19, i19), (20, i20), (21, i21), (22, i22), (23, i23), (24, i24), (25, i25), (26, i26), (27, i27), (28, i28), (29, i29), (30, i30), (31, i31), (32, i32), (33, i33), (34, i34), (35, i35), (36, i36), (37, i37), (38, i38), (39, i39), (40, i40), (41, i41), (42, i42), (43, i43), (44, i44), (45, i45), (46, i46), (47, i47), (48, i48), (49, i49), (50, i50), (51, i51), (52, i52), (53, i53), (54, i54), (55, i55), (56, i56), (57, i57), (58, i58), (59, i59), (60, i60), (61, i61), (62, i62), (63, i63), (64, i64), (65, i65), (66, i66), (67, i67), (68, i68), (69, i69), (70, i70), (71, i71), (72, i72), (73, i73), (74, i74), (75, i75), (76, i76), (77, i77), (78, i78), (79, i79), (80, i80), (81, i81), (82, i82), (83, i83), (84, i84), (85, i85), (86, i86), (87, i87), (88, i88), (89, i89), (90, i90), (91, i91), (92, i92), (93, i93), (94, i94), (95, i95), (96, i96), (97, i97), (98, i98), (99, i99), (100, i100), (101, i101), (102, i102), (103, i103), (104, i104), (105, i105), (106, i106), (107, i107), (108, i108), (109, i109), (110, i110), (111, i111), (112, i112), (113, i113), (114, i114), (115, i115), (116, i116), (117, i117), (118, i118), (119, i119), (120, i120), (121, i121), (122, i122), (123, i123), (124, i124), (125, i125), (126, i126), (127, i127), (128, i128), (129, i129), (130, i130), (131, i131), (132, i132), (133, i133), (134, i134), (135, i135), (136, i136), (137, i137), (138, i138), (139, i139), (140, i140), (141, i141), (142, i142), (143, i143), (144, i144), (145, i145), (146, i146), (147, i147), (148, i148), (149, i149), (150, i150), (151, i151), (152, i152), (153, i153), (154, i154), (155, i155), (156, i156), (157, i157), (158, i158), (159, i159), (160, i160), (161, i161), (162, i162), (163, i163), (164, i164), (165, i165), (166, i166), (167, i167), (168, i168), (169, i169), (170, i170), (171, i171), (172, i172), (173, i173), (174, i174), (175, i175), (176, i176), (177, i177), (178, i178), (179, i179), (180, i180), (181, i181), (182, i182), (183, i183), (184, i184), (185, i185), (186, i186), (187, i187), (188, i188), (189, i189), (190, i190), (191, i191), (192, i192), (193, i193), (194, i194), (195, i195), (196, i196), (197, i197), (198, i198), (199, i199), (200, i200), (201, i201), (202, i202), (203, i203), (204, i204), (205, i205), (206, i206), (207, i207), (208, i208), (209, i209), (210, i210), (211, i211), (212, i212), (213, i213), (214, i214), (215, i215), (216, i216), (217, i217), (218, i218), (219, i219), (220, i220), (221, i221), (222, i222), (223, i223), (224, i224), (225, i225), (226, i226), (227, i227), (228, i228), (229, i229), (230, i230), (231, i231), (232, i232), (233, i233), (234, i234), (235, i235), (236, i236), (237, i237), (238, i238), (239, i239), (240, i240), (241, i241), (242, i242), (243, i243), (244, i244), (245, i245), (246, i246), (247, i247), (248, i248), (249, i249), (250, i250), (251, i251), (252, i252)]
noncomputable def tt : PM DInfo := (.node (.node (.node (.node (.node (.node (.node .leaf (some i126) (lf i190)) (some i62) (.node (lf i222) (some i94) (lf i158))) (some i30) (.node (.node (lf i238) (some i110) (lf i174)) (some i46) (.node (lf i206) (some i78) (lf i142)))) (some i14) (.node (.node (.node (lf i246) (some i118) (lf i182)) (some i54) (.node (lf i214) (some i86) (lf i150))) (some i22) (.node (.node (lf i230) (some i102) (lf i166)) (some i38) (.node (lf i198) (some i70) (lf i134))))) (some i6) (.node (.node (.node (.node (lf i250) (some i122) (lf i186)) (some i58) (.node (lf i218) (some i90) (lf i154))) (some i26) (.node (.node (lf i234) (some i106) (lf i170)) (some i42) (.node (lf i202) (some i74) (lf i138)))) (some i10) (.node (.node (.node (lf i242) (some i114) (lf i178)) (some i50) (.node (lf i210) (some i82) (lf i146))) (some i18) (.node (.node (lf i226) (some i98) (lf i162)) (some i34) (.node (lf i194) (some i66) (lf i130)))))) (some i2) (.node (.node (.node (.node (.node (lf i252) (some i124) (lf i188)) (some i60) (.node (lf i220) (some i92) (lf i156))) (some i28) (.node (.node (lf i236) (some i108) (lf i172)) (some i44) (.node (lf i204) (some i76) (lf i140)))) (some i12) (.node (.node (.node (lf i244) (some i116) (lf i180)) (some i52) (.node (lf i212) (some i84) (lf i148))) (some i20) (.node (.node (lf i228) (some i100) (lf i164)) (some i36) (.node (lf i196) (some i68) (lf i132))))) (some i4) (.node (.node (.node (.node (lf i248) (some i120) (lf i184)) (some i56) (.node (lf i216) (some i88) (lf i152))) (some i24) (.node (.node (lf i232) (some i104) (lf i168)) (some i40) (.node (lf i200) (some i72) (lf i136)))) (some i8) (.node (.node (.node (lf i240) (some i112) (lf i176)) (some i48) (.node (lf i208) (some i80) (lf i144))) (some i16) (.node (.node (lf i224) (some i96) (lf i160)) (some i32) (.node (lf i192) (some i64) (lf i128))))))) (some i0) (.node (.node (.node (.node (.node (.node .leaf (some i125) (lf i189)) (some i61) (.node (lf i221) (some i93) (lf i157))) (some i29) (.node (.node (lf i237) (some i109) (lf i173)) (some i45) (.node (lf i205) (some i77) (lf i141)))) (some i13) (.node (.node (.node (lf i245) (some i117) (lf i181)) (some i53) (.node (lf i213) (some i85) (lf i149))) (some i21) (.node (.node (lf i229) (some i101) (lf i165)) (some i37) (.node (lf i197) (some i69) (lf i133))))) (some i5) (.node (.node (.node (.node (lf i249) (some i121) (lf i185)) (some i57) (.node (lf i217) (some i89) (lf i153))) (some i25) (.node (.node (lf i233) (some i105) (lf i169)) (some i41) (.node (lf i201) (some i73) (lf i137)))) (some i9) (.node (.node (.node (lf i241) (some i113) (lf i177)) (some i49) (.node (lf i209) (some i81) (lf i145))) (some i17) (.node (.node (lf i225) (some i97) (lf i161)) (some i33) (.node (lf i193) (some i65) (lf i129)))))) (some i1) (.node (.node (.node (.node (.node (lf i251) (some i123) (lf i187)) (some i59) (.node (lf i219) (some i91) (lf i155))) (some i27) (.node (.node (lf i235) (some i107) (lf i171)) (some i43) (.node (lf i203) (some i75) (lf i139)))) (some i11) (.node (.node (.node (lf i243) (some i115) (lf i179)) (some i51) (.node (lf i211) (some i83) (lf i147))) (some i19) (.node (.node (lf i227) (some i99) (lf i163)) (some i35) (.node (lf i195) (some i67) (lf i131))))) (some i3) (.node (.node (.node (.node (lf i247) (some i119) (lf i183)) (some i55) (.node (lf i215) (some i87) (lf i151))) (some i23) (.node (.node (lf i231) (some i103) (lf i167)) (some i39) (.node (lf i199) (some i71) (lf i135)))) (some i7) (.node (.node (.node (lf i239) (some i111) (lf i175)) (some i47) (.node (lf i207) (some i79) (lf i143))) (some i15) (.node (.node (lf i223) (some i95) (lf i159)) (some i31) (.node (lf i191) (some i63) (lf i127))))))))
noncomputable def fs : List (Nat × Func) := [(2, Tryd.f2), (3, Tryd.f3), (4, Tryd.f4), (5, Tryd.f5), (6, Tryd.f6), (7, Tryd.f7), (8, Tryd.f8), (9, Tryd.f9), (10, Tryd.f10), (11, Tryd.f11), (12, Tryd.f12), (13, Tryd.f13), (14, Tryd.f14), (15, Tryd.f15), (16, Tryd.f16), (17, Tryd.f17), (18, Tryd.f18), (19, Tryd.f19), (20, Tryd.f20), (21, Tryd.f21), (22, Tryd.f22), (23, Tryd.f23), (24, Tryd.f24), (25, Tryd.f25), (26, Tryd.f26), (27, Tryd.f27), (28, Tryd.f28), (29, Tryd.f29), (30, Tryd.f30), (31, Tryd.f31), (32, Tryd.f32), (33, Tryd.f33), (34, Tryd.f34), (35, Tryd.f35), (36, Tryd.f36), (37, Tryd.f37), (38, Tryd.f38), (39, Tryd.f39), (40, Tryd.f40), (41, Tryd.f41), (42, Tryd.f42), (43, Tryd.f43), (44, Tryd.f44), (45, Tryd.f45), (46, Tryd.f46), (47, Tryd.f47), (48, Tryd.f48), (49, Tryd.f49), (50, Tryd.f50), (51, Tryd.f51), (52, Tryd.f52), (53, Tryd.f53), (54, Tryd.f54), (55, Tryd.f55), (56, Tryd.f56), (57, Tryd.f57), (58, Tryd.f58), (59, Tryd.f59), (60, Tryd.f60), (61, Tryd.f61), (62, Tryd.f62), (63, Tryd.f63), (64, Tryd.f64), (65, Tryd.f65), (66, Tryd.f66), (67, Tryd.f67), (68, Tryd.f68), (69, Tryd.f69), (70, Tryd.f70), (71, Tryd.f71), (72, Tryd.f72), (73, Tryd.f73), (74, Tryd.f74), (75, Tryd.f75), (76, Tryd.f76), (77, Tryd.f77), (78, Tryd.f78), (79, Tryd.f79), (80, Tryd.f80), (81, Tryd.f81), (82, Tryd.f82), (83, Tryd.f83), (84, Tryd.f84), (85, Tryd.f85), (86, Tryd.f86), (87, Tryd.f87), (88, Tryd.f88), (89, Tryd.f89), (90, Tryd.f90), (91, Tryd.f91), (92, Tryd.f92), (93, Tryd.f93), (94, Tryd.f94), (95, Tryd.f95), (96, Tryd.f96), (97, Tryd.f97), (98, Tryd.f98), (99, Tryd.f99), (100, Tryd.f100), (101, Tryd.f101), (102, Tryd.f102), (103, Tryd.f103), (104, Tryd.f104), (105, Tryd.f105), (106, Tryd.f106), (107, Tryd.f107), (108, Tryd.f108), (109, Tryd.f109), (110, Tryd.f110), (111, Tryd.f111), (112, Tryd.f112), (113, Tryd.f113), (114, Tryd.f114), (115, Tryd.f115), (116, Tryd.f116), (117, Tryd.f117), (118, Tryd.f118), (119, Tryd.f119), (120, Tryd.f120), (121, Tryd.f121), (122, Tryd.f122), (123, Tryd.f123), (124, Tryd.f124), (125, Tryd.f125), (126, Tryd.f126), (127, Tryd.f127), (128, Tryd.f128), (129, Tryd.f129), (130, Tryd.f130), (131, Tryd.f131), (132, Tryd.f132), (134, Tryd.f134), (135, Tryd.f135), (136, Tryd.f136), (137, Tryd.f137), (138, Tryd.f138), (139, Tryd.f139), (140, Tryd.f140), (141, Tryd.f141), (142, Tryd.f142), (143, Tryd.f143), (144, Tryd.f144), (145, Tryd.f145), (146, Tryd.f146), (147, Tryd.f147), (148, Tryd.f148), (149, Tryd.f149), (150, Tryd.f150), (151, Tryd.f151), (152, Tryd.f152), (153, Tryd.f153), (154, Tryd.f154), (155, Tryd.f155), (157, Tryd.f157), (158, Tryd.f158), (160, Tryd.f160), (161, Tryd.f161), (163, Tryd.f163), (164, Tryd.f164), (165, Tryd.f165), (166, Tryd.f166), (167, Tryd.f167), (168, Tryd.f168), (169, Tryd.f169), (171, Tryd.f171), (172, Tryd.f172), (173, Tryd.f173), (174, Tryd.f174), (175, Tryd.f175), (176, Tryd.f176), (177, Tryd.f177), (178, Tryd.f178), (179, Tryd.f179), (180, Tryd.f180), (181, Tryd.f181), (182, Tryd.f182), (183, Tryd.f183), (184, Tryd.f184), (185, Tryd.f185), (186, Tryd.f186), (187, Tryd.f187), (188, Tryd.f188), (189, Tryd.f189), (190, Tryd.f190), (224, Tryd.f224)]
noncomputable def ff : PM Func := (.node (.node (.node (.node (.node (.node (.node .leaf (some Tryd.f126) (lf Tryd.f190)) (some Tryd.f62) (.node .leaf (some Tryd.f94) (lf Tryd.f158))) (some Tryd.f30) (.node (.node .leaf (some Tryd.f110) (lf Tryd.f174)) (some Tryd.f46) (.node .leaf (some Tryd.f78) (lf Tryd.f142)))) (some Tryd.f14) (.node (.node (.node .leaf (some Tryd.f118) (lf Tryd.f182)) (some Tryd.f54) (.node .leaf (some Tryd.f86) (lf Tryd.f150))) (some Tryd.f22) (.node (.node .leaf (some Tryd.f102) (lf Tryd.f166)) (some Tryd.f38) (.node .leaf (some Tryd.f70) (lf Tryd.f134))))) (some Tryd.f6) (.node (.node (.node (.node .leaf (some Tryd.f122) (lf Tryd.f186)) (some Tryd.f58) (.node .leaf (some Tryd.f90) (lf Tryd.f154))) (some Tryd.f26) (.node (lf Tryd.f106) (some Tryd.f42) (.node .leaf (some Tryd.f74) (lf Tryd.f138)))) (some Tryd.f10) (.node (.node (.node .leaf (some Tryd.f114) (lf Tryd.f178)) (some Tryd.f50) (.node .leaf (some Tryd.f82) (lf Tryd.f146))) (some Tryd.f18) (.node (lf Tryd.f98) (some Tryd.f34) (.node .leaf (some Tryd.f66) (lf Tryd.f130)))))) (some Tryd.f2) (.node (.node (.node (.node (.node .leaf (some Tryd.f124) (lf Tryd.f188)) (some Tryd.f60) (lf Tryd.f92)) (some Tryd.f28) (.node (.node .leaf (some Tryd.f108) (lf Tryd.f172)) (some Tryd.f44) (.node .leaf (some Tryd.f76) (lf Tryd.f140)))) (some Tryd.f12) (.node (.node (.node .leaf (some Tryd.f116) (lf Tryd.f180)) (some Tryd.f52) (.node .leaf (some Tryd.f84) (lf Tryd.f148))) (some Tryd.f20) (.node (.node .leaf (some Tryd.f100) (lf Tryd.f164)) (some Tryd.f36) (.node .leaf (some Tryd.f68) (lf Tryd.f132))))) (some Tryd.f4) (.node (.node (.node (.node .leaf (some Tryd.f120) (lf Tryd.f184)) (some Tryd.f56) (.node .leaf (some Tryd.f88) (lf Tryd.f152))) (some Tryd.f24) (.node (.node .leaf (some Tryd.f104) (lf Tryd.f168)) (some Tryd.f40) (.node .leaf (some Tryd.f72) (lf Tryd.f136)))) (some Tryd.f8) (.node (.node (.node .leaf (some Tryd.f112) (lf Tryd.f176)) (some Tryd.f48) (.node .leaf (some Tryd.f80) (lf Tryd.f144))) (some Tryd.f16) (.node (.node (lf Tryd.f224) (some Tryd.f96) (lf Tryd.f160)) (some Tryd.f32) (.node .leaf (some Tryd.f64) (lf Tryd.f128))))))) none (.node (.node (.node (.node (.node (.node .leaf (some Tryd.f125) (lf Tryd.f189)) (some Tryd.f61) (.node .leaf (some Tryd.f93) (lf Tryd.f157))) (some Tryd.f29) (.node (.node .leaf (some Tryd.f109) (lf Tryd.f173)) (some Tryd.f45) (.node .leaf (some Tryd.f77) (lf Tryd.f141)))) (some Tryd.f13) (.node (.node (.node .leaf (some Tryd.f117) (lf Tryd.f181)) (some Tryd.f53) (.node .leaf (some Tryd.f85) (lf Tryd.f149))) (some Tryd.f21) (.node (.node .leaf (some Tryd.f101) (lf Tryd.f165)) (some Tryd.f37) (lf Tryd.f69)))) (some Tryd.f5) (.node (.node (.node (.node .leaf (some Tryd.f121) (lf Tryd.f185)) (some Tryd.f57) (.node .leaf (some Tryd.f89) (lf Tryd.f153))) (some Tryd.f25) (.node (.node .leaf (some Tryd.f105) (lf Tryd.f169)) (some Tryd.f41) (.node .leaf (some Tryd.f73) (lf Tryd.f137)))) (some Tryd.f9) (.node (.node (.node .leaf (some Tryd.f113) (lf Tryd.f177)) (some Tryd.f49) (.node .leaf (some Tryd.f81) (lf Tryd.f145))) (some Tryd.f17) (.node (.node .leaf (some Tryd.f97) (lf Tryd.f161)) (some Tryd.f33) (.node .leaf (some Tryd.f65) (lf Tryd.f129)))))) none (.node (.node (.node (.node (.node .leaf (some Tryd.f123) (lf Tryd.f187)) (some Tryd.f59) (.node .leaf (some Tryd.f91) (lf Tryd.f155))) (some Tryd.f27) (.node (.node .leaf (some Tryd.f107) (lf Tryd.f171)) (some Tryd.f43) (.node .leaf (some Tryd.f75) (lf Tryd.f139)))) (some Tryd.f11) (.node (.node (.node .leaf (some Tryd.f115) (lf Tryd.f179)) (some Tryd.f51) (.node .leaf (some Tryd.f83) (lf Tryd.f147))) (some Tryd.f19) (.node (.node .leaf (some Tryd.f99) (lf Tryd.f163)) (some Tryd.f35) (.node .leaf (some Tryd.f67) (lf Tryd.f131))))) (some Tryd.f3) (.node (.node (.node (.node .leaf (some Tryd.f119) (lf Tryd.f183)) (some Tryd.f55) (.node .leaf (some Tryd.f87) (lf Tryd.f151))) (some Tryd.f23) (.node (.node .leaf (some Tryd.f103) (lf Tryd.f167)) (some Tryd.f39) (.node .leaf (some Tryd.f71) (lf Tryd.f135)))) (some Tryd.f7) (.node (.node (.node .leaf (some Tryd.f111) (lf Tryd.f175)) (some Tryd.f47) (.node .leaf (some Tryd.f79) (lf Tryd.f143))) (some Tryd.f15) (.node (lf Tryd.f95) (some Tryd.f31) (.node .leaf (some Tryd.f63) (lf Tryd.f127))))))))
noncomputable def globs : Nat := 11
theorem tt_eq : tt = layD ts := by kernel_rfl
theorem ff_eq : ff = layD fs := by kernel_rfl
theorem info_eq : ts.map (fun p => infoOf Tryd.prog p.1) = ts.map fun p => some p.2 := by kernel_rfl
theorem funcs_eq : ∀ p ∈ fs, Tryd.prog.funcs[p.1]? = some p.2 := by
  have key : fs.map (fun p => Tryd.prog.funcs[p.1]?) = fs.map fun p => some p.2 := by kernel_rfl
  exact fun p hp => List.map_inj_left.1 key p hp
theorem names_eq : fs.all (fun p => !(p.2.name == "runtime.NumGoroutine")) = true := by kernel_rfl
theorem mixed : Tryd.prog.follows .mixedOrders = true := by kernel_rfl
/-- The environment, with given functions stood in for. -/
noncomputable def env (prim : Nat → Option (List Value → St → Option (Value × St))) : Env := { inf := tt.get, fn := ff.get, prim, globs }
theorem env_ok (prim : Nat → Option (List Value → St → Option (Value × St))) : (env prim).Ok Tryd.prog :=
  envOk (fun t => by show tt.get t = _; rw [tt_eq]) (fun f => by show ff.get f = _; rw [ff_eq]) info_eq funcs_eq names_eq
end Go.Proofs.YtabbbfdlgmoniaaDoor.DEnv

/- The seat's base: D over the program, without stand-ins; structs' cells (printed by GenBase.lean). -/
namespace Go.Proofs.YtabbbfdlgmoniaaDoor
open Go Go.Proofs.YtabbbfdlgmoniaaDoor.D
abbrev pN : PNums := ⟨42, 45, 47, 48, 120, 150, 118, 6, 4, 5, 178⟩
abbrev pB : BNums := ⟨92, 57, 134, 72, 6, 109, 5⟩
noncomputable def E0 : Env := DEnv.env (primsC pN pB)
/-- [x, y, signed, code] -/
abbrev G7 : List Sc := [.int .i64, .int .i64, .bool, .int .u8]
/-- [msg, addr] -/
abbrev G13 : List Sc := [.str, .int .u64]
/-- [Kind, Robot, N, At, With, Draw] -/
abbrev G23 : List Sc := [.int .i64, .int .i64, .int .i64, .int .i64, .int .i64, .int .u64]
/-- [At, Claims, Goals, Open, Records, Epochs, Holders, Gens, Flights] -/
abbrev G53 : List Sc := [.sl, .sl, .sl, .sl, .sl, .sl, .sl, .sl, .int .i64]
/-- [Code, Robot, Cell] -/
abbrev G58 : List Sc := [.int .i64, .int .i64, .int .i64]
/-- [Cell, Gen] -/
abbrev G62 : List Sc := [.int .i64, .int .u32]
/-- [Order, Err, Steps] -/
abbrev G67 : List Sc := [.int .i64, .int .i64, .int .i64, .int .i64, .int .i64, .int .u64, .int .i64, .sl]
/-- [addr, buf] -/
abbrev G108 : List Sc := [.ptr, .sl]
/-- [Func, Num, Err] -/
abbrev G206 : List Sc := [.str, .str, .any]
/-- [lo, hi] -/
abbrev G234 : List Sc := [.int .u8, .int .u8]
/-- [_interface, concrete, asserted, missingMethod] -/
abbrev G240 : List Sc := [.ptr, .ptr, .ptr, .str]
/-- [Size_, PtrBytes, Hash, TFlag, Align_, FieldAlign_, Kind_, Equal, GCData, Str, PtrToThis] -/
abbrev G251 : List Sc := [.int .u64, .int .u64, .int .u32, .int .u8, .int .u8, .int .u8, .int .u8, .any, .ptr, .int .i32, .int .i32]
end Go.Proofs.YtabbbfdlgmoniaaDoor

/- The conditions of functions (printed by GenDen.lean). -/
namespace Go.Proofs.YtabbbfdlgmoniaaDoor
open Go Go.Proofs.YtabbbfdlgmoniaaDoor.D
set_option linter.unusedVariables false
noncomputable section

/-! 3 wagonway/wagonwaylaw23.OrderLines -/
noncomputable def h3 : Hn := .no
def c3 (x_0 : Int × Int × Int × Int × Int × Int) (s_1 : List UInt8) (kind_2 : Int) (S : St) (k : Value → St → Prop) : Prop :=
  newW S
  (.cells
  [.int .i64 x_0.1, .int .i64 x_0.2.1, .int .i64 x_0.2.2.1, .int .i64 x_0.2.2.2.1, .int .i64 x_0.2.2.2.2.1,
  .int .u64 x_0.2.2.2.2.2]
  none false none)
  fun (b1 : Nat) (S1 : St) =>
  ifW (ltI 300 (↑(List.length s_1) : Int)) (k (.bool true) S1)
  (evV (TT.one (Ty.agg G23)) (loadV E0 S1 24 (.pointer (some ⟨b1, 0, none⟩))) fun (x1 : Int × Int × Int × Int × Int × Int) =>
  evC E0 (TT.tup [Ty.sc Sc.str, Ty.sc (Sc.int .i64)]) 11 [sv G23 x1] S1 fun (x2 : List UInt8 × Int) (S2 : St) =>
  evV (TT.one (Ty.agg G23)) (loadV E0 S2 24 (.pointer (some ⟨b1, 0, none⟩))) fun (x3 : Int × Int × Int × Int × Int × Int) =>
  evC E0 (TT.tup [Ty.sc Sc.str, Ty.sc (Sc.int .i64)]) 12 [sv G23 x3] S2 fun (x4 : List UInt8 × Int) (S3 : St) =>
  evC E0 (TT.tup [Ty.agg G23, Ty.sc (Sc.int .i64)]) 13 [.string { data := List.toArray s_1 }] S3 fun (x5 : (Int × Int × Int × Int × Int × Int) × Int) (S4 : St) =>
  newW S4 (.cells [.int .i64 0, .int .i64 0, .int .i64 0, .int .i64 0, .int .i64 0, .int .u64 0] none false none)
  fun (b2 : Nat) (S5 : St) =>
  evS (storeV E0 S5 24 (.pointer (some ⟨b2, 0, none⟩)) (sv G23 x5.1)) fun (S6 : St) =>
  evC E0 (TT.tup [Ty.agg G23, Ty.sc (Sc.int .i64)]) 14 [.string { data := List.toArray s_1 }] S6 fun (x6 : (Int × Int × Int × Int × Int × Int) × Int) (S7 : St) =>
  newW S7 (.cells [.int .i64 0, .int .i64 0, .int .i64 0, .int .i64 0, .int .i64 0, .int .u64 0] none false none)
  fun (b3 : Nat) (S8 : St) =>
  evS (storeV E0 S8 24 (.pointer (some ⟨b3, 0, none⟩)) (sv G23 x6.1)) fun (S9 : St) =>
  evV (TT.one (Ty.agg G23)) (loadV E0 S9 24 (.pointer (some ⟨b1, 0, none⟩))) fun (x7 : Int × Int × Int × Int × Int × Int) =>
  evC E0 tI 15 [sv G23 x7] S9 fun (n1 : Int) (S10 : St) =>
  ifW (x2.1 == x4.1)
  (ifW (eqI x2.2 x4.2)
  (evV (TT.one (Ty.agg G23)) (loadV E0 S10 24 (.pointer (some ⟨b2, 0, none⟩))) fun (x8 : Int × Int × Int × Int × Int × Int) =>
  evV (TT.one (Ty.agg G23)) (loadV E0 S10 24 (.pointer (some ⟨b3, 0, none⟩))) fun (x9 : Int × Int × Int × Int × Int × Int) =>
  eqW E0 S10 24 (sv G23 x8) (sv G23 x9) fun (t1 : Bool) =>
  ifW t1
  (ifW (eqI x5.2 x6.2)
  (ifW (eqI n1 x4.2)
  (evC E0 tT 16 [.int .i64 kind_2] S10 fun (l1 : List UInt8) (S11 : St) =>
  evC E0 tT 17 [.int .i64 kind_2] S11 fun (l2 : List UInt8) (S12 : St) => k (.bool (l1 == l2)) S12)
  (k (.bool false) S10))
  (k (.bool false) S10))
  (k (.bool false) S10))
  (k (.bool false) S10))
  (k (.bool false) S10))
theorem w3 (x_0 : Int × Int × Int × Int × Int × Int) (s_1 : List UInt8) (kind_2 : Int) {S : St} {k : Value → St → Prop} (h : c3 x_0 s_1 kind_2 S k) : WC E0 3 [sv G23 x_0, .string ⟨s_1.toArray⟩, .int .i64 kind_2] S k :=
  WC_den h3 rfl (by kernel_rfl) (by kernel_rfl : Tryd.f3.body = some (bodyOf Tryd.f3)) (by rw [show (denF E0 h3 Tryd.f3 (bodyOf Tryd.f3) [sv G23 x_0, .string ⟨s_1.toArray⟩, .int .i64 kind_2] S k) = c3 x_0 s_1 kind_2 S k by kernel_rfl]; exact h)

/-! 4 wagonway/wagonwaylaw23.OrderNamed -/
noncomputable def h4 : Hn := (.n .no (.n .no (.n .no (.n .no (.n .no (.n (.n .no (.n (.n .no (.n .no (.n .no .no (some ⟨[2, 5, 6, 7], [(33, .sc .bool)], false⟩)) none) (some ⟨[2, 5, 6, 7, 25], [(28, .sc .bool)], false⟩)) .no none) none) .no (some ⟨[2, 5, 6, 7], [], false⟩)) none) none) none) none) none)
def c4 (x_0 : Int × Int × Int × Int × Int × Int) (n_1 : Int) (S : St) (k : Value → St → Prop) : Prop :=
  newW S
  (.cells
  [.int .i64 x_0.1, .int .i64 x_0.2.1, .int .i64 x_0.2.2.1, .int .i64 x_0.2.2.2.1, .int .i64 x_0.2.2.2.2.1,
  .int .u64 x_0.2.2.2.2.2]
  none false none)
  fun (b1 : Nat) (S1 : St) =>
  evC E0 tB 18 [] S1 fun (t1 : Bool) (S2 : St) =>
  evV (TT.one (Ty.agg G23)) (loadV E0 S2 24 (.pointer (some ⟨b1, 0, none⟩))) fun (x1 : Int × Int × Int × Int × Int × Int) =>
  evC E0 tI 15 [sv G23 x1] S2 fun (n1 : Int) (S3 : St) =>
  ifW (!eqI n1 0) (k (.bool t1) S3)
  (ifW (!t1) (k (.bool t1) S3)
  (evV (TT.one (Ty.agg G23)) (loadV E0 S3 24 (.pointer (some ⟨b1, 0, none⟩))) fun (x2 : Int × Int × Int × Int × Int × Int) =>
  newW S3 (.cells [.int .i64 0, .int .i64 0, .int .i64 0, .int .i64 0, .int .i64 0, .int .u64 0] none false none)
  fun (b2 : Nat) (S4 : St) =>
  evS (storeV E0 S4 24 (.pointer (some ⟨b2, 0, none⟩)) (sv G23 x2)) fun (S5 : St) =>
  joinW
  (fun (x3 : PUnit) (S6 : St) =>
  evV (TT.one (Ty.agg G23)) (loadV E0 S6 24 (.pointer (some ⟨b1, 0, none⟩))) fun (x4 : Int × Int × Int × Int × Int × Int) =>
  newW S6 (.cells [.int .i64 0, .int .i64 0, .int .i64 0, .int .i64 0, .int .i64 0, .int .u64 0] none false none)
  fun (b3 : Nat) (S7 : St) =>
  evS (storeV E0 S7 24 (.pointer (some ⟨b3, 0, none⟩)) (sv G23 x4)) fun (S8 : St) =>
  ptrW (some ⟨b1, 0, none⟩) fun (b4 b5 : Nat) =>
  evV tU (loadV E0 S8 22 (.pointer (some ⟨b4, b5 + 5, none⟩))) fun (n2 : Int) =>
  ptrW (some ⟨b3, 0, none⟩) fun (b6 b7 : Nat) =>
  evS
  (storeV E0 S8 22 (.pointer (some ⟨b6, b7 + 5, none⟩))
  (.int .u64 (wrapI .u64 (n2 + wrapI .u64 (wrapI .i64 (1 + wrapI .i64 n_1))))))
  fun (S9 : St) =>
  evV (TT.one (Ty.agg G23)) (loadV E0 S9 24 (.pointer (some ⟨b2, 0, none⟩))) fun (x5 : Int × Int × Int × Int × Int × Int) =>
  evC E0 (TT.tup [Ty.sc Sc.str, Ty.sc (Sc.int .i64)]) 11 [sv G23 x5] S9 fun (x6 : List UInt8 × Int) (S10 : St) =>
  ifW t1
  (evV (TT.one (Ty.agg G23)) (loadV E0 S10 24 (.pointer (some ⟨b2, 0, none⟩))) fun (x7 : Int × Int × Int × Int × Int × Int) =>
  evC E0 tI 15 [sv G23 x7] S10 fun (n3 : Int) (S11 : St) =>
  ifW (eqI n3 230)
  (ifW (eqI x6.2 230)
  (ifW (x6.1 == [])
  (evV (TT.one (Ty.agg G23)) (loadV E0 S11 24 (.pointer (some ⟨b3, 0, none⟩))) fun (x8 : Int × Int × Int × Int × Int × Int) =>
  evC E0 tI 15 [sv G23 x8] S11 fun (n4 : Int) (S12 : St) =>
  ptrW (some ⟨b1, 0, none⟩) fun (b8 b9 : Nat) =>
  evV tI (loadV E0 S12 3 (.pointer (some ⟨b8, b9 + 0, none⟩))) fun (n5 : Int) =>
  evV tI (loadV E0 S11 3 (.pointer (some ⟨b8, b9 + 0, none⟩))) fun (n6 : Int) =>
  sameV (.int .i64 n6) (.int .i64 n5)
  (eqW E0 S12 4 (.bool (eqI n4 0)) (.bool (eqI n5 1)) fun (t2 : Bool) => k (.bool t2) S12))
  (k (.bool false) S11))
  (k (.bool false) S11))
  (k (.bool false) S11))
  (k (.bool false) S10))
  fun (k1 : PUnit → St → Prop) =>
  ptrW (some ⟨b1, 0, none⟩) fun (b10 b11 : Nat) =>
  evV tI (loadV E0 S5 3 (.pointer (some ⟨b10, b11 + 0, none⟩))) fun (n7 : Int) =>
  joinW
  (fun (t3 : Bool) (S13 : St) =>
  ifW t3
  (ptrW (some ⟨b2, 0, none⟩) fun (b12 b13 : Nat) =>
  evS (storeV E0 S13 3 (.pointer (some ⟨b12, b13 + 2, none⟩)) (.int .i64 (wrapI .i64 (1 + wrapI .i64 n_1)))) fun (S14 : St) => k1 PUnit.unit S14)
  (joinW
  (fun (t4 : Bool) (S15 : St) =>
  ifW t4
  (ptrW (some ⟨b2, 0, none⟩) fun (b14 b15 : Nat) =>
  evS (storeV E0 S15 3 (.pointer (some ⟨b14, b15 + 1, none⟩)) (.int .i64 (wrapI .i64 (1 + wrapI .i64 n_1)))) fun (S16 : St) =>
  k1 PUnit.unit S16)
  (ptrW (some ⟨b2, 0, none⟩) fun (b16 b17 : Nat) =>
  evS (storeV E0 S15 3 (.pointer (some ⟨b16, b17 + 3, none⟩)) (.int .i64 (wrapI .i64 (1 + wrapI .i64 n_1)))) fun (S17 : St) =>
  k1 PUnit.unit S17))
  fun (k2 : Bool → St → Prop) => ifW (eqI n7 2) (k2 true S13) (ifW (eqI n7 3) (k2 true S13) (ifW (eqI n7 4) (k2 true S13) (k2 (eqI n7 5) S13)))))
  fun (k3 : Bool → St → Prop) => ifW (eqI n7 1) (k3 true S5) (k3 (eqI n7 6) S5)))
theorem w4 (x_0 : Int × Int × Int × Int × Int × Int) (n_1 : Int) {S : St} {k : Value → St → Prop} (h : c4 x_0 n_1 S k) : WC E0 4 [sv G23 x_0, .int .u8 n_1] S k :=
  WC_den h4 rfl (by kernel_rfl) (by kernel_rfl : Tryd.f4.body = some (bodyOf Tryd.f4)) (by rw [show (denF E0 h4 Tryd.f4 (bodyOf Tryd.f4) [sv G23 x_0, .int .u8 n_1] S k) = c4 x_0 n_1 S k by kernel_rfl]; exact h)

/-! 11 wagonway/order.Line -/
noncomputable def h11 : Hn := (.n .no (.n .no (.n .no (.n (.n .no (.n (.n .no (.n (.n .no (.n .no .no (some ⟨[5], [(7, .sc .str)], false⟩)) none) .no none) (some ⟨[], [(20, .sc (.int .u8))], false⟩)) .no none) none) .no none) none) none) none)
def c11 (x_0 : Int × Int × Int × Int × Int × Int) (S : St) (k : Value → St → Prop) : Prop :=
  newW S
  (.cells
  [.int .i64 x_0.1, .int .i64 x_0.2.1, .int .i64 x_0.2.2.1, .int .i64 x_0.2.2.2.1, .int .i64 x_0.2.2.2.2.1,
  .int .u64 x_0.2.2.2.2.2]
  none false none)
  fun (b1 : Nat) (S1 : St) =>
  evV (TT.one (Ty.agg G23)) (loadV E0 S1 24 (.pointer (some ⟨b1, 0, none⟩))) fun (x1 : Int × Int × Int × Int × Int × Int) =>
  evC E0 tI 15 [sv G23 x1] S1 fun (n1 : Int) (S2 : St) =>
  ifW (!eqI n1 0) (k (.tuple #[.string { data := #[] }, .int .i64 n1]) S2)
  (ptrW (some ⟨b1, 0, none⟩) fun (b2 b3 : Nat) =>
  evV tI (loadV E0 S2 3 (.pointer (some ⟨b2, b3 + 0, none⟩))) fun (n2 : Int) =>
  evC E0 tT 16 [.int .i64 n2] S2 fun (l1 : List UInt8) (S3 : St) =>
  newW S3 (.cells [.string { data := List.toArray l1 }] none false none) fun (b4 : Nat) (S4 : St) =>
  newW S4 (.cells [.slice none 0 0] none false none) fun (b5 : Nat) (S5 : St) =>
  evS (storeV E0 S5 80 (.pointer (some ⟨b5, 0, none⟩)) (.slice (some ⟨b4, 0, none⟩) 1 1)) fun (S6 : St) =>
  ptrW (some ⟨b1, 0, none⟩) fun (b6 b7 : Nat) =>
  evV tI (loadV E0 S6 3 (.pointer (some ⟨b6, b7 + 0, none⟩))) fun (n3 : Int) =>
  evC E0 tA 39 [.int .i64 n3] S6 fun (v1 : Value) (S7 : St) =>
  newW S7 DObj.deferred fun (b8 : Nat) (S8 : St) =>
  ∀ (b9 : Nat) (S9 : St) (k1 : LoopState → Option Code → DObj),
  b9 = S8.next →
  S9 = (St.alloc S8 (k1 LoopState.ready none)).2 →
  (LoopL fun (x2 : LoopState) (p1 : Option Code) => k1 x2 p1) →
  (RoundH E0 b9 [Ty.sc (Sc.int .u8)] fun (n4 : Int) (S10 : St) (k2 : Bool → St → Prop) =>
  hasW S10 b9 (k1 LoopState.ready none)
  (hasW S10 b9 (k1 LoopState.ready none)
  (updW S10 b9 (k1 LoopState.busy none) fun (S11 : St) =>
  ptrW (some ⟨b1, 0, none⟩) fun (b10 b11 : Nat) =>
  evV tI (loadV E0 S11 3 (.pointer (some ⟨b10, b11 + 2, none⟩))) fun (n5 : Int) =>
  evC E0 tT 40 [.int .i64 n5] S11 fun (l2 : List UInt8) (S12 : St) =>
  joinW
  (fun (l3 : List UInt8) (S13 : St) =>
  evV tS (loadV E0 S13 80 (.pointer (some ⟨b5, 0, none⟩))) fun (s1 : Sl) =>
  newW S13 (.cells [.string { data := List.toArray l3 }] none false none) fun (b12 : Nat) (S14 : St) =>
  evP tS (appendD E0 S14 80 80 (.slice s1.a s1.len s1.cap) (.slice (some ⟨b12, 0, none⟩) 1 1)) fun (s2 : Sl) (S15 : St) =>
  evS (storeV E0 S15 80 (.pointer (some ⟨b5, 0, none⟩)) (.slice s2.a s2.len s2.cap)) fun (S16 : St) =>
  hasW S16 b9 (k1 LoopState.busy none) (updW S16 b9 (k1 LoopState.ready none) fun (S17 : St) => k2 true S17))
  fun (k3 : List UInt8 → St → Prop) =>
  ifW (eqI n4 114)
  (ptrW (some ⟨b1, 0, none⟩) fun (b13 b14 : Nat) =>
  evV tI (loadV E0 S12 3 (.pointer (some ⟨b13, b14 + 1, none⟩))) fun (n6 : Int) =>
  evC E0 tT 40 [.int .i64 n6] S12 fun (l4 : List UInt8) (S18 : St) => k3 l4 S18)
  (ifW (eqI n4 100)
  (ptrW (some ⟨b1, 0, none⟩) fun (b15 b16 : Nat) =>
  evV tU (loadV E0 S12 22 (.pointer (some ⟨b15, b16 + 5, none⟩))) fun (n7 : Int) =>
  evC E0 tT 41 [.int .u64 n7, .int .i64 10] S12 fun (l5 : List UInt8) (S19 : St) => k3 l5 S19)
  (ifW (eqI n4 97)
  (ptrW (some ⟨b1, 0, none⟩) fun (b17 b18 : Nat) =>
  evV tI (loadV E0 S12 3 (.pointer (some ⟨b17, b18 + 3, none⟩))) fun (n8 : Int) =>
  evC E0 tT 40 [.int .i64 n8] S12 fun (l6 : List UInt8) (S20 : St) => k3 l6 S20)
  (ifW (eqI n4 119)
  (ptrW (some ⟨b1, 0, none⟩) fun (b19 b20 : Nat) =>
  evV tI (loadV E0 S12 3 (.pointer (some ⟨b19, b20 + 4, none⟩))) fun (n9 : Int) =>
  evC E0 tT 40 [.int .i64 n9] S12 fun (l7 : List UInt8) (S21 : St) => k3 l7 S21)
  (ifW (eqI n4 117)
  (ptrW (some ⟨b1, 0, none⟩) fun (b21 b22 : Nat) =>
  evV tI (loadV E0 S12 3 (.pointer (some ⟨b21, b22 + 2, none⟩))) fun (n10 : Int) =>
  ifW (ltI n10 0) (k3 [UInt8.ofNat 97, UInt8.ofNat 108, UInt8.ofNat 108] S12) (k3 l2 S12))
  (k3 l2 S12)))))))) →
  WG E0 v1 b9 S9 fun (S22 : St) =>
  hasW S22 b9 (k1 LoopState.ready none)
  (updW S22 b9 (k1 LoopState.exhausted none) fun (S23 : St) =>
  evV tS (loadV E0 S23 80 (.pointer (some ⟨b5, 0, none⟩))) fun (s3 : Sl) =>
  evC E0 tT 42 [.slice s3.a s3.len s3.cap, .string { data := #[UInt8.ofNat 32] }] S23 fun (l8 : List UInt8) (S24 : St) =>
  hasW S24 b8 DObj.deferred (updW S24 b8 DObj.dead fun (S25 : St) => k (.tuple #[.string { data := List.toArray l8 }, .int .i64 0]) S25)) ∨
  False)
theorem w11 (x_0 : Int × Int × Int × Int × Int × Int) {S : St} {k : Value → St → Prop} (h : c11 x_0 S k) : WC E0 11 [sv G23 x_0] S k :=
  WC_den h11 rfl (by kernel_rfl) (by kernel_rfl : Tryd.f11.body = some (bodyOf Tryd.f11)) (by rw [show (denF E0 h11 Tryd.f11 (bodyOf Tryd.f11) [sv G23 x_0] S k) = c11 x_0 S k by kernel_rfl]; exact h)

/-! 12 wagonway/wagonwayref23.Line -/
noncomputable def h12 : Hn := (.n .no (.n .no (.n .no (.n .no (.n (.n .no .no (some ⟨[1, 5], [(20, .sc .bool)], false⟩)) (.n (.n (.n .no (.n .no (.n .no .no (some ⟨[1, 5], [(38, .sc .bool)], false⟩)) none) none) .no none) .no (some ⟨[1], [(5, .sc .str)], false⟩)) (some ⟨[1], [(5, .sc .str)], false⟩)) none) none) none) none)
def c12 (x_0 : Int × Int × Int × Int × Int × Int) (S : St) (k : Value → St → Prop) : Prop :=
  newW S
  (.cells
  [.int .i64 x_0.1, .int .i64 x_0.2.1, .int .i64 x_0.2.2.1, .int .i64 x_0.2.2.2.1, .int .i64 x_0.2.2.2.2.1,
  .int .u64 x_0.2.2.2.2.2]
  none false none)
  fun (b1 : Nat) (S1 : St) =>
  evV (TT.one (Ty.agg G23)) (loadV E0 S1 24 (.pointer (some ⟨b1, 0, none⟩))) fun (x1 : Int × Int × Int × Int × Int × Int) =>
  evC E0 tB 43 [sv G23 x1] S1 fun (t1 : Bool) (S2 : St) =>
  ifW (!t1) (k (.tuple #[.string { data := #[] }, .int .i64 230]) S2)
  (ptrW (some ⟨b1, 0, none⟩) fun (b2 b3 : Nat) =>
  evV tI (loadV E0 S2 3 (.pointer (some ⟨b2, b3 + 0, none⟩))) fun (n1 : Int) =>
  evC E0 tT 17 [.int .i64 n1] S2 fun (l1 : List UInt8) (S3 : St) =>
  joinW
  (fun (l2 : List UInt8) (S4 : St) =>
  joinW
  (fun (l3 : List UInt8) (S5 : St) =>
  ptrW (some ⟨b1, 0, none⟩) fun (b4 b5 : Nat) =>
  evV tI (loadV E0 S5 3 (.pointer (some ⟨b4, b5 + 0, none⟩))) fun (n2 : Int) =>
  ifW (eqI n2 5)
  (evV tT (catD { data := List.toArray l3 } { data := #[UInt8.ofNat 32] }) fun (l4 : List UInt8) =>
  ptrW (some ⟨b1, 0, none⟩) fun (b6 b7 : Nat) =>
  evV tI (loadV E0 S5 3 (.pointer (some ⟨b6, b7 + 3, none⟩))) fun (n3 : Int) =>
  evC E0 tT 44 [.int .u64 (wrapI .u64 n3)] S5 fun (l5 : List UInt8) (S6 : St) =>
  evV tT (catD { data := List.toArray l4 } { data := List.toArray l5 }) fun (l6 : List UInt8) =>
  evV tT (catD { data := List.toArray l6 } { data := #[UInt8.ofNat 32] }) fun (l7 : List UInt8) =>
  ptrW (some ⟨b1, 0, none⟩) fun (b8 b9 : Nat) =>
  evV tI (loadV E0 S6 3 (.pointer (some ⟨b8, b9 + 4, none⟩))) fun (n4 : Int) =>
  evV tI (loadV E0 S5 3 (.pointer (some ⟨b8, b9 + 4, none⟩))) fun (n5 : Int) =>
  sameV (.int .i64 n5) (.int .i64 n4)
  (evC E0 tT 44 [.int .u64 (wrapI .u64 n4)] S6 fun (l8 : List UInt8) (S7 : St) =>
  evV tT (catD { data := List.toArray l7 } { data := List.toArray l8 }) fun (l9 : List UInt8) =>
  k (.tuple #[.string { data := List.toArray l9 }, .int .i64 0]) S7))
  (k (.tuple #[.string { data := List.toArray l3 }, .int .i64 0]) S5))
  fun (k1 : List UInt8 → St → Prop) =>
  ptrW (some ⟨b1, 0, none⟩) fun (b10 b11 : Nat) =>
  evV tI (loadV E0 S4 3 (.pointer (some ⟨b10, b11 + 0, none⟩))) fun (n6 : Int) =>
  ifW (eqI n6 1)
  (evV tT (catD { data := List.toArray l2 } { data := #[UInt8.ofNat 32] }) fun (l10 : List UInt8) =>
  ptrW (some ⟨b1, 0, none⟩) fun (b12 b13 : Nat) =>
  evV tU (loadV E0 S4 22 (.pointer (some ⟨b12, b13 + 5, none⟩))) fun (n7 : Int) =>
  evC E0 tT 44 [.int .u64 n7] S4 fun (l11 : List UInt8) (S8 : St) => evV tT (catD { data := List.toArray l10 } { data := List.toArray l11 }) fun (l12 : List UInt8) => k1 l12 S8)
  (joinW
  (fun (t2 : Bool) (S9 : St) =>
  ifW t2 (evV tT (catD { data := List.toArray l2 } { data := #[UInt8.ofNat 32, UInt8.ofNat 97, UInt8.ofNat 108, UInt8.ofNat 108] }) fun (l13 : List UInt8) => k1 l13 S9)
  (ptrW (some ⟨b1, 0, none⟩) fun (b14 b15 : Nat) =>
  evV tI (loadV E0 S9 3 (.pointer (some ⟨b14, b15 + 0, none⟩))) fun (n8 : Int) =>
  ifW (!eqI n8 6)
  (evV tT (catD { data := List.toArray l2 } { data := #[UInt8.ofNat 32] }) fun (l14 : List UInt8) =>
  ptrW (some ⟨b1, 0, none⟩) fun (b16 b17 : Nat) =>
  evV tI (loadV E0 S9 3 (.pointer (some ⟨b16, b17 + 2, none⟩))) fun (n9 : Int) =>
  evC E0 tT 44 [.int .u64 (wrapI .u64 n9)] S9 fun (l15 : List UInt8) (S10 : St) =>
  evV tT (catD { data := List.toArray l14 } { data := List.toArray l15 }) fun (l16 : List UInt8) => k1 l16 S10)
  (k1 l2 S9)))
  fun (k2 : Bool → St → Prop) =>
  ptrW (some ⟨b1, 0, none⟩) fun (b18 b19 : Nat) =>
  evV tI (loadV E0 S4 3 (.pointer (some ⟨b18, b19 + 0, none⟩))) fun (n10 : Int) =>
  ifW (eqI n10 9)
  (ptrW (some ⟨b1, 0, none⟩) fun (b20 b21 : Nat) => evV tI (loadV E0 S4 3 (.pointer (some ⟨b20, b21 + 2, none⟩))) fun (n11 : Int) => k2 (ltI n11 0) S4)
  (k2 false S4)))
  fun (k3 : List UInt8 → St → Prop) =>
  joinW
  (fun (t3 : Bool) (S11 : St) =>
  ifW t3
  (evV tT (catD { data := List.toArray l1 } { data := #[UInt8.ofNat 32] }) fun (l17 : List UInt8) =>
  ptrW (some ⟨b1, 0, none⟩) fun (b22 b23 : Nat) =>
  evV tI (loadV E0 S11 3 (.pointer (some ⟨b22, b23 + 1, none⟩))) fun (n12 : Int) =>
  evC E0 tT 44 [.int .u64 (wrapI .u64 n12)] S11 fun (l18 : List UInt8) (S12 : St) =>
  evV tT (catD { data := List.toArray l17 } { data := List.toArray l18 }) fun (l19 : List UInt8) => k3 l19 S12)
  (k3 l1 S11))
  fun (k4 : Bool → St → Prop) =>
  ptrW (some ⟨b1, 0, none⟩) fun (b24 b25 : Nat) =>
  evV tI (loadV E0 S3 3 (.pointer (some ⟨b24, b25 + 0, none⟩))) fun (n13 : Int) =>
  ifW (eqI n13 1) (k4 true S3)
  (ptrW (some ⟨b1, 0, none⟩) fun (b26 b27 : Nat) => evV tI (loadV E0 S3 3 (.pointer (some ⟨b26, b27 + 0, none⟩))) fun (n14 : Int) => k4 (leI 6 n14) S3))
theorem w12 (x_0 : Int × Int × Int × Int × Int × Int) {S : St} {k : Value → St → Prop} (h : c12 x_0 S k) : WC E0 12 [sv G23 x_0] S k :=
  WC_den h12 rfl (by kernel_rfl) (by kernel_rfl : Tryd.f12.body = some (bodyOf Tryd.f12)) (by rw [show (denF E0 h12 Tryd.f12 (bodyOf Tryd.f12) [sv G23 x_0] S k) = c12 x_0 S k by kernel_rfl]; exact h)

/-! 13 wagonway/order.Read -/
noncomputable def h13 : Hn := (.n .no (.n .no (.n .no (.n (.n .no (.n (.n .no .no (some ⟨[0, 2, 4, 5], [(17, .sc (.int .i64))], false⟩)) .no none) none) (.n .no (.n .no (.n (.n .no (.n (.n .no .no (some ⟨[], [(40, .sc (.int .u8))], false⟩)) .no none) none) .no none) none) none) none) none) none) none)
def c13 (s_0 : List UInt8) (S : St) (k : Value → St → Prop) : Prop :=
  newW S (.cells [.int .i64 0, .int .i64 0, .int .i64 0, .int .i64 0, .int .i64 0, .int .u64 0] none false none) fun (b1 : Nat) (S1 : St) =>
  evC E0 tS 45 [.string { data := List.toArray s_0 }, .string { data := #[UInt8.ofNat 32] }] S1 fun (s1 : Sl) (S2 : St) =>
  newW S2 (.cells [.slice none 0 0] none false none) fun (b2 : Nat) (S3 : St) =>
  evS (storeV E0 S3 80 (.pointer (some ⟨b2, 0, none⟩)) (.slice s1.a s1.len s1.cap)) fun (S4 : St) =>
  newW S4 (.cells [.int .i64 0, .int .i64 0, .int .i64 0, .int .i64 0, .int .i64 0, .int .u64 0] none false none)
  fun (b3 : Nat) (S5 : St) =>
  evS
  (storeV E0 S5 24 (.pointer (some ⟨b3, 0, none⟩))
  (.agg #[.int .i64 0, .int .i64 0, .int .i64 0, .int .i64 0, .int .i64 0, .int .u64 0]))
  fun (S6 : St) =>
  loopW
  (fun (k1 : Int → St → Prop) (n1 : Int) (S7 : St) =>
  ifW (ltI n1 10)
  (ifW (ltI 0 n1)
  (idxW (some ⟨0, 0, none⟩) 10 n1 fun (b4 b5 : Nat) =>
  evV tT (loadV E0 S7 9 (.pointer (some ⟨b4, b5 + Int.toNat n1 * 1, none⟩))) fun (l1 : List UInt8) =>
  evV tS (loadV E0 S7 80 (.pointer (some ⟨b2, 0, none⟩))) fun (s2 : Sl) =>
  idxW s2.a s2.len 0 fun (b6 b7 : Nat) =>
  evV tT (loadV E0 S7 9 (.pointer (some ⟨b6, b7 + Int.toNat 0 * 1, none⟩))) fun (l2 : List UInt8) =>
  ifW (l1 == l2)
  (ptrW (some ⟨b3, 0, none⟩) fun (b8 b9 : Nat) =>
  evS (storeV E0 S7 3 (.pointer (some ⟨b8, b9 + 0, none⟩)) (.int .i64 n1)) fun (S8 : St) => k1 (wrapI .i64 (n1 + 1)) S8)
  (k1 (wrapI .i64 (n1 + 1)) S7))
  (k1 (wrapI .i64 (n1 + 1)) S7))
  (evV tS (loadV E0 S7 80 (.pointer (some ⟨b2, 0, none⟩))) fun (s3 : Sl) =>
  evV tS (sliceD E0 S7 80 (.slice s3.a s3.len s3.cap) (some (.int .i64 1)) none none) fun (s4 : Sl) =>
  evS (storeV E0 S7 80 (.pointer (some ⟨b2, 0, none⟩)) (.slice s4.a s4.len s4.cap)) fun (S9 : St) =>
  newW S9 (.cells [Value.nilFunc] none false none) fun (b10 : Nat) (S10 : St) =>
  evS (storeV E0 S10 94 (.pointer (some ⟨b10, 0, none⟩)) (.func (Fn.func 46) #[] #[.pointer (some ⟨b2, 0, none⟩)])) fun (S11 : St) =>
  ptrW (some ⟨b3, 0, none⟩) fun (b11 b12 : Nat) =>
  evV tI (loadV E0 S11 3 (.pointer (some ⟨b11, b12 + 0, none⟩))) fun (n2 : Int) =>
  evC E0 tA 39 [.int .i64 n2] S11 fun (v1 : Value) (S12 : St) =>
  newW S12 DObj.deferred fun (b13 : Nat) (S13 : St) =>
  ∀ (b14 : Nat) (S14 : St) (k2 : LoopState → Option Code → DObj),
  b14 = S13.next →
  S14 = (St.alloc S13 (k2 LoopState.ready none)).2 →
  (LoopL fun (x1 : LoopState) (p1 : Option Code) => k2 x1 p1) →
  (RoundH E0 b14 [Ty.sc (Sc.int .u8)] fun (n3 : Int) (S15 : St) (k3 : Bool → St → Prop) =>
  hasW S15 b14 (k2 LoopState.ready none)
  (hasW S15 b14 (k2 LoopState.ready none)
  (updW S15 b14 (k2 LoopState.busy none) fun (S16 : St) =>
  evV tA (loadV E0 S16 94 (.pointer (some ⟨b10, 0, none⟩))) fun (v2 : Value) =>
  evY E0 tT v2 [] S16 fun (l3 : List UInt8) (S17 : St) =>
  evC E0 (TT.tup [Ty.sc (Sc.int .i64), Ty.sc Sc.any]) 47 [.string { data := List.toArray l3 }] S17 fun (x2 : Int × Value) (S18 : St) =>
  ifW (eqI n3 114)
  (ptrW (some ⟨b3, 0, none⟩) fun (b15 b16 : Nat) =>
  evS (storeV E0 S18 3 (.pointer (some ⟨b15, b16 + 1, none⟩)) (.int .i64 x2.1)) fun (S19 : St) =>
  hasW S19 b14 (k2 LoopState.busy none) (updW S19 b14 (k2 LoopState.ready none) fun (S20 : St) => k3 true S20))
  (ifW (eqI n3 100)
  (evC E0 (TT.tup [Ty.sc (Sc.int .u64), Ty.sc Sc.any]) 48
  [.string { data := List.toArray l3 }, .int .i64 10, .int .i64 64] S18 fun (x3 : Int × Value) (S21 : St) =>
  ptrW (some ⟨b3, 0, none⟩) fun (b17 b18 : Nat) =>
  evS (storeV E0 S21 22 (.pointer (some ⟨b17, b18 + 5, none⟩)) (.int .u64 x3.1)) fun (S22 : St) =>
  hasW S22 b14 (k2 LoopState.busy none) (updW S22 b14 (k2 LoopState.ready none) fun (S23 : St) => k3 true S23))
  (ifW (eqI n3 97)
  (ptrW (some ⟨b3, 0, none⟩) fun (b19 b20 : Nat) =>
  evS (storeV E0 S18 3 (.pointer (some ⟨b19, b20 + 3, none⟩)) (.int .i64 x2.1)) fun (S24 : St) =>
  hasW S24 b14 (k2 LoopState.busy none) (updW S24 b14 (k2 LoopState.ready none) fun (S25 : St) => k3 true S25))
  (ifW (eqI n3 119)
  (ptrW (some ⟨b3, 0, none⟩) fun (b21 b22 : Nat) =>
  evS (storeV E0 S18 3 (.pointer (some ⟨b21, b22 + 4, none⟩)) (.int .i64 x2.1)) fun (S26 : St) =>
  hasW S26 b14 (k2 LoopState.busy none) (updW S26 b14 (k2 LoopState.ready none) fun (S27 : St) => k3 true S27))
  (ptrW (some ⟨b3, 0, none⟩) fun (b23 b24 : Nat) =>
  evS (storeV E0 S18 3 (.pointer (some ⟨b23, b24 + 2, none⟩)) (.int .i64 x2.1)) fun (S28 : St) =>
  ifW (eqI n3 117)
  (ifW (l3 == [UInt8.ofNat 97, UInt8.ofNat 108, UInt8.ofNat 108])
  (ptrW (some ⟨b3, 0, none⟩) fun (b25 b26 : Nat) =>
  evS (storeV E0 S28 3 (.pointer (some ⟨b25, b26 + 2, none⟩)) (.int .i64 (-1))) fun (S29 : St) =>
  hasW S29 b14 (k2 LoopState.busy none) (updW S29 b14 (k2 LoopState.ready none) fun (S30 : St) => k3 true S30))
  (hasW S28 b14 (k2 LoopState.busy none) (updW S28 b14 (k2 LoopState.ready none) fun (S31 : St) => k3 true S31)))
  (hasW S28 b14 (k2 LoopState.busy none) (updW S28 b14 (k2 LoopState.ready none) fun (S32 : St) => k3 true S32))))))))) →
  WG E0 v1 b14 S14 fun (S33 : St) =>
  hasW S33 b14 (k2 LoopState.ready none)
  (updW S33 b14 (k2 LoopState.exhausted none) fun (S34 : St) =>
  evV (TT.one (Ty.agg G23)) (loadV E0 S34 24 (.pointer (some ⟨b3, 0, none⟩))) fun (x4 : Int × Int × Int × Int × Int × Int) =>
  evC E0 (TT.tup [Ty.sc Sc.str, Ty.sc (Sc.int .i64)]) 11 [sv G23 x4] S34 fun (x5 : List UInt8 × Int) (S35 : St) =>
  ifW (!eqI x5.2 0)
  (evS
  (storeV E0 S35 24 (.pointer (some ⟨b1, 0, none⟩))
  (.agg
  #[.int .i64 0, .int .i64 0, .int .i64 0, .int .i64 0, .int .i64 0, .int .u64 0]))
  fun (S36 : St) =>
  hasW S36 b13 DObj.deferred
  (updW S36 b13 DObj.dead fun (S37 : St) =>
  evV (TT.one (Ty.agg G23)) (loadV E0 S37 24 (.pointer (some ⟨b1, 0, none⟩))) fun (x6 : Int × Int × Int × Int × Int × Int) =>
  k (.tuple #[sv G23 x6, .int .i64 230]) S37))
  (ifW (!x5.1 == s_0)
  (evS
  (storeV E0 S35 24 (.pointer (some ⟨b1, 0, none⟩))
  (.agg
  #[.int .i64 0, .int .i64 0, .int .i64 0, .int .i64 0, .int .i64 0,
  .int .u64 0]))
  fun (S38 : St) =>
  hasW S38 b13 DObj.deferred
  (updW S38 b13 DObj.dead fun (S39 : St) =>
  evV (TT.one (Ty.agg G23)) (loadV E0 S39 24 (.pointer (some ⟨b1, 0, none⟩))) fun (x7 : Int × Int × Int × Int × Int × Int) =>
  k (.tuple #[sv G23 x7, .int .i64 230]) S39))
  (evV (TT.one (Ty.agg G23)) (loadV E0 S35 24 (.pointer (some ⟨b3, 0, none⟩))) fun (x8 : Int × Int × Int × Int × Int × Int) =>
  evS (storeV E0 S35 24 (.pointer (some ⟨b1, 0, none⟩)) (sv G23 x8)) fun (S40 : St) =>
  hasW S40 b13 DObj.deferred
  (updW S40 b13 DObj.dead fun (S41 : St) =>
  evV (TT.one (Ty.agg G23)) (loadV E0 S41 24 (.pointer (some ⟨b1, 0, none⟩))) fun (x9 : Int × Int × Int × Int × Int × Int) =>
  k (.tuple #[sv G23 x9, .int .i64 0]) S41)))) ∨
  False))
  0 S6
theorem w13 (s_0 : List UInt8) {S : St} {k : Value → St → Prop} (h : c13 s_0 S k) : WC E0 13 [.string ⟨s_0.toArray⟩] S k :=
  WC_den h13 rfl (by kernel_rfl) (by kernel_rfl : Tryd.f13.body = some (bodyOf Tryd.f13)) (by rw [show (denF E0 h13 Tryd.f13 (bodyOf Tryd.f13) [.string ⟨s_0.toArray⟩] S k) = c13 s_0 S k by kernel_rfl]; exact h)

/-! 14 wagonway/wagonwayref23.Read -/
noncomputable def h14 : Hn := (.n .no (.n .no (.n .no (.n (.n .no (.n (.n .no .no (some ⟨[0, 2, 4, 5], [(6, .sc (.int .i64))], false⟩)) .no none) none) (.n (.n (.n .no .no (some ⟨[0, 2, 5], [(4, .sc .sl)], false⟩)) .no none) (.n (.n (.n .no (.n .no (.n .no (.n .no (.n .no (.n .no (.n .no (.n (.n .no (.n .no .no (some ⟨[0, 2, 4, 5], [], false⟩)) none) .no none) none) none) none) none) (some ⟨[0, 2, 4, 5], [(46, .sc .bool)], false⟩)) none) none) .no none) .no (some ⟨[0, 2, 5], [], false⟩)) none) none) none) none) none)
def c14 (s_0 : List UInt8) (S : St) (k : Value → St → Prop) : Prop :=
  newW S (.cells [.int .i64 0, .int .i64 0, .int .i64 0, .int .i64 0, .int .i64 0, .int .u64 0] none false none) fun (b1 : Nat) (S1 : St) =>
  evC E0 tS 49 [.string { data := List.toArray s_0 }] S1 fun (s1 : Sl) (S2 : St) =>
  newW S2 (.cells [.int .i64 0, .int .i64 0, .int .i64 0, .int .i64 0, .int .i64 0, .int .u64 0] none false none) fun (b2 : Nat) (S3 : St) =>
  evS
  (storeV E0 S3 24 (.pointer (some ⟨b2, 0, none⟩))
  (.agg #[.int .i64 0, .int .i64 0, .int .i64 0, .int .i64 0, .int .i64 0, .int .u64 0]))
  fun (S4 : St) =>
  loopW
  (fun (k1 : Int → St → Prop) (n1 : Int) (S5 : St) =>
  ifW (leI n1 9)
  (evC E0 tT 17 [.int .i64 n1] S5 fun (l1 : List UInt8) (S6 : St) =>
  idxW s1.a s1.len 0 fun (b3 b4 : Nat) =>
  evV tT (loadV E0 S6 9 (.pointer (some ⟨b3, b4 + Int.toNat 0 * 1, none⟩))) fun (l2 : List UInt8) =>
  ifW (l1 == l2)
  (ptrW (some ⟨b2, 0, none⟩) fun (b5 b6 : Nat) =>
  evS (storeV E0 S6 3 (.pointer (some ⟨b5, b6 + 0, none⟩)) (.int .i64 n1)) fun (S7 : St) => k1 (wrapI .i64 (n1 + 1)) S7)
  (k1 (wrapI .i64 (n1 + 1)) S6))
  (loopW
  (fun (k2 : Sl → St → Prop) (s2 : Sl) (S8 : St) =>
  ifW (ltI (↑s2.len : Int) 4)
  (newW S8 (.cells [.string { data := #[] }] none false none) fun (b7 : Nat) (S9 : St) =>
  evP tS (appendD E0 S9 80 80 (.slice s2.a s2.len s2.cap) (.slice (some ⟨b7, 0, none⟩) 1 1)) fun (s3 : Sl) (S10 : St) => k2 { a := s3.a, len := s3.len, cap := s3.cap } S10)
  (joinW
  (fun (x1 : PUnit) (S11 : St) =>
  evV (TT.one (Ty.agg G23)) (loadV E0 S11 24 (.pointer (some ⟨b2, 0, none⟩))) fun (x2 : Int × Int × Int × Int × Int × Int) =>
  evC E0 (TT.tup [Ty.sc Sc.str, Ty.sc (Sc.int .i64)]) 12 [sv G23 x2] S11 fun (x3 : List UInt8 × Int) (S12 : St) =>
  ifW (!eqI x3.2 0)
  (evS
  (storeV E0 S12 24 (.pointer (some ⟨b1, 0, none⟩))
  (.agg #[.int .i64 0, .int .i64 0, .int .i64 0, .int .i64 0, .int .i64 0, .int .u64 0]))
  fun (S13 : St) =>
  evV (TT.one (Ty.agg G23)) (loadV E0 S13 24 (.pointer (some ⟨b1, 0, none⟩))) fun (x4 : Int × Int × Int × Int × Int × Int) =>
  k (.tuple #[sv G23 x4, .int .i64 230]) S13)
  (ifW (!x3.1 == s_0)
  (evS
  (storeV E0 S12 24 (.pointer (some ⟨b1, 0, none⟩))
  (.agg #[.int .i64 0, .int .i64 0, .int .i64 0, .int .i64 0, .int .i64 0, .int .u64 0]))
  fun (S14 : St) =>
  evV (TT.one (Ty.agg G23)) (loadV E0 S14 24 (.pointer (some ⟨b1, 0, none⟩))) fun (x5 : Int × Int × Int × Int × Int × Int) =>
  k (.tuple #[sv G23 x5, .int .i64 230]) S14)
  (evV (TT.one (Ty.agg G23)) (loadV E0 S12 24 (.pointer (some ⟨b2, 0, none⟩))) fun (x6 : Int × Int × Int × Int × Int × Int) =>
  evS (storeV E0 S12 24 (.pointer (some ⟨b1, 0, none⟩)) (sv G23 x6)) fun (S15 : St) =>
  evV (TT.one (Ty.agg G23)) (loadV E0 S15 24 (.pointer (some ⟨b1, 0, none⟩))) fun (x7 : Int × Int × Int × Int × Int × Int) =>
  k (.tuple #[sv G23 x7, .int .i64 0]) S15)))
  fun (k3 : PUnit → St → Prop) =>
  ptrW (some ⟨b2, 0, none⟩) fun (b8 b9 : Nat) =>
  evV tI (loadV E0 S8 3 (.pointer (some ⟨b8, b9 + 0, none⟩))) fun (n2 : Int) =>
  ifW (eqI n2 1)
  (idxW s2.a s2.len 1 fun (b10 b11 : Nat) =>
  evV tT (loadV E0 S8 9 (.pointer (some ⟨b10, b11 + Int.toNat 1 * 1, none⟩))) fun (l3 : List UInt8) =>
  evC E0 tI 50 [.string { data := List.toArray l3 }] S8 fun (n3 : Int) (S16 : St) =>
  ptrW (some ⟨b2, 0, none⟩) fun (b12 b13 : Nat) =>
  evS (storeV E0 S16 3 (.pointer (some ⟨b12, b13 + 1, none⟩)) (.int .i64 n3)) fun (S17 : St) =>
  idxW s2.a s2.len 2 fun (b14 b15 : Nat) =>
  evV tT (loadV E0 S17 9 (.pointer (some ⟨b14, b15 + Int.toNat 2 * 1, none⟩))) fun (l4 : List UInt8) =>
  evC E0 tU 51 [.string { data := List.toArray l4 }] S17 fun (n4 : Int) (S18 : St) =>
  ptrW (some ⟨b2, 0, none⟩) fun (b16 b17 : Nat) =>
  evS (storeV E0 S18 22 (.pointer (some ⟨b16, b17 + 5, none⟩)) (.int .u64 n4)) fun (S19 : St) => k3 PUnit.unit S19)
  (joinW
  (fun (t1 : Bool) (S20 : St) =>
  ifW t1
  (idxW s2.a s2.len 1 fun (b18 b19 : Nat) =>
  evV tT (loadV E0 S20 9 (.pointer (some ⟨b18, b19 + Int.toNat 1 * 1, none⟩))) fun (l5 : List UInt8) =>
  evC E0 tI 50 [.string { data := List.toArray l5 }] S20 fun (n5 : Int) (S21 : St) =>
  ptrW (some ⟨b2, 0, none⟩) fun (b20 b21 : Nat) =>
  evS (storeV E0 S21 3 (.pointer (some ⟨b20, b21 + 2, none⟩)) (.int .i64 n5)) fun (S22 : St) => k3 PUnit.unit S22)
  (ptrW (some ⟨b2, 0, none⟩) fun (b22 b23 : Nat) =>
  evV tI (loadV E0 S20 3 (.pointer (some ⟨b22, b23 + 0, none⟩))) fun (n6 : Int) =>
  ifW (eqI n6 5)
  (idxW s2.a s2.len 1 fun (b24 b25 : Nat) =>
  evV tT (loadV E0 S20 9 (.pointer (some ⟨b24, b25 + Int.toNat 1 * 1, none⟩))) fun (l6 : List UInt8) =>
  evC E0 tI 50 [.string { data := List.toArray l6 }] S20 fun (n7 : Int) (S23 : St) =>
  ptrW (some ⟨b2, 0, none⟩) fun (b26 b27 : Nat) =>
  evS (storeV E0 S23 3 (.pointer (some ⟨b26, b27 + 2, none⟩)) (.int .i64 n7)) fun (S24 : St) =>
  idxW s2.a s2.len 2 fun (b28 b29 : Nat) =>
  evV tT (loadV E0 S24 9 (.pointer (some ⟨b28, b29 + Int.toNat 2 * 1, none⟩))) fun (l7 : List UInt8) =>
  evC E0 tI 50 [.string { data := List.toArray l7 }] S24 fun (n8 : Int) (S25 : St) =>
  ptrW (some ⟨b2, 0, none⟩) fun (b30 b31 : Nat) =>
  evS (storeV E0 S25 3 (.pointer (some ⟨b30, b31 + 3, none⟩)) (.int .i64 n8)) fun (S26 : St) =>
  idxW s2.a s2.len 3 fun (b32 b33 : Nat) =>
  evV tT (loadV E0 S26 9 (.pointer (some ⟨b32, b33 + Int.toNat 3 * 1, none⟩))) fun (l8 : List UInt8) =>
  evC E0 tI 50 [.string { data := List.toArray l8 }] S26 fun (n9 : Int) (S27 : St) =>
  ptrW (some ⟨b2, 0, none⟩) fun (b34 b35 : Nat) =>
  evS (storeV E0 S27 3 (.pointer (some ⟨b34, b35 + 4, none⟩)) (.int .i64 n9)) fun (S28 : St) => k3 PUnit.unit S28)
  (ptrW (some ⟨b2, 0, none⟩) fun (b36 b37 : Nat) =>
  evV tI (loadV E0 S20 3 (.pointer (some ⟨b36, b37 + 0, none⟩))) fun (n10 : Int) =>
  ifW (leI 6 n10)
  (idxW s2.a s2.len 1 fun (b38 b39 : Nat) =>
  evV tT (loadV E0 S20 9 (.pointer (some ⟨b38, b39 + Int.toNat 1 * 1, none⟩))) fun (l9 : List UInt8) =>
  evC E0 tI 50 [.string { data := List.toArray l9 }] S20 fun (n11 : Int) (S29 : St) =>
  ptrW (some ⟨b2, 0, none⟩) fun (b40 b41 : Nat) =>
  evS (storeV E0 S29 3 (.pointer (some ⟨b40, b41 + 1, none⟩)) (.int .i64 n11)) fun (S30 : St) =>
  joinW
  (fun (x8 : PUnit) (S31 : St) =>
  ptrW (some ⟨b2, 0, none⟩) fun (b42 b43 : Nat) =>
  evV tI (loadV E0 S31 3 (.pointer (some ⟨b42, b43 + 0, none⟩))) fun (n12 : Int) =>
  ifW (eqI n12 9)
  (idxW s2.a s2.len 2 fun (b44 b45 : Nat) =>
  evV tT (loadV E0 S31 9 (.pointer (some ⟨b44, b45 + Int.toNat 2 * 1, none⟩))) fun (l10 : List UInt8) =>
  ifW (l10 == [UInt8.ofNat 97, UInt8.ofNat 108, UInt8.ofNat 108])
  (ptrW (some ⟨b2, 0, none⟩) fun (b46 b47 : Nat) =>
  evS (storeV E0 S31 3 (.pointer (some ⟨b46, b47 + 2, none⟩)) (.int .i64 (-1))) fun (S32 : St) => k3 PUnit.unit S32)
  (k3 PUnit.unit S31))
  (k3 PUnit.unit S31))
  fun (k4 : PUnit → St → Prop) =>
  ptrW (some ⟨b2, 0, none⟩) fun (b48 b49 : Nat) =>
  evV tI (loadV E0 S30 3 (.pointer (some ⟨b48, b49 + 0, none⟩))) fun (n13 : Int) =>
  ifW (ltI 6 n13)
  (idxW s2.a s2.len 2 fun (b50 b51 : Nat) =>
  evV tT (loadV E0 S30 9 (.pointer (some ⟨b50, b51 + Int.toNat 2 * 1, none⟩))) fun (l11 : List UInt8) =>
  evC E0 tI 50 [.string { data := List.toArray l11 }] S30 fun (n14 : Int) (S33 : St) =>
  ptrW (some ⟨b2, 0, none⟩) fun (b52 b53 : Nat) =>
  evS (storeV E0 S33 3 (.pointer (some ⟨b52, b53 + 2, none⟩)) (.int .i64 n14)) fun (S34 : St) => k4 PUnit.unit S34)
  (k4 PUnit.unit S30))
  (k3 PUnit.unit S20))))
  fun (k5 : Bool → St → Prop) =>
  ptrW (some ⟨b2, 0, none⟩) fun (b54 b55 : Nat) =>
  evV tI (loadV E0 S8 3 (.pointer (some ⟨b54, b55 + 0, none⟩))) fun (n15 : Int) =>
  ifW (leI 2 n15)
  (ptrW (some ⟨b2, 0, none⟩) fun (b56 b57 : Nat) => evV tI (loadV E0 S8 3 (.pointer (some ⟨b56, b57 + 0, none⟩))) fun (n16 : Int) => k5 (leI n16 4) S8)
  (k5 false S8))))
  { a := s1.a, len := s1.len, cap := s1.cap } S5))
  1 S4
theorem w14 (s_0 : List UInt8) {S : St} {k : Value → St → Prop} (h : c14 s_0 S k) : WC E0 14 [.string ⟨s_0.toArray⟩] S k :=
  WC_den h14 rfl (by kernel_rfl) (by kernel_rfl : Tryd.f14.body = some (bodyOf Tryd.f14)) (by rw [show (denF E0 h14 Tryd.f14 (bodyOf Tryd.f14) [.string ⟨s_0.toArray⟩] S k) = c14 s_0 S k by kernel_rfl]; exact h)

/-! 15 wagonway/order.Check -/
noncomputable def h15 : Hn := (.n .no (.n (.n .no (.n .no (.n .no (.n (.n .no (.n (.n .no .no (some ⟨[], [(16, .sc (.int .u8))], false⟩)) .no none) none) .no (some ⟨[1, 3, 4], [], true⟩)) none) none) none) .no none) none)
def c15 (x_0 : Int × Int × Int × Int × Int × Int) (S : St) (k : Value → St → Prop) : Prop :=
  newW S
  (.cells
  [.int .i64 x_0.1, .int .i64 x_0.2.1, .int .i64 x_0.2.2.1, .int .i64 x_0.2.2.2.1, .int .i64 x_0.2.2.2.2.1,
  .int .u64 x_0.2.2.2.2.2]
  none false none)
  fun (b1 : Nat) (S1 : St) =>
  ptrW (some ⟨b1, 0, none⟩) fun (b2 b3 : Nat) =>
  evV tI (loadV E0 S1 3 (.pointer (some ⟨b2, b3 + 0, none⟩))) fun (n1 : Int) =>
  newW S1 (.cells [.int .i64 0, .int .i64 0, .int .i64 0, .int .i64 0, .int .i64 0, .int .u64 0] none false none)
  fun (b4 : Nat) (S2 : St) =>
  evS
  (storeV E0 S2 24 (.pointer (some ⟨b4, 0, none⟩))
  (.agg #[.int .i64 n1, .int .i64 0, .int .i64 0, .int .i64 0, .int .i64 0, .int .u64 0]))
  fun (S3 : St) =>
  ptrW (some ⟨b1, 0, none⟩) fun (b5 b6 : Nat) =>
  evV tI (loadV E0 S3 3 (.pointer (some ⟨b5, b6 + 0, none⟩))) fun (n2 : Int) =>
  evC E0 tT 16 [.int .i64 n2] S3 fun (l1 : List UInt8) (S4 : St) =>
  newW S4 (.cells [.bool false] none false none) fun (b7 : Nat) (S5 : St) =>
  evS (storeV E0 S5 4 (.pointer (some ⟨b7, 0, none⟩)) (.bool !l1 == [])) fun (S6 : St) =>
  joinW
  (fun (x1 : List Nat × PUnit) (S7 : St) =>
  evV tB (loadV E0 S7 4 (.pointer (some ⟨b7, 0, none⟩))) fun (t1 : Bool) =>
  ifW (!t1) (shutW x1.1 S7 fun (S8 : St) => k (.int .i64 230) S8)
  (evV (TT.one (Ty.agg G23)) (loadV E0 S7 24 (.pointer (some ⟨b1, 0, none⟩))) fun (x2 : Int × Int × Int × Int × Int × Int) =>
  evV (TT.one (Ty.agg G23)) (loadV E0 S7 24 (.pointer (some ⟨b4, 0, none⟩))) fun (x3 : Int × Int × Int × Int × Int × Int) =>
  eqW E0 S7 24 (sv G23 x2) (sv G23 x3) fun (t2 : Bool) =>
  ifW (!t2) (shutW x1.1 S7 fun (S9 : St) => k (.int .i64 230) S9) (shutW x1.1 S7 fun (S10 : St) => k (.int .i64 0) S10)))
  fun (k1 : List Nat × PUnit → St → Prop) =>
  ptrW (some ⟨b1, 0, none⟩) fun (b8 b9 : Nat) =>
  evV tI (loadV E0 S6 3 (.pointer (some ⟨b8, b9 + 0, none⟩))) fun (n3 : Int) =>
  evC E0 tA 39 [.int .i64 n3] S6 fun (v1 : Value) (S11 : St) =>
  newW S11 DObj.deferred fun (b10 : Nat) (S12 : St) =>
  ∀ (b11 : Nat) (S13 : St) (k2 : LoopState → Option Code → DObj),
  b11 = S12.next →
  S13 = (St.alloc S12 (k2 LoopState.ready none)).2 →
  (LoopL fun (x4 : LoopState) (p1 : Option Code) => k2 x4 p1) →
  (RoundH E0 b11 [Ty.sc (Sc.int .u8)] fun (n4 : Int) (S14 : St) (k3 : Bool → St → Prop) =>
  hasW S14 b11 (k2 LoopState.ready none)
  (hasW S14 b11 (k2 LoopState.ready none)
  (updW S14 b11 (k2 LoopState.busy none) fun (S15 : St) =>
  ifW (eqI n4 114)
  (ptrW (some ⟨b1, 0, none⟩) fun (b12 b13 : Nat) =>
  evV tI (loadV E0 S15 3 (.pointer (some ⟨b12, b13 + 1, none⟩))) fun (n5 : Int) =>
  ptrW (some ⟨b1, 0, none⟩) fun (b14 b15 : Nat) =>
  evV tI (loadV E0 S15 3 (.pointer (some ⟨b14, b15 + 1, none⟩))) fun (n6 : Int) =>
  evC E0 tB 52 [.int .i64 n6, .int .i64 0, .int .i64 63] S15 fun (t3 : Bool) (S16 : St) =>
  evV tI (loadV E0 S16 3 (.pointer (some ⟨b12, b13 + 1, none⟩))) fun (n7 : Int) =>
  sameV (.int .i64 n7) (.int .i64 n5)
  (ptrW (some ⟨b4, 0, none⟩) fun (b16 b17 : Nat) =>
  evS (storeV E0 S16 3 (.pointer (some ⟨b16, b17 + 1, none⟩)) (.int .i64 n5)) fun (S17 : St) =>
  evS (storeV E0 S17 4 (.pointer (some ⟨b7, 0, none⟩)) (.bool t3)) fun (S18 : St) =>
  evV tB (loadV E0 S18 4 (.pointer (some ⟨b7, 0, none⟩))) fun (t4 : Bool) =>
  ifW (!t4) (hasW S18 b11 (k2 LoopState.busy none) (updW S18 b11 (k2 LoopState.done (some (Code.exit 0))) fun (S19 : St) => k3 false S19))
  (hasW S18 b11 (k2 LoopState.busy none) (updW S18 b11 (k2 LoopState.ready none) fun (S20 : St) => k3 true S20))))
  (ifW (eqI n4 100)
  (ptrW (some ⟨b1, 0, none⟩) fun (b18 b19 : Nat) =>
  evV tU (loadV E0 S15 22 (.pointer (some ⟨b18, b19 + 5, none⟩))) fun (n8 : Int) =>
  ptrW (some ⟨b4, 0, none⟩) fun (b20 b21 : Nat) =>
  evS (storeV E0 S15 22 (.pointer (some ⟨b20, b21 + 5, none⟩)) (.int .u64 n8)) fun (S21 : St) =>
  evV tB (loadV E0 S21 4 (.pointer (some ⟨b7, 0, none⟩))) fun (t5 : Bool) =>
  ifW (!t5) (hasW S21 b11 (k2 LoopState.busy none) (updW S21 b11 (k2 LoopState.done (some (Code.exit 0))) fun (S22 : St) => k3 false S22))
  (hasW S21 b11 (k2 LoopState.busy none) (updW S21 b11 (k2 LoopState.ready none) fun (S23 : St) => k3 true S23)))
  (ifW (eqI n4 112)
  (ptrW (some ⟨b1, 0, none⟩) fun (b22 b23 : Nat) =>
  evV tI (loadV E0 S15 3 (.pointer (some ⟨b22, b23 + 2, none⟩))) fun (n9 : Int) =>
  ptrW (some ⟨b1, 0, none⟩) fun (b24 b25 : Nat) =>
  evV tI (loadV E0 S15 3 (.pointer (some ⟨b24, b25 + 2, none⟩))) fun (n10 : Int) =>
  ptrW (some ⟨b4, 0, none⟩) fun (b26 b27 : Nat) =>
  evS (storeV E0 S15 3 (.pointer (some ⟨b26, b27 + 2, none⟩)) (.int .i64 n9)) fun (S24 : St) =>
  evV tI (loadV E0 S24 3 (.pointer (some ⟨b24, b25 + 2, none⟩))) fun (n11 : Int) =>
  sameV (.int .i64 n11) (.int .i64 n10)
  (evS (storeV E0 S24 4 (.pointer (some ⟨b7, 0, none⟩)) (.bool (leI 1 n10))) fun (S25 : St) =>
  evV tB (loadV E0 S25 4 (.pointer (some ⟨b7, 0, none⟩))) fun (t6 : Bool) =>
  ifW (!t6) (hasW S25 b11 (k2 LoopState.busy none) (updW S25 b11 (k2 LoopState.done (some (Code.exit 0))) fun (S26 : St) => k3 false S26))
  (hasW S25 b11 (k2 LoopState.busy none) (updW S25 b11 (k2 LoopState.ready none) fun (S27 : St) => k3 true S27))))
  (ifW (eqI n4 97)
  (ptrW (some ⟨b1, 0, none⟩) fun (b28 b29 : Nat) =>
  evV tI (loadV E0 S15 3 (.pointer (some ⟨b28, b29 + 3, none⟩))) fun (n12 : Int) =>
  ptrW (some ⟨b1, 0, none⟩) fun (b30 b31 : Nat) =>
  evV tI (loadV E0 S15 3 (.pointer (some ⟨b30, b31 + 3, none⟩))) fun (n13 : Int) =>
  ptrW (some ⟨b4, 0, none⟩) fun (b32 b33 : Nat) =>
  evS (storeV E0 S15 3 (.pointer (some ⟨b32, b33 + 3, none⟩)) (.int .i64 n12)) fun (S28 : St) =>
  evV tI (loadV E0 S28 3 (.pointer (some ⟨b30, b31 + 3, none⟩))) fun (n14 : Int) =>
  sameV (.int .i64 n14) (.int .i64 n13)
  (evS (storeV E0 S28 4 (.pointer (some ⟨b7, 0, none⟩)) (.bool (leI 0 n13))) fun (S29 : St) =>
  evV tB (loadV E0 S29 4 (.pointer (some ⟨b7, 0, none⟩))) fun (t7 : Bool) =>
  ifW (!t7) (hasW S29 b11 (k2 LoopState.busy none) (updW S29 b11 (k2 LoopState.done (some (Code.exit 0))) fun (S30 : St) => k3 false S30))
  (hasW S29 b11 (k2 LoopState.busy none) (updW S29 b11 (k2 LoopState.ready none) fun (S31 : St) => k3 true S31))))
  (ifW (eqI n4 119)
  (ptrW (some ⟨b1, 0, none⟩) fun (b34 b35 : Nat) =>
  evV tI (loadV E0 S15 3 (.pointer (some ⟨b34, b35 + 4, none⟩))) fun (n15 : Int) =>
  ptrW (some ⟨b1, 0, none⟩) fun (b36 b37 : Nat) =>
  evV tI (loadV E0 S15 3 (.pointer (some ⟨b36, b37 + 4, none⟩))) fun (n16 : Int) =>
  evC E0 tB 52 [.int .i64 n16, .int .i64 1, .int .i64 255] S15 fun (t8 : Bool) (S32 : St) =>
  evV tI (loadV E0 S32 3 (.pointer (some ⟨b34, b35 + 4, none⟩))) fun (n17 : Int) =>
  sameV (.int .i64 n17) (.int .i64 n15)
  (ptrW (some ⟨b4, 0, none⟩) fun (b38 b39 : Nat) =>
  evS (storeV E0 S32 3 (.pointer (some ⟨b38, b39 + 4, none⟩)) (.int .i64 n15)) fun (S33 : St) =>
  evS (storeV E0 S33 4 (.pointer (some ⟨b7, 0, none⟩)) (.bool t8)) fun (S34 : St) =>
  evV tB (loadV E0 S34 4 (.pointer (some ⟨b7, 0, none⟩))) fun (t9 : Bool) =>
  ifW (!t9) (hasW S34 b11 (k2 LoopState.busy none) (updW S34 b11 (k2 LoopState.done (some (Code.exit 0))) fun (S35 : St) => k3 false S35))
  (hasW S34 b11 (k2 LoopState.busy none) (updW S34 b11 (k2 LoopState.ready none) fun (S36 : St) => k3 true S36))))
  (ifW (eqI n4 99)
  (ptrW (some ⟨b1, 0, none⟩) fun (b40 b41 : Nat) =>
  evV tI (loadV E0 S15 3 (.pointer (some ⟨b40, b41 + 2, none⟩))) fun (n18 : Int) =>
  ptrW (some ⟨b1, 0, none⟩) fun (b42 b43 : Nat) =>
  evV tI (loadV E0 S15 3 (.pointer (some ⟨b42, b43 + 2, none⟩))) fun (n19 : Int) =>
  evC E0 tB 52 [.int .i64 n19, .int .i64 0, .int .i64 1023] S15 fun (t10 : Bool) (S37 : St) =>
  evV tI (loadV E0 S37 3 (.pointer (some ⟨b40, b41 + 2, none⟩))) fun (n20 : Int) =>
  sameV (.int .i64 n20) (.int .i64 n18)
  (ptrW (some ⟨b4, 0, none⟩) fun (b44 b45 : Nat) =>
  evS (storeV E0 S37 3 (.pointer (some ⟨b44, b45 + 2, none⟩)) (.int .i64 n18)) fun (S38 : St) =>
  evS (storeV E0 S38 4 (.pointer (some ⟨b7, 0, none⟩)) (.bool t10)) fun (S39 : St) =>
  evV tB (loadV E0 S39 4 (.pointer (some ⟨b7, 0, none⟩))) fun (t11 : Bool) =>
  ifW (!t11) (hasW S39 b11 (k2 LoopState.busy none) (updW S39 b11 (k2 LoopState.done (some (Code.exit 0))) fun (S40 : St) => k3 false S40))
  (hasW S39 b11 (k2 LoopState.busy none) (updW S39 b11 (k2 LoopState.ready none) fun (S41 : St) => k3 true S41))))
  (ifW (eqI n4 101)
  (ptrW (some ⟨b1, 0, none⟩) fun (b46 b47 : Nat) =>
  evV tI (loadV E0 S15 3 (.pointer (some ⟨b46, b47 + 2, none⟩))) fun (n21 : Int) =>
  ptrW (some ⟨b1, 0, none⟩) fun (b48 b49 : Nat) =>
  evV tI (loadV E0 S15 3 (.pointer (some ⟨b48, b49 + 2, none⟩))) fun (n22 : Int) =>
  evC E0 tB 52 [.int .i64 n22, .int .i64 0, .int .i64 1000] S15 fun (t12 : Bool) (S42 : St) =>
  evV tI (loadV E0 S42 3 (.pointer (some ⟨b46, b47 + 2, none⟩))) fun (n23 : Int) =>
  sameV (.int .i64 n23) (.int .i64 n21)
  (ptrW (some ⟨b4, 0, none⟩) fun (b50 b51 : Nat) =>
  evS (storeV E0 S42 3 (.pointer (some ⟨b50, b51 + 2, none⟩)) (.int .i64 n21)) fun (S43 : St) =>
  evS (storeV E0 S43 4 (.pointer (some ⟨b7, 0, none⟩)) (.bool t12)) fun (S44 : St) =>
  evV tB (loadV E0 S44 4 (.pointer (some ⟨b7, 0, none⟩))) fun (t13 : Bool) =>
  ifW (!t13)
  (hasW S44 b11 (k2 LoopState.busy none) (updW S44 b11 (k2 LoopState.done (some (Code.exit 0))) fun (S45 : St) => k3 false S45))
  (hasW S44 b11 (k2 LoopState.busy none) (updW S44 b11 (k2 LoopState.ready none) fun (S46 : St) => k3 true S46))))
  (ptrW (some ⟨b1, 0, none⟩) fun (b52 b53 : Nat) =>
  evV tI (loadV E0 S15 3 (.pointer (some ⟨b52, b53 + 2, none⟩))) fun (n24 : Int) =>
  ptrW (some ⟨b1, 0, none⟩) fun (b54 b55 : Nat) =>
  evV tI (loadV E0 S15 3 (.pointer (some ⟨b54, b55 + 2, none⟩))) fun (n25 : Int) =>
  evC E0 tB 52 [.int .i64 n25, .int .i64 (-1), .int .i64 1000] S15 fun (t14 : Bool) (S47 : St) =>
  evV tI (loadV E0 S47 3 (.pointer (some ⟨b52, b53 + 2, none⟩))) fun (n26 : Int) =>
  sameV (.int .i64 n26) (.int .i64 n24)
  (ptrW (some ⟨b4, 0, none⟩) fun (b56 b57 : Nat) =>
  evS (storeV E0 S47 3 (.pointer (some ⟨b56, b57 + 2, none⟩)) (.int .i64 n24)) fun (S48 : St) =>
  evS (storeV E0 S48 4 (.pointer (some ⟨b7, 0, none⟩)) (.bool t14)) fun (S49 : St) =>
  evV tB (loadV E0 S49 4 (.pointer (some ⟨b7, 0, none⟩))) fun (t15 : Bool) =>
  ifW (!t15)
  (hasW S49 b11 (k2 LoopState.busy none) (updW S49 b11 (k2 LoopState.done (some (Code.exit 0))) fun (S50 : St) => k3 false S50))
  (hasW S49 b11 (k2 LoopState.busy none) (updW S49 b11 (k2 LoopState.ready none) fun (S51 : St) => k3 true S51))))))))))))) →
  WG E0 v1 b11 S13 fun (S52 : St) =>
  hasW S52 b11 (k2 LoopState.ready none) (updW S52 b11 (k2 LoopState.exhausted none) fun (S53 : St) => k1 ([b10], PUnit.unit) S53) ∨
  hasW S52 b11 (k2 LoopState.done (some (Code.exit 0))) (updW S52 b11 (k2 LoopState.exhausted (some (Code.exit 0))) fun (S54 : St) => k1 ([b10], PUnit.unit) S54) ∨ False
theorem w15 (x_0 : Int × Int × Int × Int × Int × Int) {S : St} {k : Value → St → Prop} (h : c15 x_0 S k) : WC E0 15 [sv G23 x_0] S k :=
  WC_den h15 rfl (by kernel_rfl) (by kernel_rfl : Tryd.f15.body = some (bodyOf Tryd.f15)) (by rw [show (denF E0 h15 Tryd.f15 (bodyOf Tryd.f15) [sv G23 x_0] S k) = c15 x_0 S k by kernel_rfl]; exact h)

/-! 16 wagonway/order.Name -/
noncomputable def h16 : Hn := .no
def c16 (kind_0 : Int) (S : St) (k : Value → St → Prop) : Prop :=
  ifW (ltI kind_0 0) (k (.string { data := #[] }) S)
  (ifW (leI 10 kind_0) (k (.string { data := #[] }) S)
  (idxW (some ⟨0, 0, none⟩) 10 kind_0 fun (b1 b2 : Nat) =>
  evV tT (loadV E0 S 9 (.pointer (some ⟨b1, b2 + Int.toNat kind_0 * 1, none⟩))) fun (l1 : List UInt8) => k (.string { data := List.toArray l1 }) S))
theorem w16 (kind_0 : Int) {S : St} {k : Value → St → Prop} (h : c16 kind_0 S k) : WC E0 16 [.int .i64 kind_0] S k :=
  WC_den h16 rfl (by kernel_rfl) (by kernel_rfl : Tryd.f16.body = some (bodyOf Tryd.f16)) (by rw [show (denF E0 h16 Tryd.f16 (bodyOf Tryd.f16) [.int .i64 kind_0] S k) = c16 kind_0 S k by kernel_rfl]; exact h)

/-! 17 wagonway/wagonwayref23.Name -/
noncomputable def h17 : Hn := .no
def c17 (kind_0 : Int) (S : St) (k : Value → St → Prop) : Prop :=
  ifW (ltI kind_0 1) (k (.string { data := #[] }) S)
  (ifW (ltI 9 kind_0) (k (.string { data := #[] }) S)
  (newW S
  (.cells
  [.string { data := #[] }, .string { data := #[UInt8.ofNat 115, UInt8.ofNat 116, UInt8.ofNat 101, UInt8.ofNat 112] },
  .string { data := #[UInt8.ofNat 100, UInt8.ofNat 101, UInt8.ofNat 108, UInt8.ofNat 105, UInt8.ofNat 118, UInt8.ofNat 101, UInt8.ofNat 114] },
  .string { data := #[UInt8.ofNat 100, UInt8.ofNat 114, UInt8.ofNat 111, UInt8.ofNat 112] },
  .string { data := #[UInt8.ofNat 100, UInt8.ofNat 111, UInt8.ofNat 117, UInt8.ofNat 98, UInt8.ofNat 108, UInt8.ofNat 101] },
  .string { data := #[UInt8.ofNat 115, UInt8.ofNat 112, UInt8.ofNat 111, UInt8.ofNat 105, UInt8.ofNat 108] }, .string { data := #[UInt8.ofNat 116, UInt8.ofNat 105, UInt8.ofNat 99, UInt8.ofNat 107] },
  .string { data := #[UInt8.ofNat 103, UInt8.ofNat 111, UInt8.ofNat 97, UInt8.ofNat 108] }, .string { data := #[UInt8.ofNat 99, UInt8.ofNat 114, UInt8.ofNat 97, UInt8.ofNat 115, UInt8.ofNat 104] },
  .string { data := #[UInt8.ofNat 119, UInt8.ofNat 97, UInt8.ofNat 107, UInt8.ofNat 101] }]
  none false none)
  fun (b1 : Nat) (S1 : St) =>
  idxW (some ⟨b1, 0, none⟩) 10 kind_0 fun (b2 b3 : Nat) =>
  evV tT (loadV E0 S1 9 (.pointer (some ⟨b2, b3 + Int.toNat kind_0 * 1, none⟩))) fun (l1 : List UInt8) => k (.string { data := List.toArray l1 }) S1))
theorem w17 (kind_0 : Int) {S : St} {k : Value → St → Prop} (h : c17 kind_0 S k) : WC E0 17 [.int .i64 kind_0] S k :=
  WC_den h17 rfl (by kernel_rfl) (by kernel_rfl : Tryd.f17.body = some (bodyOf Tryd.f17)) (by rw [show (denF E0 h17 Tryd.f17 (bodyOf Tryd.f17) [.int .i64 kind_0] S k) = c17 kind_0 S k by kernel_rfl]; exact h)

/-! 18 wagonway/wagonwaylaw23.alive -/
noncomputable def h18 : Hn := .no
def c18  (S : St) (k : Value → St → Prop) : Prop :=
  evC E0 tB 53
  [.agg #[.int .i64 1, .int .i64 3, .int .i64 0, .int .i64 0, .int .i64 0, .int .u64 70],
  .string { data := #[UInt8.ofNat 115, UInt8.ofNat 116, UInt8.ofNat 101, UInt8.ofNat 112, UInt8.ofNat 32, UInt8.ofNat 51, UInt8.ofNat 32, UInt8.ofNat 55, UInt8.ofNat 48] }]
  S fun (t1 : Bool) (S1 : St) =>
  ifW t1
  (evC E0 tB 53
  [.agg #[.int .i64 9, .int .i64 2, .int .i64 (-1), .int .i64 0, .int .i64 0, .int .u64 0],
  .string { data := #[UInt8.ofNat 119, UInt8.ofNat 97, UInt8.ofNat 107, UInt8.ofNat 101, UInt8.ofNat 32, UInt8.ofNat 50, UInt8.ofNat 32, UInt8.ofNat 97, UInt8.ofNat 108, UInt8.ofNat 108] }]
  S1 fun (t2 : Bool) (S2 : St) =>
  ifW t2
  (evC E0 tB 53
  [.agg #[.int .i64 5, .int .i64 0, .int .i64 4, .int .i64 0, .int .i64 255, .int .u64 0],
  .string
  {
  data :=
  #[UInt8.ofNat 115, UInt8.ofNat 112, UInt8.ofNat 111, UInt8.ofNat 105, UInt8.ofNat 108, UInt8.ofNat 32, UInt8.ofNat 52, UInt8.ofNat 32, UInt8.ofNat 48, UInt8.ofNat 32, UInt8.ofNat 50, UInt8.ofNat 53,
  UInt8.ofNat 53] }]
  S2 fun (t3 : Bool) (S3 : St) => k (.bool t3) S3)
  (k (.bool false) S2))
  (k (.bool false) S1)
theorem w18  {S : St} {k : Value → St → Prop} (h : c18  S k) : WC E0 18 [] S k :=
  WC_den h18 rfl (by kernel_rfl) (by kernel_rfl : Tryd.f18.body = some (bodyOf Tryd.f18)) (by rw [show (denF E0 h18 Tryd.f18 (bodyOf Tryd.f18) [] S k) = c18  S k by kernel_rfl]; exact h)

/-! 39 wagonway/order.parts -/
noncomputable def h39 : Hn := .no
def c39 (kind_0 : Int) (S : St) (k : Value → St → Prop) : Prop :=
  newW S (.cells [.int .i64 kind_0] none false none) fun (b1 : Nat) (S1 : St) => k (.func (Fn.func 83) #[] #[.pointer (some ⟨b1, 0, none⟩)]) S1
theorem w39 (kind_0 : Int) {S : St} {k : Value → St → Prop} (h : c39 kind_0 S k) : WC E0 39 [.int .i64 kind_0] S k :=
  WC_den h39 rfl (by kernel_rfl) (by kernel_rfl : Tryd.f39.body = some (bodyOf Tryd.f39)) (by rw [show (denF E0 h39 Tryd.f39 (bodyOf Tryd.f39) [.int .i64 kind_0] S k) = c39 kind_0 S k by kernel_rfl]; exact h)

/-! 40 strconv.Itoa -/
noncomputable def h40 : Hn := .no
def c40 (i_0 : Int) (S : St) (k : Value → St → Prop) : Prop :=
  evC E0 tT 84 [.int .i64 i_0] S fun (l1 : List UInt8) (S1 : St) => k (.string { data := List.toArray l1 }) S1
theorem w40 (i_0 : Int) {S : St} {k : Value → St → Prop} (h : c40 i_0 S k) : WC E0 40 [.int .i64 i_0] S k :=
  WC_den h40 rfl (by kernel_rfl) (by kernel_rfl : Tryd.f40.body = some (bodyOf Tryd.f40)) (by rw [show (denF E0 h40 Tryd.f40 (bodyOf Tryd.f40) [.int .i64 i_0] S k) = c40 i_0 S k by kernel_rfl]; exact h)

/-! 41 strconv.FormatUint -/
noncomputable def h41 : Hn := .no
def c41 (i_0 : Int) (base_1 : Int) (S : St) (k : Value → St → Prop) : Prop :=
  evC E0 tT 85 [.int .u64 i_0, .int .i64 base_1] S fun (l1 : List UInt8) (S1 : St) => k (.string { data := List.toArray l1 }) S1
theorem w41 (i_0 : Int) (base_1 : Int) {S : St} {k : Value → St → Prop} (h : c41 i_0 base_1 S k) : WC E0 41 [.int .u64 i_0, .int .i64 base_1] S k :=
  WC_den h41 rfl (by kernel_rfl) (by kernel_rfl : Tryd.f41.body = some (bodyOf Tryd.f41)) (by rw [show (denF E0 h41 Tryd.f41 (bodyOf Tryd.f41) [.int .u64 i_0, .int .i64 base_1] S k) = c41 i_0 base_1 S k by kernel_rfl]; exact h)

/-! 43 wagonway/wagonwayref23.May -/
noncomputable def h43 : Hn := (.n .no (.n .no (.n .no (.n (.n .no (.n (.n .no (.n .no (.n .no .no (some ⟨[1, 3, 4, 22], [(34, .sc .bool)], false⟩)) none) none) .no none) none) .no none) (some ⟨[1, 3], [(4, .sc .bool)], false⟩)) (some ⟨[1], [(3, .sc .bool)], false⟩)) none)
def c43 (x_0 : Int × Int × Int × Int × Int × Int) (S : St) (k : Value → St → Prop) : Prop :=
  newW S
  (.cells
  [.int .i64 x_0.1, .int .i64 x_0.2.1, .int .i64 x_0.2.2.1, .int .i64 x_0.2.2.2.1, .int .i64 x_0.2.2.2.2.1,
  .int .u64 x_0.2.2.2.2.2]
  none false none)
  fun (b1 : Nat) (S1 : St) =>
  joinW
  (fun (t1 : Bool) (S2 : St) =>
  joinW
  (fun (t2 : Bool) (S3 : St) =>
  ptrW (some ⟨b1, 0, none⟩) fun (b2 b3 : Nat) =>
  evV tI (loadV E0 S3 3 (.pointer (some ⟨b2, b3 + 0, none⟩))) fun (n1 : Int) =>
  ifW (eqI n1 1)
  (ifW t1
  (ifW t2 (ptrW (some ⟨b1, 0, none⟩) fun (b4 b5 : Nat) => evV tI (loadV E0 S3 3 (.pointer (some ⟨b4, b5 + 2, none⟩))) fun (n2 : Int) => k (.bool (eqI n2 0)) S3)
  (k (.bool false) S3))
  (k (.bool false) S3))
  (joinW
  (fun (t3 : Bool) (S4 : St) =>
  ifW t3
  (ptrW (some ⟨b1, 0, none⟩) fun (b6 b7 : Nat) =>
  evV tI (loadV E0 S4 3 (.pointer (some ⟨b6, b7 + 2, none⟩))) fun (n3 : Int) =>
  ifW (leI 1 n3)
  (ptrW (some ⟨b1, 0, none⟩) fun (b8 b9 : Nat) =>
  evV tI (loadV E0 S4 3 (.pointer (some ⟨b8, b9 + 1, none⟩))) fun (n4 : Int) =>
  ifW (eqI n4 0)
  (ifW t2
  (ptrW (some ⟨b1, 0, none⟩) fun (b10 b11 : Nat) =>
  evV tU (loadV E0 S4 22 (.pointer (some ⟨b10, b11 + 5, none⟩))) fun (n5 : Int) => k (.bool (eqI n5 0)) S4)
  (k (.bool false) S4))
  (k (.bool false) S4))
  (k (.bool false) S4))
  (ifW (eqI n1 5)
  (ptrW (some ⟨b1, 0, none⟩) fun (b12 b13 : Nat) =>
  evV tI (loadV E0 S4 3 (.pointer (some ⟨b12, b13 + 2, none⟩))) fun (n6 : Int) =>
  ifW (leI 1 n6)
  (ptrW (some ⟨b1, 0, none⟩) fun (b14 b15 : Nat) =>
  evV tI (loadV E0 S4 3 (.pointer (some ⟨b14, b15 + 3, none⟩))) fun (n7 : Int) =>
  ifW (leI 0 n7)
  (ptrW (some ⟨b1, 0, none⟩) fun (b16 b17 : Nat) =>
  evV tI (loadV E0 S4 3 (.pointer (some ⟨b16, b17 + 4, none⟩))) fun (n8 : Int) =>
  ifW (leI 1 n8)
  (ptrW (some ⟨b1, 0, none⟩) fun (b18 b19 : Nat) =>
  evV tI (loadV E0 S4 3 (.pointer (some ⟨b18, b19 + 4, none⟩))) fun (n9 : Int) =>
  ifW (leI n9 255)
  (ptrW (some ⟨b1, 0, none⟩) fun (b20 b21 : Nat) =>
  evV tI (loadV E0 S4 3 (.pointer (some ⟨b20, b21 + 1, none⟩))) fun (n10 : Int) =>
  ifW (eqI n10 0)
  (ptrW (some ⟨b1, 0, none⟩) fun (b22 b23 : Nat) =>
  evV tU (loadV E0 S4 22 (.pointer (some ⟨b22, b23 + 5, none⟩))) fun (n11 : Int) => k (.bool (eqI n11 0)) S4)
  (k (.bool false) S4))
  (k (.bool false) S4))
  (k (.bool false) S4))
  (k (.bool false) S4))
  (k (.bool false) S4))
  (ifW (eqI n1 6)
  (ifW t1
  (ifW t2
  (ptrW (some ⟨b1, 0, none⟩) fun (b24 b25 : Nat) =>
  evV tI (loadV E0 S4 3 (.pointer (some ⟨b24, b25 + 2, none⟩))) fun (n12 : Int) =>
  ifW (eqI n12 0)
  (ptrW (some ⟨b1, 0, none⟩) fun (b26 b27 : Nat) =>
  evV tU (loadV E0 S4 22 (.pointer (some ⟨b26, b27 + 5, none⟩))) fun (n13 : Int) => k (.bool (eqI n13 0)) S4)
  (k (.bool false) S4))
  (k (.bool false) S4))
  (k (.bool false) S4))
  (ifW (eqI n1 7)
  (ifW t1
  (ifW t2
  (ptrW (some ⟨b1, 0, none⟩) fun (b28 b29 : Nat) =>
  evV tU (loadV E0 S4 22 (.pointer (some ⟨b28, b29 + 5, none⟩))) fun (n14 : Int) =>
  ifW (eqI n14 0)
  (ptrW (some ⟨b1, 0, none⟩) fun (b30 b31 : Nat) =>
  evV tI (loadV E0 S4 3 (.pointer (some ⟨b30, b31 + 2, none⟩))) fun (n15 : Int) =>
  ifW (leI 0 n15)
  (ptrW (some ⟨b1, 0, none⟩) fun (b32 b33 : Nat) =>
  evV tI (loadV E0 S4 3 (.pointer (some ⟨b32, b33 + 2, none⟩))) fun (n16 : Int) => k (.bool (leI n16 1023)) S4)
  (k (.bool false) S4))
  (k (.bool false) S4))
  (k (.bool false) S4))
  (k (.bool false) S4))
  (ifW (eqI n1 8)
  (ifW t1
  (ifW t2
  (ptrW (some ⟨b1, 0, none⟩) fun (b34 b35 : Nat) =>
  evV tU (loadV E0 S4 22 (.pointer (some ⟨b34, b35 + 5, none⟩))) fun (n17 : Int) =>
  ifW (eqI n17 0)
  (ptrW (some ⟨b1, 0, none⟩) fun (b36 b37 : Nat) =>
  evV tI (loadV E0 S4 3 (.pointer (some ⟨b36, b37 + 2, none⟩))) fun (n18 : Int) =>
  ifW (leI 0 n18)
  (ptrW (some ⟨b1, 0, none⟩) fun (b38 b39 : Nat) =>
  evV tI (loadV E0 S4 3 (.pointer (some ⟨b38, b39 + 2, none⟩))) fun (n19 : Int) => k (.bool (leI n19 1000)) S4)
  (k (.bool false) S4))
  (k (.bool false) S4))
  (k (.bool false) S4))
  (k (.bool false) S4))
  (ifW (eqI n1 9)
  (ifW t1
  (ifW t2
  (ptrW (some ⟨b1, 0, none⟩) fun (b40 b41 : Nat) =>
  evV tU (loadV E0 S4 22 (.pointer (some ⟨b40, b41 + 5, none⟩))) fun (n20 : Int) =>
  ifW (eqI n20 0)
  (ptrW (some ⟨b1, 0, none⟩) fun (b42 b43 : Nat) =>
  evV tI (loadV E0 S4 3 (.pointer (some ⟨b42, b43 + 2, none⟩))) fun (n21 : Int) =>
  ifW (leI (-1) n21)
  (ptrW (some ⟨b1, 0, none⟩) fun (b44 b45 : Nat) =>
  evV tI (loadV E0 S4 3 (.pointer (some ⟨b44, b45 + 2, none⟩))) fun (n22 : Int) => k (.bool (leI n22 1000)) S4)
  (k (.bool false) S4))
  (k (.bool false) S4))
  (k (.bool false) S4))
  (k (.bool false) S4))
  (k (.bool false) S4)))))))
  fun (k1 : Bool → St → Prop) => ifW (eqI n1 2) (k1 true S3) (ifW (eqI n1 3) (k1 true S3) (k1 (eqI n1 4) S3))))
  fun (k2 : Bool → St → Prop) =>
  ptrW (some ⟨b1, 0, none⟩) fun (b46 b47 : Nat) =>
  evV tI (loadV E0 S2 3 (.pointer (some ⟨b46, b47 + 3, none⟩))) fun (n23 : Int) =>
  ifW (eqI n23 0) (ptrW (some ⟨b1, 0, none⟩) fun (b48 b49 : Nat) => evV tI (loadV E0 S2 3 (.pointer (some ⟨b48, b49 + 4, none⟩))) fun (n24 : Int) => k2 (eqI n24 0) S2)
  (k2 false S2))
  fun (k3 : Bool → St → Prop) =>
  ptrW (some ⟨b1, 0, none⟩) fun (b50 b51 : Nat) =>
  evV tI (loadV E0 S1 3 (.pointer (some ⟨b50, b51 + 1, none⟩))) fun (n25 : Int) =>
  ifW (leI 0 n25) (ptrW (some ⟨b1, 0, none⟩) fun (b52 b53 : Nat) => evV tI (loadV E0 S1 3 (.pointer (some ⟨b52, b53 + 1, none⟩))) fun (n26 : Int) => k3 (leI n26 63) S1) (k3 false S1)
theorem w43 (x_0 : Int × Int × Int × Int × Int × Int) {S : St} {k : Value → St → Prop} (h : c43 x_0 S k) : WC E0 43 [sv G23 x_0] S k :=
  WC_den h43 rfl (by kernel_rfl) (by kernel_rfl : Tryd.f43.body = some (bodyOf Tryd.f43)) (by rw [show (denF E0 h43 Tryd.f43 (bodyOf Tryd.f43) [sv G23 x_0] S k) = c43 x_0 S k by kernel_rfl]; exact h)

/-! 44 wagonway/wagonwayref23.digits -/
noncomputable def h44 : Hn := (.n .no (.n .no (.n (.n (.n .no .no (some ⟨[], [(0, .sc (.int .u64)), (3, .sc .str)], false⟩)) .no none) .no none) none) none)
def c44 (n_0 : Int) (S : St) (k : Value → St → Prop) : Prop :=
  needW true
  (newW S (.cells [.int .u8 (wrapI .u8 (wrapI .u64 (48 + Int.tmod n_0 10)))] none false none) fun (b1 : Nat) (S1 : St) =>
  evP tT (convertD E0 S1 83 9 (.slice (some ⟨b1, 0, none⟩) 1 1)) fun (l1 : List UInt8) (S2 : St) =>
  loopW
  (fun (k1 : Int × List UInt8 → St → Prop) (x1 : Int × List UInt8) (S3 : St) =>
  ifW (ltI 9 x1.1)
  (needW true
  (needW true
  (newW S3 (.cells [.int .u8 (wrapI .u8 (wrapI .u64 (48 + Int.tmod (wrapI .u64 (Int.tdiv x1.1 10)) 10)))] none false none) fun (b2 : Nat) (S4 : St) =>
  evP tT (convertD E0 S4 83 9 (.slice (some ⟨b2, 0, none⟩) 1 1)) fun (l2 : List UInt8) (S5 : St) =>
  evV tT (catD { data := List.toArray l2 } { data := List.toArray x1.2 }) fun (l3 : List UInt8) => k1 (wrapI .u64 (Int.tdiv x1.1 10), l3) S5)))
  (k (.string { data := List.toArray x1.2 }) S3))
  (n_0, l1) S2)
theorem w44 (n_0 : Int) {S : St} {k : Value → St → Prop} (h : c44 n_0 S k) : WC E0 44 [.int .u64 n_0] S k :=
  WC_den h44 rfl (by kernel_rfl) (by kernel_rfl : Tryd.f44.body = some (bodyOf Tryd.f44)) (by rw [show (denF E0 h44 Tryd.f44 (bodyOf Tryd.f44) [.int .u64 n_0] S k) = c44 n_0 S k by kernel_rfl]; exact h)

/-! 46 wagonway/order.Read$1 -/
noncomputable def h46 : Hn := .no
def c46 (c0 : Nat) (S : St) (k : Value → St → Prop) : Prop :=
  evV tS (loadV E0 S 80 (.pointer (some ⟨c0, 0, none⟩))) fun (s1 : Sl) =>
  ifW (eqI (↑s1.len : Int) 0) (k (.string { data := #[] }) S)
  (evV tS (loadV E0 S 80 (.pointer (some ⟨c0, 0, none⟩))) fun (s2 : Sl) =>
  idxW s2.a s2.len 0 fun (b1 b2 : Nat) =>
  evV tT (loadV E0 S 9 (.pointer (some ⟨b1, b2 + Int.toNat 0 * 1, none⟩))) fun (l1 : List UInt8) =>
  evV tS (loadV E0 S 80 (.pointer (some ⟨c0, 0, none⟩))) fun (s3 : Sl) =>
  evV tS (sliceD E0 S 80 (.slice s3.a s3.len s3.cap) (some (.int .i64 1)) none none) fun (s4 : Sl) =>
  evS (storeV E0 S 80 (.pointer (some ⟨c0, 0, none⟩)) (.slice s4.a s4.len s4.cap)) fun (S1 : St) => k (.string { data := List.toArray l1 }) S1)
theorem w46 (c0 : Nat) {S : St} {k : Value → St → Prop} (h : c46 c0 S k) : WC E0 46 [.pointer (some ⟨c0, 0, none⟩)] S k :=
  WC_den h46 rfl (by kernel_rfl) (by kernel_rfl : Tryd.f46.body = some (bodyOf Tryd.f46)) (by rw [show (denF E0 h46 Tryd.f46 (bodyOf Tryd.f46) [.pointer (some ⟨c0, 0, none⟩)] S k) = c46 c0 S k by kernel_rfl]; exact h)

/-! 49 wagonway/wagonwayref23.words -/
noncomputable def h49 : Hn := (.n .no (.n .no (.n (.n .no (.n (.n .no .no (some ⟨[0], [(3, .sc .sl), (4, .sc (.int .i64))], false⟩)) .no none) none) .no none) none) none)
def c49 (s_0 : List UInt8) (S : St) (k : Value → St → Prop) : Prop :=
  newW S (.cells [.string { data := #[] }] none false none) fun (b1 : Nat) (S1 : St) =>
  loopW
  (fun (k1 : Sl × Int → St → Prop) (x1 : Sl × Int) (S2 : St) =>
  ifW (ltI x1.2 (↑(List.length s_0) : Int))
  (evV tU8 (indexD E0 9 (.string { data := List.toArray s_0 }) (.int .i64 x1.2)) fun (n1 : Int) =>
  ifW (eqI n1 32)
  (newW S2 (.cells [.string { data := #[] }] none false none) fun (b2 : Nat) (S3 : St) =>
  evP tS (appendD E0 S3 80 80 (.slice x1.1.a x1.1.len x1.1.cap) (.slice (some ⟨b2, 0, none⟩) 1 1)) fun (s1 : Sl) (S4 : St) =>
  k1 ({ a := s1.a, len := s1.len, cap := s1.cap }, wrapI .i64 (x1.2 + 1)) S4)
  (idxW x1.1.a x1.1.len (wrapI .i64 ((↑x1.1.len : Int) - 1)) fun (b3 b4 : Nat) =>
  evV tT (loadV E0 S2 9 (.pointer (some ⟨b3, b4 + Int.toNat (wrapI .i64 ((↑x1.1.len : Int) - 1)) * 1, none⟩))) fun (l1 : List UInt8) =>
  evV tT (sliceD E0 S2 9 (.string { data := List.toArray s_0 }) (some (.int .i64 x1.2)) (some (.int .i64 (wrapI .i64 (x1.2 + 1)))) none) fun (l2 : List UInt8) =>
  evV tT (catD { data := List.toArray l1 } { data := List.toArray l2 }) fun (l3 : List UInt8) =>
  idxW x1.1.a x1.1.len (wrapI .i64 ((↑x1.1.len : Int) - 1)) fun (b5 b6 : Nat) =>
  evS (storeV E0 S2 9 (.pointer (some ⟨b5, b6 + Int.toNat (wrapI .i64 ((↑x1.1.len : Int) - 1)) * 1, none⟩)) (.string { data := List.toArray l3 })) fun (S5 : St) =>
  k1 ({ a := x1.1.a, len := x1.1.len, cap := x1.1.cap }, wrapI .i64 (x1.2 + 1)) S5))
  (k (.slice x1.1.a x1.1.len x1.1.cap) S2))
  ({ a := some ⟨b1, 0, none⟩, len := 1, cap := 1 }, 0) S1
theorem w49 (s_0 : List UInt8) {S : St} {k : Value → St → Prop} (h : c49 s_0 S k) : WC E0 49 [.string ⟨s_0.toArray⟩] S k :=
  WC_den h49 rfl (by kernel_rfl) (by kernel_rfl : Tryd.f49.body = some (bodyOf Tryd.f49)) (by rw [show (denF E0 h49 Tryd.f49 (bodyOf Tryd.f49) [.string ⟨s_0.toArray⟩] S k) = c49 s_0 S k by kernel_rfl]; exact h)

/-! 50 wagonway/wagonwayref23.small -/
noncomputable def h50 : Hn := .no
def c50 (s_0 : List UInt8) (S : St) (k : Value → St → Prop) : Prop :=
  evC E0 tU 51 [.string { data := List.toArray s_0 }] S fun (n1 : Int) (S1 : St) => ifW (ltI 9223372036854775807 n1) (k (.int .i64 (-9)) S1) (k (.int .i64 (wrapI .i64 n1)) S1)
theorem w50 (s_0 : List UInt8) {S : St} {k : Value → St → Prop} (h : c50 s_0 S k) : WC E0 50 [.string ⟨s_0.toArray⟩] S k :=
  WC_den h50 rfl (by kernel_rfl) (by kernel_rfl : Tryd.f50.body = some (bodyOf Tryd.f50)) (by rw [show (denF E0 h50 Tryd.f50 (bodyOf Tryd.f50) [.string ⟨s_0.toArray⟩] S k) = c50 s_0 S k by kernel_rfl]; exact h)

/-! 51 wagonway/wagonwayref23.value -/
noncomputable def h51 : Hn := (.n .no (.n .no (.n (.n .no (.n (.n .no .no (some ⟨[0], [(3, .sc (.int .u64)), (4, .sc (.int .i64))], false⟩)) .no none) none) .no none) none) none)
def c51 (s_0 : List UInt8) (S : St) (k : Value → St → Prop) : Prop :=
  loopW
  (fun (k1 : Int × Int → St → Prop) (x1 : Int × Int) (S1 : St) =>
  ifW (ltI x1.2 (↑(List.length s_0) : Int))
  (evV tU8 (indexD E0 9 (.string { data := List.toArray s_0 }) (.int .i64 x1.2)) fun (n1 : Int) =>
  ifW (ltI n1 48) (k (.int .u64 x1.1) S1)
  (evV tU8 (indexD E0 9 (.string { data := List.toArray s_0 }) (.int .i64 x1.2)) fun (n2 : Int) =>
  ifW (ltI 57 n2) (k (.int .u64 x1.1) S1)
  (ifW (ltI 1844674407370955161 x1.1) (k (.int .u64 x1.1) S1)
  (evV tU8 (indexD E0 9 (.string { data := List.toArray s_0 }) (.int .i64 x1.2)) fun (n3 : Int) =>
  ifW (eqI x1.1 1844674407370955161)
  (ifW (ltI 5 (wrapI .u64 (wrapI .u8 (n3 - 48)))) (k (.int .u64 x1.1) S1)
  (k1 (wrapI .u64 (wrapI .u64 (10 * x1.1) + wrapI .u64 (wrapI .u8 (n3 - 48))), wrapI .i64 (x1.2 + 1)) S1))
  (k1 (wrapI .u64 (wrapI .u64 (10 * x1.1) + wrapI .u64 (wrapI .u8 (n3 - 48))), wrapI .i64 (x1.2 + 1)) S1)))))
  (k (.int .u64 x1.1) S1))
  (0, 0) S
theorem w51 (s_0 : List UInt8) {S : St} {k : Value → St → Prop} (h : c51 s_0 S k) : WC E0 51 [.string ⟨s_0.toArray⟩] S k :=
  WC_den h51 rfl (by kernel_rfl) (by kernel_rfl : Tryd.f51.body = some (bodyOf Tryd.f51)) (by rw [show (denF E0 h51 Tryd.f51 (bodyOf Tryd.f51) [.string ⟨s_0.toArray⟩] S k) = c51 s_0 S k by kernel_rfl]; exact h)

/-! 52 wagonway/order.within -/
noncomputable def h52 : Hn := .no
def c52 (n_0 : Int) (from_1 : Int) (to_2 : Int) (S : St) (k : Value → St → Prop) : Prop :=
  ifW (leI from_1 n_0) (k (.bool (leI n_0 to_2)) S) (k (.bool false) S)
theorem w52 (n_0 : Int) (from_1 : Int) (to_2 : Int) {S : St} {k : Value → St → Prop} (h : c52 n_0 from_1 to_2 S k) : WC E0 52 [.int .i64 n_0, .int .i64 from_1, .int .i64 to_2] S k :=
  WC_den h52 rfl (by kernel_rfl) (by kernel_rfl : Tryd.f52.body = some (bodyOf Tryd.f52)) (by rw [show (denF E0 h52 Tryd.f52 (bodyOf Tryd.f52) [.int .i64 n_0, .int .i64 from_1, .int .i64 to_2] S k) = c52 n_0 from_1 to_2 S k by kernel_rfl]; exact h)

/-! 53 wagonway/wagonwaylaw23.says -/
noncomputable def h53 : Hn := .no
def c53 (x_0 : Int × Int × Int × Int × Int × Int) (want_1 : List UInt8) (S : St) (k : Value → St → Prop) : Prop :=
  newW S
  (.cells
  [.int .i64 x_0.1, .int .i64 x_0.2.1, .int .i64 x_0.2.2.1, .int .i64 x_0.2.2.2.1, .int .i64 x_0.2.2.2.2.1,
  .int .u64 x_0.2.2.2.2.2]
  none false none)
  fun (b1 : Nat) (S1 : St) =>
  evV (TT.one (Ty.agg G23)) (loadV E0 S1 24 (.pointer (some ⟨b1, 0, none⟩))) fun (x1 : Int × Int × Int × Int × Int × Int) =>
  evC E0 (TT.tup [Ty.sc Sc.str, Ty.sc (Sc.int .i64)]) 11 [sv G23 x1] S1 fun (x2 : List UInt8 × Int) (S2 : St) =>
  evC E0 (TT.tup [Ty.agg G23, Ty.sc (Sc.int .i64)]) 13 [.string { data := List.toArray want_1 }] S2 fun (x3 : (Int × Int × Int × Int × Int × Int) × Int) (S3 : St) =>
  newW S3 (.cells [.int .i64 0, .int .i64 0, .int .i64 0, .int .i64 0, .int .i64 0, .int .u64 0] none false none)
  fun (b2 : Nat) (S4 : St) =>
  evS (storeV E0 S4 24 (.pointer (some ⟨b2, 0, none⟩)) (sv G23 x3.1)) fun (S5 : St) =>
  ifW (eqI x2.2 0)
  (ifW (x2.1 == want_1)
  (ifW (eqI x3.2 0)
  (evV (TT.one (Ty.agg G23)) (loadV E0 S5 24 (.pointer (some ⟨b2, 0, none⟩))) fun (x4 : Int × Int × Int × Int × Int × Int) =>
  evV (TT.one (Ty.agg G23)) (loadV E0 S5 24 (.pointer (some ⟨b1, 0, none⟩))) fun (x5 : Int × Int × Int × Int × Int × Int) =>
  eqW E0 S5 24 (sv G23 x4) (sv G23 x5) fun (t1 : Bool) => k (.bool t1) S5)
  (k (.bool false) S5))
  (k (.bool false) S5))
  (k (.bool false) S5)
theorem w53 (x_0 : Int × Int × Int × Int × Int × Int) (want_1 : List UInt8) {S : St} {k : Value → St → Prop} (h : c53 x_0 want_1 S k) : WC E0 53 [sv G23 x_0, .string ⟨want_1.toArray⟩] S k :=
  WC_den h53 rfl (by kernel_rfl) (by kernel_rfl : Tryd.f53.body = some (bodyOf Tryd.f53)) (by rw [show (denF E0 h53 Tryd.f53 (bodyOf Tryd.f53) [sv G23 x_0, .string ⟨want_1.toArray⟩] S k) = c53 x_0 want_1 S k by kernel_rfl]; exact h)

/-! 83 wagonway/order.parts$1 -/
noncomputable def h83 : Hn := (.n .no (.n (.n .no (.n (.n .no (.n .no (.n .no .no (some ⟨[0, 3, 5], [(8, .sc .bool)], false⟩)) none) none) .no none) none) (.n .no (.n (.n .no .no (some ⟨[0, 3, 23], [(24, .sc (.int .i64))], false⟩)) .no none) none) (some ⟨[0], [(3, .sc .str)], false⟩)) none)
def c83 (yield_0 : Value) (c1 : Nat) (S : St) (k : Value → St → Prop) : Prop :=
  joinW
  (fun (l1 : List UInt8) (S1 : St) =>
  loopW
  (fun (k1 : Int → St → Prop) (n1 : Int) (S2 : St) =>
  ifW (ltI n1 (↑(List.length l1) : Int))
  (evV tU8 (indexD E0 9 (.string { data := List.toArray l1 }) (.int .i64 n1)) fun (n2 : Int) =>
  evY E0 tB yield_0 [.int .u8 n2] S2 fun (t1 : Bool) (S3 : St) => ifW (!t1) (k (.tuple #[]) S3) (k1 (wrapI .i64 (n1 + 1)) S3))
  (k (.tuple #[]) S2))
  0 S1)
  fun (k2 : List UInt8 → St → Prop) =>
  evV tI (loadV E0 S 3 (.pointer (some ⟨c1, 0, none⟩))) fun (n3 : Int) =>
  ifW (eqI n3 1) (k2 [UInt8.ofNat 114, UInt8.ofNat 100] S)
  (joinW
  (fun (t2 : Bool) (S4 : St) =>
  ifW t2 (k2 [UInt8.ofNat 112] S4)
  (ifW (eqI n3 5) (k2 [UInt8.ofNat 112, UInt8.ofNat 97, UInt8.ofNat 119] S4)
  (ifW (eqI n3 6) (k2 [UInt8.ofNat 114] S4)
  (ifW (eqI n3 7) (k2 [UInt8.ofNat 114, UInt8.ofNat 99] S4) (ifW (eqI n3 8) (k2 [UInt8.ofNat 114, UInt8.ofNat 101] S4) (ifW (eqI n3 9) (k2 [UInt8.ofNat 114, UInt8.ofNat 117] S4) (k2 [] S4)))))))
  fun (k3 : Bool → St → Prop) => ifW (eqI n3 2) (k3 true S) (ifW (eqI n3 3) (k3 true S) (k3 (eqI n3 4) S)))
theorem w83 (yield_0 : Value) (c1 : Nat) {S : St} {k : Value → St → Prop} (h : c83 yield_0 c1 S k) : WC E0 83 [yield_0, .pointer (some ⟨c1, 0, none⟩)] S k :=
  WC_den h83 rfl (by kernel_rfl) (by kernel_rfl : Tryd.f83.body = some (bodyOf Tryd.f83)) (by rw [show (denF E0 h83 Tryd.f83 (bodyOf Tryd.f83) [yield_0, .pointer (some ⟨c1, 0, none⟩)] S k) = c83 yield_0 c1 S k by kernel_rfl]; exact h)

/-! 84 internal/strconv.Itoa -/
noncomputable def h84 : Hn := .no
def c84 (i_0 : Int) (S : St) (k : Value → St → Prop) : Prop :=
  evC E0 tT 117 [.int .i64 i_0, .int .i64 10] S fun (l1 : List UInt8) (S1 : St) => k (.string { data := List.toArray l1 }) S1
theorem w84 (i_0 : Int) {S : St} {k : Value → St → Prop} (h : c84 i_0 S k) : WC E0 84 [.int .i64 i_0] S k :=
  WC_den h84 rfl (by kernel_rfl) (by kernel_rfl : Tryd.f84.body = some (bodyOf Tryd.f84)) (by rw [show (denF E0 h84 Tryd.f84 (bodyOf Tryd.f84) [.int .i64 i_0] S k) = c84 i_0 S k by kernel_rfl]; exact h)

/-! 85 internal/strconv.FormatUint -/
noncomputable def h85 : Hn := .no
def c85 (i_0 : Int) (base_1 : Int) (S : St) (k : Value → St → Prop) : Prop :=
  ifW (eqI base_1 10)
  (ifW (ltI i_0 100) (evC E0 tT 118 [.int .i64 (wrapI .i64 i_0)] S fun (l1 : List UInt8) (S1 : St) => k (.string { data := List.toArray l1 }) S1)
  (newW S
  (.cells
  [.int .u8 0, .int .u8 0, .int .u8 0, .int .u8 0, .int .u8 0, .int .u8 0, .int .u8 0, .int .u8 0,
  .int .u8 0, .int .u8 0, .int .u8 0, .int .u8 0, .int .u8 0, .int .u8 0, .int .u8 0, .int .u8 0,
  .int .u8 0, .int .u8 0, .int .u8 0, .int .u8 0, .int .u8 0, .int .u8 0, .int .u8 0, .int .u8 0]
  none false none)
  fun (b1 : Nat) (S2 : St) =>
  evC E0 tI 119 [.int .u64 i_0] S2 fun (n1 : Int) (S3 : St) =>
  evV tS (sliceD E0 S3 168 (.pointer (some ⟨b1, 0, none⟩)) none (some (.int .i64 n1)) none) fun (s1 : Sl) =>
  evC E0 (TT.tup []) 120 [.slice s1.a s1.len s1.cap, .int .u64 i_0] S3 fun (x1 : PUnit) (S4 : St) =>
  evV tS (sliceD E0 S4 168 (.pointer (some ⟨b1, 0, none⟩)) none (some (.int .i64 n1)) none) fun (s2 : Sl) =>
  evP tT (convertD E0 S4 83 9 (.slice s2.a s2.len s2.cap)) fun (l2 : List UInt8) (S5 : St) => k (.string { data := List.toArray l2 }) S5))
  (evC E0 (TT.tup [Ty.sc Sc.sl, Ty.sc Sc.str]) 121 [.slice none 0 0, .int .u64 i_0, .int .i64 base_1, .bool false, .bool false] S fun (x2 : Sl × List UInt8) (S6 : St) =>
  k (.string { data := List.toArray x2.2 }) S6)
theorem w85 (i_0 : Int) (base_1 : Int) {S : St} {k : Value → St → Prop} (h : c85 i_0 base_1 S k) : WC E0 85 [.int .u64 i_0, .int .i64 base_1] S k :=
  WC_den h85 rfl (by kernel_rfl) (by kernel_rfl : Tryd.f85.body = some (bodyOf Tryd.f85)) (by rw [show (denF E0 h85 Tryd.f85 (bodyOf Tryd.f85) [.int .u64 i_0, .int .i64 base_1] S k) = c85 i_0 base_1 S k by kernel_rfl]; exact h)

/-! 117 internal/strconv.FormatInt -/
noncomputable def h117 : Hn := (.n .no (.n (.n .no (.n (.n (.n .no .no (some ⟨[0], [(17, .sc .bool)], false⟩)) (.n .no (.n .no (.n .no .no (some ⟨[0, 5], [(6, .sc (.int .u64))], false⟩)) none) none) none) .no none) none) .no none) none)
def c117 (i_0 : Int) (base_1 : Int) (S : St) (k : Value → St → Prop) : Prop :=
  ifW (eqI base_1 10)
  (joinW
  (fun (t1 : Bool) (S1 : St) =>
  ifW t1 (evC E0 tT 118 [.int .i64 i_0] S1 fun (l1 : List UInt8) (S2 : St) => k (.string { data := List.toArray l1 }) S2)
  (newW S1
  (.cells
  [.int .u8 0, .int .u8 0, .int .u8 0, .int .u8 0, .int .u8 0, .int .u8 0, .int .u8 0, .int .u8 0,
  .int .u8 0, .int .u8 0, .int .u8 0, .int .u8 0, .int .u8 0, .int .u8 0, .int .u8 0, .int .u8 0,
  .int .u8 0, .int .u8 0, .int .u8 0, .int .u8 0, .int .u8 0, .int .u8 0, .int .u8 0, .int .u8 0]
  none false none)
  fun (b1 : Nat) (S3 : St) =>
  joinW
  (fun (n1 : Int) (S4 : St) =>
  evC E0 tI 119 [.int .u64 n1] S4 fun (n2 : Int) (S5 : St) =>
  evV tS (sliceD E0 S5 168 (.pointer (some ⟨b1, 0, none⟩)) (some (.int .i64 1)) (some (.int .i64 (wrapI .i64 (1 + n2)))) none) fun (s1 : Sl) =>
  evC E0 (TT.tup []) 120 [.slice s1.a s1.len s1.cap, .int .u64 n1] S5 fun (x1 : PUnit) (S6 : St) =>
  ifW (ltI i_0 0)
  (idxW (some ⟨b1, 0, none⟩) 24 0 fun (b2 b3 : Nat) =>
  evS (storeV E0 S6 5 (.pointer (some ⟨b2, b3 + Int.toNat 0 * 1, none⟩)) (.int .u8 45)) fun (S7 : St) =>
  evV tS (sliceD E0 S7 168 (.pointer (some ⟨b1, 0, none⟩)) none (some (.int .i64 (wrapI .i64 (1 + n2)))) none) fun (s2 : Sl) =>
  evP tT (convertD E0 S7 83 9 (.slice s2.a s2.len s2.cap)) fun (l2 : List UInt8) (S8 : St) => k (.string { data := List.toArray l2 }) S8)
  (evV tS (sliceD E0 S6 168 (.pointer (some ⟨b1, 0, none⟩)) (some (.int .i64 1)) (some (.int .i64 (wrapI .i64 (1 + n2)))) none) fun (s3 : Sl) =>
  evP tT (convertD E0 S6 83 9 (.slice s3.a s3.len s3.cap)) fun (l3 : List UInt8) (S9 : St) => k (.string { data := List.toArray l3 }) S9))
  fun (k1 : Int → St → Prop) => ifW (ltI i_0 0) (k1 (wrapI .u64 (0 - wrapI .u64 i_0)) S3) (k1 (wrapI .u64 i_0) S3)))
  fun (k2 : Bool → St → Prop) => ifW (leI 0 i_0) (k2 (ltI i_0 100) S) (k2 false S))
  (evC E0 (TT.tup [Ty.sc Sc.sl, Ty.sc Sc.str]) 121 [.slice none 0 0, .int .u64 (wrapI .u64 i_0), .int .i64 base_1, .bool (ltI i_0 0), .bool false] S
  fun (x2 : Sl × List UInt8) (S10 : St) => k (.string { data := List.toArray x2.2 }) S10)
theorem w117 (i_0 : Int) (base_1 : Int) {S : St} {k : Value → St → Prop} (h : c117 i_0 base_1 S k) : WC E0 117 [.int .i64 i_0, .int .i64 base_1] S k :=
  WC_den h117 rfl (by kernel_rfl) (by kernel_rfl : Tryd.f117.body = some (bodyOf Tryd.f117)) (by rw [show (denF E0 h117 Tryd.f117 (bodyOf Tryd.f117) [.int .i64 i_0, .int .i64 base_1] S k) = c117 i_0 base_1 S k by kernel_rfl]; exact h)

/-! 119 internal/strconv.numDigits -/
noncomputable def h119 : Hn := .no
def c119 (d_0 : Int) (S : St) (k : Value → St → Prop) : Prop :=
  evC E0 tI 150 [.int .u64 d_0] S fun (n1 : Int) (S1 : St) =>
  evC E0 tI 152 [.int .i64 n1] S1 fun (n2 : Int) (S2 : St) =>
  idxW (some ⟨3, 0, none⟩) 20 n2 fun (b1 b2 : Nat) =>
  evV tU (loadV E0 S2 22 (.pointer (some ⟨b1, b2 + Int.toNat n2 * 1, none⟩))) fun (n3 : Int) =>
  evC E0 tI 153 [.bool (leI n3 d_0)] S2 fun (n4 : Int) (S3 : St) => k (.int .i64 (wrapI .i64 (n2 + n4))) S3
theorem w119 (d_0 : Int) {S : St} {k : Value → St → Prop} (h : c119 d_0 S k) : WC E0 119 [.int .u64 d_0] S k :=
  WC_den h119 rfl (by kernel_rfl) (by kernel_rfl : Tryd.f119.body = some (bodyOf Tryd.f119)) (by rw [show (denF E0 h119 Tryd.f119 (bodyOf Tryd.f119) [.int .u64 d_0] S k) = c119 d_0 S k by kernel_rfl]; exact h)

/-! 152 internal/strconv.log10Pow2 -/
noncomputable def h152 : Hn := .no
def c152 (x_0 : Int) (S : St) (k : Value → St → Prop) : Prop :=
  needW true (k (.int .i64 (Int.fdiv (wrapI .i64 (x_0 * 78913)) (↑(2 ^ min (Int.toNat 18) 64) : Int))) S)
theorem w152 (x_0 : Int) {S : St} {k : Value → St → Prop} (h : c152 x_0 S k) : WC E0 152 [.int .i64 x_0] S k :=
  WC_den h152 rfl (by kernel_rfl) (by kernel_rfl : Tryd.f152.body = some (bodyOf Tryd.f152)) (by rw [show (denF E0 h152 Tryd.f152 (bodyOf Tryd.f152) [.int .i64 x_0] S k) = c152 x_0 S k by kernel_rfl]; exact h)

/-! 153 internal/strconv.bool2[int] -/
noncomputable def h153 : Hn := .no
def c153 (b_0 : Bool) (S : St) (k : Value → St → Prop) : Prop :=
  ifW b_0 (k (.int .i64 1) S) (k (.int .i64 0) S)
theorem w153 (b_0 : Bool) {S : St} {k : Value → St → Prop} (h : c153 b_0 S k) : WC E0 153 [.bool b_0] S k :=
  WC_den h153 rfl (by kernel_rfl) (by kernel_rfl : Tryd.f153.body = some (bodyOf Tryd.f153)) (by rw [show (denF E0 h153 Tryd.f153 (bodyOf Tryd.f153) [.bool b_0] S k) = c153 b_0 S k by kernel_rfl]; exact h)

end
end Go.Proofs.YtabbbfdlgmoniaaDoor
