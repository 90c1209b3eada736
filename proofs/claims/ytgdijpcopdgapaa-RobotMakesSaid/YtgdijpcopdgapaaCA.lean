/- Parts of the proof, put together. -/
import Derived.Test.YtgdijpcopdgapaaDC
import Derived.Test.YtgdijpcopdgapaaChecked
import Derived.KernelRfl
import Derived.Test.YtgdijpcopdgapaaDE
/-
  D over this seat's program: what D is told of its types and functions (printed by GenEnv.lean).
-/
namespace Go.Proofs.Ytgdijpcopdgapaa.DEnv
open Go.Proofs.Ytgdijpcopdgapaa.D
abbrev lf {α : Type} (v : α) : PM α := .node .leaf (some v) .leaf
noncomputable def i0 : DInfo := ⟨Try.t0.desc, 1, 0, Try.t0.zero, false, false, true⟩
noncomputable def i1 : DInfo := ⟨Try.t1.desc, 1, 8, Try.t1.zero, false, false, true⟩
noncomputable def i2 : DInfo := ⟨Try.t2.desc, 1, 8, Try.t2.zero, true, false, true⟩
noncomputable def i3 : DInfo := ⟨Try.t3.desc, 1, 8, Try.t3.zero, true, false, true⟩
noncomputable def i4 : DInfo := ⟨Try.t4.desc, 1, 1, Try.t4.zero, true, false, true⟩
noncomputable def i5 : DInfo := ⟨Try.t5.desc, 1, 1, Try.t5.zero, true, false, true⟩
noncomputable def i6 : DInfo := ⟨Try.t5.desc, 1, 1, Try.t6.zero, true, false, true⟩
noncomputable def i7 : DInfo := ⟨Try.t7.desc, 4, 24, Try.t7.zero, true, false, true⟩
noncomputable def i8 : DInfo := ⟨Try.t7.desc, 4, 24, Try.t8.zero, true, false, true⟩
noncomputable def i9 : DInfo := ⟨Try.t9.desc, 1, 16, Try.t9.zero, true, false, true⟩
noncomputable def i10 : DInfo := ⟨Try.t9.desc, 1, 16, Try.t10.zero, true, false, true⟩
noncomputable def i11 : DInfo := ⟨Try.t9.desc, 1, 16, Try.t11.zero, true, false, true⟩
noncomputable def i12 : DInfo := ⟨Try.t12.desc, 1, 8, Try.t12.zero, true, false, true⟩
noncomputable def i13 : DInfo := ⟨Try.t13.desc, 2, 24, Try.t13.zero, true, false, false⟩
noncomputable def i14 : DInfo := ⟨Try.t13.desc, 2, 24, Try.t14.zero, true, false, false⟩
noncomputable def i15 : DInfo := ⟨Try.t15.desc, 1, 8, Try.t15.zero, true, false, true⟩
noncomputable def i16 : DInfo := ⟨Try.t16.desc, 1, 8, Try.t16.zero, true, false, true⟩
noncomputable def i17 : DInfo := ⟨Try.t17.desc, 1, 8, Try.t17.zero, true, false, true⟩
noncomputable def i18 : DInfo := ⟨Try.t18.desc, 1, 8, Try.t18.zero, true, false, false⟩
noncomputable def i19 : DInfo := ⟨Try.t18.desc, 1, 8, Try.t19.zero, true, false, false⟩
noncomputable def i20 : DInfo := ⟨Try.t20.desc, 1, 16, Try.t20.zero, true, false, true⟩
noncomputable def i21 : DInfo := ⟨Try.t21.desc, 1, 4, Try.t21.zero, true, false, true⟩
noncomputable def i22 : DInfo := ⟨Try.t22.desc, 1, 8, Try.t22.zero, true, false, true⟩
noncomputable def i23 : DInfo := ⟨Try.t23.desc, 2, 16, Try.t23.zero, true, false, true⟩
noncomputable def i24 : DInfo := ⟨Try.t23.desc, 2, 16, Try.t24.zero, true, false, true⟩
noncomputable def i25 : DInfo := ⟨Try.t25.desc, 6, 48, Try.t25.zero, true, false, true⟩
noncomputable def i26 : DInfo := ⟨Try.t25.desc, 6, 48, Try.t26.zero, true, false, true⟩
noncomputable def i27 : DInfo := ⟨Try.t27.desc, 1, 4, Try.t27.zero, true, false, true⟩
noncomputable def i28 : DInfo := ⟨Try.t28.desc, 1, 24, Try.t28.zero, false, false, true⟩
noncomputable def i29 : DInfo := ⟨Try.t29.desc, 1, 8, Try.t29.zero, true, false, true⟩
noncomputable def i30 : DInfo := ⟨Try.t3.desc, 1, 8, Try.t30.zero, true, false, true⟩
noncomputable def i31 : DInfo := ⟨Try.t31.desc, 1, 0, Try.t31.zero, false, false, true⟩
noncomputable def i32 : DInfo := ⟨Try.t32.desc, 1, 8, Try.t32.zero, false, false, true⟩
noncomputable def i33 : DInfo := ⟨Try.t33.desc, 1, 8, Try.t33.zero, true, false, true⟩
noncomputable def i34 : DInfo := ⟨Try.t34.desc, 1, 0, Try.t34.zero, false, false, true⟩
noncomputable def i35 : DInfo := ⟨Try.t35.desc, 1, 8, Try.t35.zero, false, false, true⟩
noncomputable def i36 : DInfo := ⟨Try.t36.desc, 6, 48, Try.t36.zero, true, false, true⟩
noncomputable def i37 : DInfo := ⟨Try.t36.desc, 6, 48, Try.t37.zero, true, false, true⟩
noncomputable def i38 : DInfo := ⟨Try.t38.desc, 1, 8, Try.t38.zero, false, false, true⟩
noncomputable def i39 : DInfo := ⟨Try.t39.desc, 1, 8, Try.t39.zero, true, false, true⟩
noncomputable def i40 : DInfo := ⟨Try.t40.desc, 1, 0, Try.t40.zero, false, false, true⟩
noncomputable def i41 : DInfo := ⟨Try.t41.desc, 1, 8, Try.t41.zero, false, false, true⟩
noncomputable def i42 : DInfo := ⟨Try.t42.desc, 1, 8, Try.t42.zero, true, false, true⟩
noncomputable def i43 : DInfo := ⟨Try.t43.desc, 1, 0, Try.t43.zero, false, false, true⟩
noncomputable def i44 : DInfo := ⟨Try.t44.desc, 1, 8, Try.t44.zero, false, false, true⟩
noncomputable def i45 : DInfo := ⟨Try.t45.desc, 1, 8, Try.t45.zero, false, false, true⟩
noncomputable def i46 : DInfo := ⟨Try.t46.desc, 1, 8, Try.t46.zero, false, false, true⟩
noncomputable def i47 : DInfo := ⟨Try.t47.desc, 1, 24, Try.t47.zero, false, false, true⟩
noncomputable def i48 : DInfo := ⟨Try.t48.desc, 1, 8, Try.t48.zero, false, false, true⟩
noncomputable def i49 : DInfo := ⟨Try.t49.desc, 1, 8, Try.t49.zero, true, false, true⟩
noncomputable def i50 : DInfo := ⟨Try.t50.desc, 1, 8, Try.t50.zero, true, false, true⟩
noncomputable def i51 : DInfo := ⟨Try.t51.desc, 1, 8, Try.t51.zero, true, false, true⟩
noncomputable def i52 : DInfo := ⟨Try.t52.desc, 1, 8, Try.t52.zero, true, false, true⟩
noncomputable def i53 : DInfo := ⟨Try.t53.desc, 64, 512, Try.t53.zero, true, false, true⟩
noncomputable def i54 : DInfo := ⟨Try.t54.desc, 1, 8, Try.t54.zero, true, false, true⟩
noncomputable def i55 : DInfo := ⟨Try.t55.desc, 1, 8, Try.t55.zero, true, false, true⟩
noncomputable def i56 : DInfo := ⟨Try.t56.desc, 1, 8, Try.t56.zero, true, false, true⟩
noncomputable def i57 : DInfo := ⟨Try.t57.desc, 1, 24, Try.t57.zero, false, false, true⟩
noncomputable def i58 : DInfo := ⟨Try.t58.desc, 3, 24, Try.t58.zero, true, false, true⟩
noncomputable def i59 : DInfo := ⟨Try.t58.desc, 3, 24, Try.t59.zero, true, false, true⟩
noncomputable def i60 : DInfo := ⟨Try.t60.desc, 1, 24, Try.t60.zero, false, false, true⟩
noncomputable def i61 : DInfo := ⟨Try.t61.desc, 91, 776, Try.t61.zero, false, false, true⟩
noncomputable def i62 : DInfo := ⟨Try.t61.desc, 91, 776, Try.t62.zero, false, false, true⟩
noncomputable def i63 : DInfo := ⟨Try.t63.desc, 1, 8, Try.t63.zero, false, false, true⟩
noncomputable def i64 : DInfo := ⟨Try.t64.desc, 1, 24, Try.t64.zero, false, false, true⟩
noncomputable def i65 : DInfo := ⟨Try.t65.desc, 0, 0, Try.t65.zero, true, false, true⟩
noncomputable def i66 : DInfo := ⟨Try.t65.desc, 0, 0, Try.t66.zero, true, false, true⟩
noncomputable def i67 : DInfo := ⟨Try.t65.desc, 0, 0, Try.t67.zero, true, false, true⟩
noncomputable def i68 : DInfo := ⟨Try.t68.desc, 1, 4, Try.t68.zero, true, false, false⟩
noncomputable def i69 : DInfo := ⟨Try.t68.desc, 1, 4, Try.t69.zero, true, false, false⟩
noncomputable def i70 : DInfo := ⟨Try.t70.desc, 2, 8, Try.t70.zero, true, false, true⟩
noncomputable def i71 : DInfo := ⟨Try.t70.desc, 2, 8, Try.t71.zero, true, false, true⟩
noncomputable def i72 : DInfo := ⟨Try.t72.desc, 2, 8, Try.t72.zero, true, false, false⟩
noncomputable def i73 : DInfo := ⟨Try.t72.desc, 2, 8, Try.t73.zero, true, false, false⟩
noncomputable def i74 : DInfo := ⟨Try.t74.desc, 3, 12, Try.t74.zero, true, false, false⟩
noncomputable def i75 : DInfo := ⟨Try.t74.desc, 3, 12, Try.t75.zero, true, false, false⟩
noncomputable def i76 : DInfo := ⟨Try.t76.desc, 1, 24, Try.t76.zero, false, false, true⟩
noncomputable def i77 : DInfo := ⟨Try.t77.desc, 8, 104, Try.t77.zero, false, false, true⟩
noncomputable def i78 : DInfo := ⟨Try.t77.desc, 8, 104, Try.t78.zero, false, false, true⟩
noncomputable def i79 : DInfo := ⟨Try.t79.desc, 1, 8, Try.t79.zero, false, false, true⟩
noncomputable def i80 : DInfo := ⟨Try.t79.desc, 1, 8, Try.t80.zero, false, false, true⟩
noncomputable def i81 : DInfo := ⟨Try.t81.desc, 1, 8, Try.t81.zero, false, false, true⟩
noncomputable def i82 : DInfo := ⟨Try.t82.desc, 1, 8, Try.t82.zero, false, false, true⟩
noncomputable def i83 : DInfo := ⟨Try.t83.desc, 1, 8, Try.t83.zero, false, false, true⟩
noncomputable def i84 : DInfo := ⟨Try.t84.desc, 1, 24, Try.t84.zero, false, false, true⟩
noncomputable def i85 : DInfo := ⟨Try.t85.desc, 1, 8, Try.t85.zero, false, false, true⟩
noncomputable def i86 : DInfo := ⟨Try.t86.desc, 1, 24, Try.t86.zero, false, false, true⟩
noncomputable def i87 : DInfo := ⟨Try.t87.desc, 1, 24, Try.t87.zero, false, false, true⟩
noncomputable def i88 : DInfo := ⟨Try.t87.desc, 1, 24, Try.t88.zero, false, false, true⟩
noncomputable def i89 : DInfo := ⟨Try.t89.desc, 1, 8, Try.t89.zero, false, false, true⟩
noncomputable def i90 : DInfo := ⟨Try.t90.desc, 1, 8, Try.t90.zero, false, false, true⟩
noncomputable def i91 : DInfo := ⟨Try.t91.desc, 1, 8, Try.t91.zero, true, false, true⟩
noncomputable def i92 : DInfo := ⟨Try.t92.desc, 1, 0, Try.t92.zero, false, false, true⟩
noncomputable def i93 : DInfo := ⟨Try.t93.desc, 1, 8, Try.t93.zero, false, false, true⟩
noncomputable def i94 : DInfo := ⟨Try.t94.desc, 1, 8, Try.t94.zero, true, false, true⟩
noncomputable def i95 : DInfo := ⟨Try.t95.desc, 1, 0, Try.t95.zero, false, false, true⟩
noncomputable def i96 : DInfo := ⟨Try.t96.desc, 1, 8, Try.t96.zero, false, false, true⟩
noncomputable def i97 : DInfo := ⟨Try.t97.desc, 1, 8, Try.t97.zero, false, false, true⟩
noncomputable def i98 : DInfo := ⟨Try.t98.desc, 1, 8, Try.t98.zero, true, false, true⟩
noncomputable def i99 : DInfo := ⟨Try.t99.desc, 1, 8, Try.t99.zero, false, false, true⟩
noncomputable def i100 : DInfo := ⟨Try.t100.desc, 1, 8, Try.t100.zero, false, false, true⟩
noncomputable def i101 : DInfo := ⟨Try.t101.desc, 1, 8, Try.t101.zero, true, false, true⟩
noncomputable def i102 : DInfo := ⟨Try.t102.desc, 1, 8, Try.t102.zero, false, false, true⟩
noncomputable def i103 : DInfo := ⟨Try.t103.desc, 1, 8, Try.t103.zero, false, false, true⟩
noncomputable def i104 : DInfo := ⟨Try.t103.desc, 1, 8, Try.t104.zero, false, false, true⟩
noncomputable def i105 : DInfo := ⟨Try.t105.desc, 1, 8, Try.t105.zero, true, false, true⟩
noncomputable def i106 : DInfo := ⟨Try.t106.desc, 1, 8, Try.t106.zero, false, false, true⟩
noncomputable def i107 : DInfo := ⟨Try.t107.desc, 2, 16, Try.t107.zero, false, false, true⟩
noncomputable def i108 : DInfo := ⟨Try.t107.desc, 2, 16, Try.t108.zero, false, false, true⟩
noncomputable def i109 : DInfo := ⟨Try.t109.desc, 1, 8, Try.t109.zero, true, false, true⟩
noncomputable def i110 : DInfo := ⟨Try.t110.desc, 28, 240, Try.t110.zero, false, false, true⟩
noncomputable def i111 : DInfo := ⟨Try.t110.desc, 28, 240, Try.t111.zero, false, false, true⟩
noncomputable def i112 : DInfo := ⟨Try.t112.desc, 1, 0, Try.t112.zero, false, false, true⟩
noncomputable def i113 : DInfo := ⟨Try.t113.desc, 1, 8, Try.t113.zero, false, false, true⟩
noncomputable def i114 : DInfo := ⟨Try.t114.desc, 1, 0, Try.t114.zero, false, false, true⟩
noncomputable def i115 : DInfo := ⟨Try.t115.desc, 1, 8, Try.t115.zero, false, false, true⟩
noncomputable def i116 : DInfo := ⟨Try.t116.desc, 1, 0, Try.t116.zero, false, false, true⟩
noncomputable def i117 : DInfo := ⟨Try.t117.desc, 1, 8, Try.t117.zero, false, false, true⟩
noncomputable def i118 : DInfo := ⟨Try.t118.desc, 1, 0, Try.t118.zero, false, false, true⟩
noncomputable def i119 : DInfo := ⟨Try.t119.desc, 1, 8, Try.t119.zero, false, false, true⟩
noncomputable def i120 : DInfo := ⟨Try.t120.desc, 1, 8, Try.t120.zero, false, false, true⟩
noncomputable def i121 : DInfo := ⟨Try.t121.desc, 1, 0, Try.t121.zero, false, false, true⟩
noncomputable def i122 : DInfo := ⟨Try.t122.desc, 1, 8, Try.t122.zero, false, false, true⟩
noncomputable def i123 : DInfo := ⟨Try.t123.desc, 2, 16, Try.t123.zero, true, false, true⟩
noncomputable def i124 : DInfo := ⟨Try.t123.desc, 2, 16, Try.t124.zero, true, false, true⟩
noncomputable def i125 : DInfo := ⟨Try.t125.desc, 5, 72, Try.t125.zero, false, false, true⟩
noncomputable def i126 : DInfo := ⟨Try.t125.desc, 5, 72, Try.t126.zero, false, false, true⟩
noncomputable def i127 : DInfo := ⟨Try.t127.desc, 1, 24, Try.t127.zero, false, false, true⟩
noncomputable def i128 : DInfo := ⟨Try.t128.desc, 1, 24, Try.t128.zero, false, false, true⟩
noncomputable def i129 : DInfo := ⟨Try.t128.desc, 1, 24, Try.t129.zero, false, false, true⟩
noncomputable def i130 : DInfo := ⟨Try.t130.desc, 1, 8, Try.t130.zero, false, false, true⟩
noncomputable def i131 : DInfo := ⟨Try.t131.desc, 2, 16, Try.t131.zero, true, false, true⟩
noncomputable def i132 : DInfo := ⟨Try.t131.desc, 2, 16, Try.t132.zero, true, false, true⟩
noncomputable def i133 : DInfo := ⟨Try.t133.desc, 1, 8, Try.t133.zero, false, false, true⟩
noncomputable def i134 : DInfo := ⟨Try.t134.desc, 1024, 1024, Try.t134.zero, true, false, true⟩
noncomputable def i135 : DInfo := ⟨Try.t135.desc, 1024, 4096, Try.t135.zero, true, false, true⟩
noncomputable def i136 : DInfo := ⟨Try.t136.desc, 2048, 5120, Try.t136.zero, true, false, true⟩
noncomputable def i137 : DInfo := ⟨Try.t136.desc, 2048, 5120, Try.t137.zero, true, false, true⟩
noncomputable def i138 : DInfo := ⟨Try.t138.desc, 1, 8, Try.t138.zero, false, false, true⟩
noncomputable def i139 : DInfo := ⟨Try.t139.desc, 1, 8, Try.t139.zero, false, false, true⟩
noncomputable def i140 : DInfo := ⟨Try.t140.desc, 1, 0, Try.t140.zero, false, false, true⟩
noncomputable def i141 : DInfo := ⟨Try.t141.desc, 1, 8, Try.t141.zero, false, false, true⟩
noncomputable def i142 : DInfo := ⟨Try.t142.desc, 1, 8, Try.t142.zero, false, false, true⟩
noncomputable def i143 : DInfo := ⟨Try.t143.desc, 1, 24, Try.t143.zero, false, false, true⟩
noncomputable def i144 : DInfo := ⟨Try.t143.desc, 1, 24, Try.t144.zero, false, false, true⟩
noncomputable def i145 : DInfo := ⟨Try.t145.desc, 3, 40, Try.t145.zero, false, false, true⟩
noncomputable def i146 : DInfo := ⟨Try.t145.desc, 3, 40, Try.t146.zero, false, false, true⟩
noncomputable def i147 : DInfo := ⟨Try.t147.desc, 1, 8, Try.t147.zero, true, false, true⟩
noncomputable def i148 : DInfo := ⟨Try.t148.desc, 1, 0, Try.t148.zero, false, false, true⟩
noncomputable def i149 : DInfo := ⟨Try.t149.desc, 1, 8, Try.t149.zero, false, false, true⟩
noncomputable def i150 : DInfo := ⟨Try.t150.desc, 1, 8, Try.t150.zero, false, false, true⟩
noncomputable def i151 : DInfo := ⟨Try.t151.desc, 1, 8, Try.t151.zero, false, false, true⟩
noncomputable def i152 : DInfo := ⟨Try.t152.desc, 2, 16, Try.t152.zero, true, false, true⟩
noncomputable def i153 : DInfo := ⟨Try.t152.desc, 2, 16, Try.t153.zero, true, false, true⟩
noncomputable def i154 : DInfo := ⟨Try.t154.desc, 1, 0, none, false, false, true⟩
noncomputable def i155 : DInfo := ⟨Try.t155.desc, 1, 8, Try.t155.zero, false, false, true⟩
noncomputable def i156 : DInfo := ⟨Try.t156.desc, 1, 8, Try.t156.zero, false, false, true⟩
noncomputable def i157 : DInfo := ⟨Try.t157.desc, 1, 8, Try.t157.zero, false, false, true⟩
noncomputable def i158 : DInfo := ⟨Try.t158.desc, 6, 48, Try.t158.zero, false, false, true⟩
noncomputable def i159 : DInfo := ⟨Try.t158.desc, 6, 48, Try.t159.zero, false, false, true⟩
noncomputable def i160 : DInfo := ⟨Try.t160.desc, 3, 12, Try.t160.zero, true, false, true⟩
noncomputable def i161 : DInfo := ⟨Try.t160.desc, 3, 12, Try.t161.zero, true, false, true⟩
noncomputable def i162 : DInfo := ⟨Try.t162.desc, 5, 72, Try.t162.zero, false, false, true⟩
noncomputable def i163 : DInfo := ⟨Try.t162.desc, 5, 72, Try.t163.zero, false, false, true⟩
noncomputable def i164 : DInfo := ⟨Try.t164.desc, 1, 8, Try.t164.zero, false, false, true⟩
noncomputable def i165 : DInfo := ⟨Try.t165.desc, 1, 8, Try.t165.zero, false, false, true⟩
noncomputable def i166 : DInfo := ⟨Try.t166.desc, 1, 24, Try.t166.zero, false, false, true⟩
noncomputable def i167 : DInfo := ⟨Try.t167.desc, 3, 40, Try.t167.zero, false, false, true⟩
noncomputable def i168 : DInfo := ⟨Try.t167.desc, 3, 40, Try.t168.zero, false, false, true⟩
noncomputable def i169 : DInfo := ⟨Try.t169.desc, 1, 24, Try.t169.zero, false, false, true⟩
noncomputable def i170 : DInfo := ⟨Try.t170.desc, 4, 64, Try.t170.zero, false, false, true⟩
noncomputable def i171 : DInfo := ⟨Try.t170.desc, 4, 64, Try.t171.zero, false, false, true⟩
noncomputable def i172 : DInfo := ⟨Try.t172.desc, 64, 512, Try.t172.zero, true, false, true⟩
noncomputable def i173 : DInfo := ⟨Try.t173.desc, 65, 520, Try.t173.zero, true, false, true⟩
noncomputable def i174 : DInfo := ⟨Try.t173.desc, 65, 520, Try.t174.zero, true, false, true⟩
noncomputable def i175 : DInfo := ⟨Try.t175.desc, 1, 8, Try.t175.zero, false, false, true⟩
noncomputable def i176 : DInfo := ⟨Try.t176.desc, 1, 8, Try.t176.zero, false, false, true⟩
noncomputable def i177 : DInfo := ⟨Try.t177.desc, 1, 8, Try.t177.zero, false, false, true⟩
noncomputable def i178 : DInfo := ⟨Try.t178.desc, 1, 8, Try.t178.zero, false, false, true⟩
noncomputable def i179 : DInfo := ⟨Try.t179.desc, 1, 8, Try.t179.zero, false, false, true⟩
noncomputable def i180 : DInfo := ⟨Try.t180.desc, 1, 8, Try.t180.zero, false, false, true⟩
noncomputable def i181 : DInfo := ⟨Try.t181.desc, 1, 8, Try.t181.zero, false, false, true⟩
noncomputable def i182 : DInfo := ⟨Try.t182.desc, 1, 8, Try.t182.zero, false, false, true⟩
noncomputable def i183 : DInfo := ⟨Try.t183.desc, 1, 8, Try.t183.zero, false, false, true⟩
noncomputable def i184 : DInfo := ⟨Try.t184.desc, 4, 40, Try.t184.zero, true, false, false⟩
noncomputable def i185 : DInfo := ⟨Try.t184.desc, 4, 40, Try.t185.zero, true, false, false⟩
noncomputable def i186 : DInfo := ⟨Try.t186.desc, 0, 0, Try.t186.zero, true, false, true⟩
noncomputable def i187 : DInfo := ⟨Try.t187.desc, 0, 0, Try.t187.zero, true, false, false⟩
noncomputable def i188 : DInfo := ⟨Try.t187.desc, 0, 0, Try.t188.zero, true, false, false⟩
noncomputable def i189 : DInfo := ⟨Try.t5.desc, 1, 1, Try.t189.zero, true, false, true⟩
noncomputable def i190 : DInfo := ⟨Try.t5.desc, 1, 1, Try.t190.zero, true, false, true⟩
noncomputable def i191 : DInfo := ⟨Try.t191.desc, 1, 8, Try.t191.zero, false, false, true⟩
noncomputable def i192 : DInfo := ⟨Try.t192.desc, 1, 8, Try.t192.zero, true, false, true⟩
noncomputable def i193 : DInfo := ⟨Try.t21.desc, 1, 4, Try.t193.zero, true, false, true⟩
noncomputable def i194 : DInfo := ⟨Try.t21.desc, 1, 4, Try.t194.zero, true, false, true⟩
noncomputable def i195 : DInfo := ⟨Try.t195.desc, 11, 48, Try.t195.zero, false, false, false⟩
noncomputable def i196 : DInfo := ⟨Try.t195.desc, 11, 48, Try.t196.zero, false, false, false⟩
noncomputable def i197 : DInfo := ⟨Try.t197.desc, 1, 8, Try.t197.zero, false, false, true⟩
noncomputable def i198 : DInfo := ⟨Try.t198.desc, 1, 8, Try.t198.zero, false, false, true⟩
noncomputable def i199 : DInfo := ⟨Try.t199.desc, 1, 8, Try.t199.zero, false, false, true⟩
noncomputable def i200 : DInfo := ⟨Try.t200.desc, 1, 8, Try.t200.zero, false, false, true⟩
noncomputable def i201 : DInfo := ⟨Try.t201.desc, 1, 24, Try.t201.zero, false, false, true⟩
noncomputable def i202 : DInfo := ⟨Try.t202.desc, 13, 128, Try.t202.zero, false, false, true⟩
noncomputable def i203 : DInfo := ⟨Try.t202.desc, 13, 128, Try.t203.zero, false, false, true⟩
noncomputable def i204 : DInfo := ⟨Try.t204.desc, 1, 8, Try.t204.zero, false, false, true⟩
noncomputable def i205 : DInfo := ⟨Try.t205.desc, 2, 16, Try.t205.zero, true, false, true⟩
noncomputable def i206 : DInfo := ⟨Try.t205.desc, 2, 16, Try.t206.zero, true, false, true⟩
noncomputable def i207 : DInfo := ⟨Try.t207.desc, 7, 88, Try.t207.zero, false, false, true⟩
noncomputable def i208 : DInfo := ⟨Try.t207.desc, 7, 88, Try.t208.zero, false, false, true⟩
noncomputable def i209 : DInfo := ⟨Try.t209.desc, 1, 8, Try.t209.zero, true, false, true⟩
noncomputable def i210 : DInfo := ⟨Try.t210.desc, 2, 16, Try.t210.zero, true, false, true⟩
noncomputable def i211 : DInfo := ⟨Try.t210.desc, 2, 16, Try.t211.zero, true, false, true⟩
noncomputable def i212 : DInfo := ⟨Try.t212.desc, 1, 8, Try.t212.zero, true, false, true⟩
noncomputable def i213 : DInfo := ⟨Try.t213.desc, 3, 24, Try.t213.zero, true, false, true⟩
noncomputable def i214 : DInfo := ⟨Try.t213.desc, 3, 24, Try.t214.zero, true, false, true⟩
noncomputable def i215 : DInfo := ⟨Try.t215.desc, 1, 8, Try.t215.zero, true, false, true⟩
noncomputable def i216 : DInfo := ⟨Try.t216.desc, 9, 88, Try.t216.zero, false, false, true⟩
noncomputable def i217 : DInfo := ⟨Try.t216.desc, 9, 88, Try.t217.zero, false, false, true⟩
noncomputable def i218 : DInfo := ⟨Try.t218.desc, 10, 96, Try.t218.zero, false, false, true⟩
noncomputable def i219 : DInfo := ⟨Try.t218.desc, 10, 96, Try.t219.zero, false, false, true⟩
noncomputable def i220 : DInfo := ⟨Try.t220.desc, 1, 8, Try.t220.zero, false, false, true⟩
noncomputable def i221 : DInfo := ⟨Try.t221.desc, 1, 24, Try.t221.zero, false, false, true⟩
noncomputable def i222 : DInfo := ⟨Try.t222.desc, 1, 8, Try.t222.zero, true, false, true⟩
noncomputable def i223 : DInfo := ⟨Try.t223.desc, 1, 8, Try.t223.zero, false, false, true⟩
noncomputable def i224 : DInfo := ⟨Try.t224.desc, 3, 24, Try.t224.zero, true, false, true⟩
noncomputable def i225 : DInfo := ⟨Try.t224.desc, 3, 24, Try.t225.zero, true, false, true⟩
noncomputable def i226 : DInfo := ⟨Try.t226.desc, 7, 72, Try.t226.zero, false, false, true⟩
noncomputable def i227 : DInfo := ⟨Try.t226.desc, 7, 72, Try.t227.zero, false, false, true⟩
noncomputable def i228 : DInfo := ⟨Try.t228.desc, 13, 112, Try.t228.zero, false, false, true⟩
noncomputable def i229 : DInfo := ⟨Try.t228.desc, 13, 112, Try.t229.zero, false, false, true⟩
noncomputable def i230 : DInfo := ⟨Try.t230.desc, 1, 24, Try.t230.zero, false, false, true⟩
noncomputable def i231 : DInfo := ⟨Try.t230.desc, 1, 24, Try.t231.zero, false, false, true⟩
noncomputable def i232 : DInfo := ⟨Try.t232.desc, 2, 16, Try.t232.zero, true, false, true⟩
noncomputable def i233 : DInfo := ⟨Try.t232.desc, 2, 16, Try.t233.zero, true, false, true⟩
noncomputable def ts : List (Nat × DInfo) := [(0, i0), (1, i1), (2, i2), (3, i3), (4, i4), (5, i5), (6, i6), (7, i7), (8, i8), (9, i9), (10, i10), (11, i11), (12, i12), (13, i13), (14, i14), (15, i15), (16, i16), (17, i17), (18, i18), (19, i19), (20, i20), (21, i21), (22, i22), (23, i23), (24, i24), (25, i25), (26, i26), (27, i27), (28, i28), (29, i29), (30, i30), (31, i31), (32, i32), (33, i33), (34, i34), (35, i35), (36, i36), (37, i37), (38, i38), (39, i39), (40, i40), (41, i41), (42, i42), (43, i43), (44, i44), (45, i45), (46, i46), (47, i47), (48, i48), (49, i49), (50, i50), (51, i51), (52, i52), (53, i53), (54, i54), (55, i55), (56, i56), (57, i57), (58, i58), (59, i59), (60, i60), (61, i61), (62, i62), (63, i63), (64, i64), (65, i65), (66, i66), (67, i67), (68, i68), (69, i69), (70, i70), (71, i71), (72, i72), (73, i73), (74, i74), (75, i75), (76, i76), (77, i77), (78, i78), (79, i79), (80, i80), (81, i81), (82, i82), (83, i83), (84, i84), (85, i85), (86, i86), (87, i87), (88, i88), (89, i89), (90, i90), (91, i91), (92, i92), (93, i93), (94, i94), (95, i95), (96, i96), (97, i97), (98, i98), (99, i99), (100, i100), (101, i101), (102, i102), (103, i103), (104, i104), (105, i105), (106, i106), (107, i107), (108, i108), (109, i109), (110, i110), (111, i111), (112, i112), (113, i113), (114, i114), (115, i115), (116, i116), (117, i117), (118, i118), (119, i119), (120, i120), (121, i121), (122, i122), (123, i123), (124, i124), (125, i125), (126, i126), (127, i127), (128, i128), (129, i129), (130, i130), (131, i131), (132, i132), (133, i133), (134, i134), (135, i135), (136, i136), (137, i137), (138, i138), (139, i139), (140, i140), (141, i141), (142, i142), (143, i143), (144, i144), (145, i145), (146, i146), (147, i147), (148, i148), (149, i149), (150, i150), (151, i151), (152, i152), (153, i153), (154, i154), (155, i155), (156, i156), (157, i157), (158, i158), (159, i159), (160, i160), (161, i161), (162, i162), (163, i163), (164, i164), (165, i165), (166, i166), (167, i167), (168, i168), (169, i169), (170, i170), (171, i171), (172, i172), (173, i173), (174, i174), (175, i175), (176, i176), (177, i177), (178, i178), (179, i179), (180, i180), (181, i181), (182, i182), (183, i183), (184, i184), (185, i185), (186, i186), (187, i187), (188, i188), (189, i189), (190, i190), (191, i191), (192, i192), (193, i193), (194, i194), (195, i195), (196, i196), (197, i197), (198, i198), (199, i199), (200, i200), (201, i201), (202, i202), (203, i203), (204, i204), (205, i205), (206, i206), (207, i207), (208, i208), (209, i209), (210, i210), (211, i211), (212, i212), (213, i213), (214, i214), (215, i215), (216, i216), (217, i217), (218, i218), (219, i219), (220, i220), (221, i221), (222, i222), (223, i223), (224, i224), (225, i225), (226, i226), (227, i227), (228, i228), (229, i229), (230, i230), (231, i231), (232, i232), (233, i233)]
noncomputable def tt : PM DInfo := (.node (.node (.node (.node (.node (.node (.node .leaf (some i126) (lf i190)) (some i62) (.node (lf i222) (some i94) (lf i158))) (some i30) (.node (.node .leaf (some i110) (lf i174)) (some i46) (.node (lf i206) (some i78) (lf i142)))) (some i14) (.node (.node (.node .leaf (some i118) (lf i182)) (some i54) (.node (lf i214) (some i86) (lf i150))) (some i22) (.node (.node (lf i230) (some i102) (lf i166)) (some i38) (.node (lf i198) (some i70) (lf i134))))) (some i6) (.node (.node (.node (.node .leaf (some i122) (lf i186)) (some i58) (.node (lf i218) (some i90) (lf i154))) (some i26) (.node (.node .leaf (some i106) (lf i170)) (some i42) (.node (lf i202) (some i74) (lf i138)))) (some i10) (.node (.node (.node .leaf (some i114) (lf i178)) (some i50) (.node (lf i210) (some i82) (lf i146))) (some i18) (.node (.node (lf i226) (some i98) (lf i162)) (some i34) (.node (lf i194) (some i66) (lf i130)))))) (some i2) (.node (.node (.node (.node (.node .leaf (some i124) (lf i188)) (some i60) (.node (lf i220) (some i92) (lf i156))) (some i28) (.node (.node .leaf (some i108) (lf i172)) (some i44) (.node (lf i204) (some i76) (lf i140)))) (some i12) (.node (.node (.node .leaf (some i116) (lf i180)) (some i52) (.node (lf i212) (some i84) (lf i148))) (some i20) (.node (.node (lf i228) (some i100) (lf i164)) (some i36) (.node (lf i196) (some i68) (lf i132))))) (some i4) (.node (.node (.node (.node .leaf (some i120) (lf i184)) (some i56) (.node (lf i216) (some i88) (lf i152))) (some i24) (.node (.node (lf i232) (some i104) (lf i168)) (some i40) (.node (lf i200) (some i72) (lf i136)))) (some i8) (.node (.node (.node .leaf (some i112) (lf i176)) (some i48) (.node (lf i208) (some i80) (lf i144))) (some i16) (.node (.node (lf i224) (some i96) (lf i160)) (some i32) (.node (lf i192) (some i64) (lf i128))))))) (some i0) (.node (.node (.node (.node (.node (.node .leaf (some i125) (lf i189)) (some i61) (.node (lf i221) (some i93) (lf i157))) (some i29) (.node (.node .leaf (some i109) (lf i173)) (some i45) (.node (lf i205) (some i77) (lf i141)))) (some i13) (.node (.node (.node .leaf (some i117) (lf i181)) (some i53) (.node (lf i213) (some i85) (lf i149))) (some i21) (.node (.node (lf i229) (some i101) (lf i165)) (some i37) (.node (lf i197) (some i69) (lf i133))))) (some i5) (.node (.node (.node (.node .leaf (some i121) (lf i185)) (some i57) (.node (lf i217) (some i89) (lf i153))) (some i25) (.node (.node (lf i233) (some i105) (lf i169)) (some i41) (.node (lf i201) (some i73) (lf i137)))) (some i9) (.node (.node (.node .leaf (some i113) (lf i177)) (some i49) (.node (lf i209) (some i81) (lf i145))) (some i17) (.node (.node (lf i225) (some i97) (lf i161)) (some i33) (.node (lf i193) (some i65) (lf i129)))))) (some i1) (.node (.node (.node (.node (.node .leaf (some i123) (lf i187)) (some i59) (.node (lf i219) (some i91) (lf i155))) (some i27) (.node (.node .leaf (some i107) (lf i171)) (some i43) (.node (lf i203) (some i75) (lf i139)))) (some i11) (.node (.node (.node .leaf (some i115) (lf i179)) (some i51) (.node (lf i211) (some i83) (lf i147))) (some i19) (.node (.node (lf i227) (some i99) (lf i163)) (some i35) (.node (lf i195) (some i67) (lf i131))))) (some i3) (.node (.node (.node (.node .leaf (some i119) (lf i183)) (some i55) (.node (lf i215) (some i87) (lf i151))) (some i23) (.node (.node (lf i231) (some i103) (lf i167)) (some i39) (.node (lf i199) (some i71) (lf i135)))) (some i7) (.node (.node (.node .leaf (some i111) (lf i175)) (some i47) (.node (lf i207) (some i79) (lf i143))) (some i15) (.node (.node (lf i223) (some i95) (lf i159)) (some i31) (.node (lf i191) (some i63) (lf i127))))))))
noncomputable def fs : List (Nat × Func) := [(2, Try.f2), (3, Try.f3), (4, Try.f4), (5, Try.f5), (6, Try.f6), (7, Try.f7), (8, Try.f8), (9, Try.f9), (10, Try.f10), (11, Try.f11), (12, Try.f12), (13, Try.f13), (14, Try.f14), (15, Try.f15), (16, Try.f16), (17, Try.f17), (18, Try.f18), (19, Try.f19), (20, Try.f20), (21, Try.f21), (22, Try.f22), (23, Try.f23), (24, Try.f24), (25, Try.f25), (26, Try.f26), (27, Try.f27), (28, Try.f28), (29, Try.f29), (30, Try.f30), (31, Try.f31), (32, Try.f32), (33, Try.f33), (34, Try.f34), (35, Try.f35), (36, Try.f36), (37, Try.f37), (38, Try.f38), (39, Try.f39), (40, Try.f40), (41, Try.f41), (42, Try.f42), (43, Try.f43), (44, Try.f44), (45, Try.f45), (46, Try.f46), (47, Try.f47), (48, Try.f48), (49, Try.f49), (50, Try.f50), (51, Try.f51), (52, Try.f52), (53, Try.f53), (54, Try.f54), (55, Try.f55), (56, Try.f56), (57, Try.f57), (58, Try.f58), (59, Try.f59), (60, Try.f60), (61, Try.f61), (62, Try.f62), (64, Try.f64), (65, Try.f65), (66, Try.f66), (67, Try.f67), (69, Try.f69), (70, Try.f70), (71, Try.f71)]
noncomputable def ff : PM Func := (.node (.node (.node (.node (.node (lf Try.f62) (some Try.f30) (lf Try.f46)) (some Try.f14) (.node (lf Try.f54) (some Try.f22) (.node .leaf (some Try.f38) (lf Try.f70)))) (some Try.f6) (.node (.node (lf Try.f58) (some Try.f26) (lf Try.f42)) (some Try.f10) (.node (lf Try.f50) (some Try.f18) (.node .leaf (some Try.f34) (lf Try.f66))))) (some Try.f2) (.node (.node (.node (lf Try.f60) (some Try.f28) (lf Try.f44)) (some Try.f12) (.node (lf Try.f52) (some Try.f20) (lf Try.f36))) (some Try.f4) (.node (.node (lf Try.f56) (some Try.f24) (lf Try.f40)) (some Try.f8) (.node (lf Try.f48) (some Try.f16) (.node .leaf (some Try.f32) (lf Try.f64)))))) none (.node (.node (.node (.node (lf Try.f61) (some Try.f29) (lf Try.f45)) (some Try.f13) (.node (lf Try.f53) (some Try.f21) (.node .leaf (some Try.f37) (lf Try.f69)))) (some Try.f5) (.node (.node (lf Try.f57) (some Try.f25) (lf Try.f41)) (some Try.f9) (.node (lf Try.f49) (some Try.f17) (.node .leaf (some Try.f33) (lf Try.f65))))) none (.node (.node (.node (lf Try.f59) (some Try.f27) (lf Try.f43)) (some Try.f11) (.node (lf Try.f51) (some Try.f19) (.node .leaf (some Try.f35) (lf Try.f67)))) (some Try.f3) (.node (.node (lf Try.f55) (some Try.f23) (.node .leaf (some Try.f39) (lf Try.f71))) (some Try.f7) (.node (lf Try.f47) (some Try.f15) (lf Try.f31))))))
noncomputable def globs : Nat := 1
theorem tt_eq : tt = layD ts := by kernel_rfl
theorem ff_eq : ff = layD fs := by kernel_rfl
theorem info_eq : ts.map (fun p => infoOf Try.prog p.1) = ts.map fun p => some p.2 := by kernel_rfl
theorem funcs_eq : ∀ p ∈ fs, Try.prog.funcs[p.1]? = some p.2 := by
  have key : fs.map (fun p => Try.prog.funcs[p.1]?) = fs.map fun p => some p.2 := by kernel_rfl
  exact fun p hp => List.map_inj_left.1 key p hp
theorem names_eq : fs.all (fun p => !(p.2.name == "runtime.NumGoroutine")) = true := by kernel_rfl
theorem mixed : Try.prog.follows .mixedOrders = true := by kernel_rfl
/-- The environment, with given functions stood in for. -/
noncomputable def env (prim : Nat → Option (List Value → St → Option (Value × St))) : Env := { inf := tt.get, fn := ff.get, prim, globs }
theorem env_ok (prim : Nat → Option (List Value → St → Option (Value × St))) : (env prim).Ok Try.prog :=
  envOk (fun t => by show tt.get t = _; rw [tt_eq]) (fun f => by show ff.get f = _; rw [ff_eq]) info_eq funcs_eq names_eq
end Go.Proofs.Ytgdijpcopdgapaa.DEnv

/- The seat's base: D over the program, without stand-ins; structs' cells (printed by GenBase.lean). -/
namespace Go.Proofs.Ytgdijpcopdgapaa
open Go Go.Proofs.Ytgdijpcopdgapaa.D
abbrev pM : MNums := ⟨56, 42, 2⟩
noncomputable def E0 : Env := DEnv.env (primsM pM)
/-- [x, y, signed, code] -/
abbrev G7 : List Sc := [.int .i64, .int .i64, .bool, .int .u8]
/-- [msg, addr] -/
abbrev G13 : List Sc := [.str, .int .u64]
/-- [Base, Cap] -/
abbrev G23 : List Sc := [.int .u64, .int .u64]
/-- [Robots, Window, Prio, Rule, Patience] -/
abbrev G25 : List Sc := [.int .i64, .int .i64, .int .i64, .int .u64, .int .u64, .int .u64]
/-- [Is, Cell, Robot] -/
abbrev G58 : List Sc := [.bool, .int .i64, .int .i64]
/-- [C, M, Self, Epoch, Claims, Book, Now, Clock, Links, Goals, Bans, Prio, Asks, Pauses, Tries, Draw, Wait, Since, At, Went, Out] -/
abbrev G61 : List Sc := [.int .i64, .int .i64, .int .i64, .int .u64, .int .u64, .int .u64, .ptr, .int .i64, .int .u32, .ptr, .ptr, .int .u64, .ptr, .ptr, .ptr, .ptr, .ptr, .ptr, .ptr, .ptr, .ptr, .ptr, .ptr, .ptr, .ptr, .ptr, .ptr, .ptr, .ptr, .ptr, .ptr, .ptr, .ptr, .ptr, .ptr, .ptr, .ptr, .ptr, .ptr, .ptr, .ptr, .ptr, .ptr, .ptr, .ptr, .ptr, .ptr, .ptr, .ptr, .ptr, .ptr, .ptr, .ptr, .ptr, .ptr, .ptr, .ptr, .ptr, .ptr, .ptr, .ptr, .ptr, .ptr, .ptr, .ptr, .ptr, .ptr, .ptr, .ptr, .ptr, .ptr, .ptr, .ptr, .ptr, .ptr, .ptr, .ptr, .ptr, .ptr, .ptr, .sl, .sl, .int .i64, .int .u64, .bool, .int .i64, .int .i64, .int .u64, .int .i64, .int .i64, .sl]
/-- [state, sema] -/
abbrev G70 : List Sc := [.int .i32, .int .u32]
/-- [_, done, m] -/
abbrev G74 : List Sc := [.int .u32, .int .i32, .int .u32]
/-- [rows, cols, kinds, once, next, back] -/
abbrev G77 : List Sc := [.int .i64, .int .i64, .sl, .int .u32, .int .i32, .int .u32, .sl, .sl]
/-- [own, l] -/
abbrev G107 : List Sc := [.int .i64, .mp]
/-- [c, m, self, epoch, claims, book, now, stamps, links, goals, bans, prio, asks, pauses, tries, draw, wait, since, at, went, out] -/
abbrev G110 : List Sc := [.int .i64, .int .i64, .int .i64, .int .u64, .int .u64, .int .u64, .ptr, .int .i64, .int .u32, .ptr, .ptr, .int .u64, .ptr, .mp, .ptr, .ptr, .ptr, .mp, .mp, .int .i64, .int .u64, .bool, .int .i64, .int .i64, .int .u64, .int .i64, .int .i64, .sl]
/-- [M, Window, L, Route, Reached] -/
abbrev G125 : List Sc := [.ptr, .int .i64, .sl, .sl, .int .i64]
/-- [Cell, Gen] -/
abbrev G131 : List Sc := [.int .i64, .int .u32]
/-- [Kind, N, Data] -/
abbrev G145 : List Sc := [.int .i64, .int .i64, .sl]
/-- [home, robots, cells, entries, queues, told] -/
abbrev G158 : List Sc := [.int .i64, .int .i64, .int .i64, .mp, .mp, .mp]
/-- [epoch, count, made] -/
abbrev G160 : List Sc := [.int .u32, .int .u32, .bool]
/-- [Holder, Gen, Wait] -/
abbrev G167 : List Sc := [.int .i64, .int .u32, .sl]
/-- [Home, Robots, E, Told] -/
abbrev G170 : List Sc := [.int .i64, .int .i64, .sl, .sl]
/-- [Prio, Given] -/
abbrev G173 : List Sc := [.int .i64, .int .i64, .int .i64, .int .i64, .int .i64, .int .i64, .int .i64, .int .i64, .int .i64, .int .i64, .int .i64, .int .i64, .int .i64, .int .i64, .int .i64, .int .i64, .int .i64, .int .i64, .int .i64, .int .i64, .int .i64, .int .i64, .int .i64, .int .i64, .int .i64, .int .i64, .int .i64, .int .i64, .int .i64, .int .i64, .int .i64, .int .i64, .int .i64, .int .i64, .int .i64, .int .i64, .int .i64, .int .i64, .int .i64, .int .i64, .int .i64, .int .i64, .int .i64, .int .i64, .int .i64, .int .i64, .int .i64, .int .i64, .int .i64, .int .i64, .int .i64, .int .i64, .int .i64, .int .i64, .int .i64, .int .i64, .int .i64, .int .i64, .int .i64, .int .i64, .int .i64, .int .i64, .int .i64, .int .i64, .int .i64]
/-- [_interface, concrete, asserted, missingMethod] -/
abbrev G184 : List Sc := [.ptr, .ptr, .ptr, .str]
/-- [Size_, PtrBytes, Hash, TFlag, Align_, FieldAlign_, Kind_, Equal, GCData, Str, PtrToThis] -/
abbrev G195 : List Sc := [.int .u64, .int .u64, .int .u32, .int .u8, .int .u8, .int .u8, .int .u8, .any, .ptr, .int .i32, .int .i32]
/-- [Self, Peer, Epoch, Known, Base, Cap, Sent, Open, Last, Early, On, At, Tries] -/
abbrev G202 : List Sc := [.int .i64, .int .i64, .int .u32, .int .u32, .int .u64, .int .u64, .int .u32, .sl, .int .u32, .sl, .bool, .int .u64, .int .i64]
/-- [Cell, N] -/
abbrev G205 : List Sc := [.int .i64, .int .u64]
/-- [Kind, Record, To, Data, Cell] -/
abbrev G207 : List Sc := [.int .i64, .int .i64, .int .i64, .sl, .int .i64, .sl, .int .i64]
/-- [Robot, Stamp, Prio] -/
abbrev G213 : List Sc := [.int .i64, .int .u64, .int .i64]
/-- [Kind, Cell, Gen, Stamp, Prio, Hops, Origin, Other, Claims] -/
abbrev G216 : List Sc := [.int .i64, .int .i64, .int .u32, .int .u64, .int .i64, .int .i64, .int .i64, .int .i64, .sl]
/-- [N, M] -/
abbrev G218 : List Sc := [.int .u32, .int .i64, .int .i64, .int .u32, .int .u64, .int .i64, .int .i64, .int .i64, .int .i64, .sl]
/-- [On, At, Tries] -/
abbrev G224 : List Sc := [.bool, .int .u64, .int .i64]
/-- [sent, open, met, early, bell] -/
abbrev G226 : List Sc := [.int .u32, .sl, .ptr, .mp, .bool, .int .u64, .int .i64]
/-- [session, self, peer, epoch, known, rule] -/
abbrev G228 : List Sc := [.int .u32, .sl, .ptr, .mp, .bool, .int .u64, .int .i64, .int .i64, .int .i64, .int .u32, .int .u32, .int .u64, .int .u64]
/-- [last, some] -/
abbrev G232 : List Sc := [.int .u32, .int .u64]
end Go.Proofs.Ytgdijpcopdgapaa
