/- Texts of this claim laid together: Tab, Gate, Stopped, Bytes, SameInts, Made, Images, Right, Chunk, Stamps, Clone, Marked, Spread, Sums, Fixed, Put, Write, Load, Flush, Dk, Dk2, Pure, Layout, Ring, Journal, May, JTail, Jk, Jk2, Jk3, Jk4, Jk5, Same, Oct. -/
import Derived.Test.YtegdcjnjnoeinaaGreatBCachePlays1
import Derived.Test.YtegdcjnjnoeinaaGreatProg
import Derived.KernelRfl
import Derived.Laws.BitsAllLaws
import Derived.Test.YtegdcjnjnoeinaaGreatBCachePlays2
namespace Go.Proofs.YtegdcjnjnoeinaaGreat
open Go.Sl
noncomputable def tab:Tab:=[
  (0,⟨Tryz.t0.desc,Tryz.t0.size,(Tryz.t0.zero).getD undef,Tryz.t0.bytes⟩),
  (1,⟨Tryz.t1.desc,Tryz.t1.size,(Tryz.t1.zero).getD undef,Tryz.t1.bytes⟩),
  (2,⟨Tryz.t2.desc,Tryz.t2.size,(Tryz.t2.zero).getD undef,Tryz.t2.bytes⟩),
  (3,⟨Tryz.t3.desc,Tryz.t3.size,(Tryz.t3.zero).getD undef,Tryz.t3.bytes⟩),
  (4,⟨Tryz.t4.desc,Tryz.t4.size,(Tryz.t4.zero).getD undef,Tryz.t4.bytes⟩),
  (5,⟨Tryz.t5.desc,Tryz.t5.size,(Tryz.t5.zero).getD undef,Tryz.t5.bytes⟩),
  (6,⟨Tryz.t5.desc,Tryz.t6.size,(Tryz.t6.zero).getD undef,Tryz.t6.bytes⟩),
  (7,⟨Tryz.t7.desc,Tryz.t7.size,(Tryz.t7.zero).getD undef,Tryz.t7.bytes⟩),
  (8,⟨Tryz.t7.desc,Tryz.t8.size,(Tryz.t8.zero).getD undef,Tryz.t8.bytes⟩),
  (9,⟨Tryz.t9.desc,Tryz.t9.size,(Tryz.t9.zero).getD undef,Tryz.t9.bytes⟩),
  (10,⟨Tryz.t9.desc,Tryz.t10.size,(Tryz.t10.zero).getD undef,Tryz.t10.bytes⟩),
  (11,⟨Tryz.t9.desc,Tryz.t11.size,(Tryz.t11.zero).getD undef,Tryz.t11.bytes⟩),
  (12,⟨Tryz.t12.desc,Tryz.t12.size,(Tryz.t12.zero).getD undef,Tryz.t12.bytes⟩),
  (13,⟨Tryz.t13.desc,Tryz.t13.size,(Tryz.t13.zero).getD undef,Tryz.t13.bytes⟩),
  (14,⟨Tryz.t13.desc,Tryz.t14.size,(Tryz.t14.zero).getD undef,Tryz.t14.bytes⟩),
  (15,⟨Tryz.t15.desc,Tryz.t15.size,(Tryz.t15.zero).getD undef,Tryz.t15.bytes⟩),
  (16,⟨Tryz.t16.desc,Tryz.t16.size,(Tryz.t16.zero).getD undef,Tryz.t16.bytes⟩),
  (17,⟨Tryz.t17.desc,Tryz.t17.size,(Tryz.t17.zero).getD undef,Tryz.t17.bytes⟩),
  (18,⟨Tryz.t18.desc,Tryz.t18.size,(Tryz.t18.zero).getD undef,Tryz.t18.bytes⟩),
  (19,⟨Tryz.t18.desc,Tryz.t19.size,(Tryz.t19.zero).getD undef,Tryz.t19.bytes⟩),
  (20,⟨Tryz.t20.desc,Tryz.t20.size,(Tryz.t20.zero).getD undef,Tryz.t20.bytes⟩),
  (21,⟨Tryz.t21.desc,Tryz.t21.size,(Tryz.t21.zero).getD undef,Tryz.t21.bytes⟩),
  (22,⟨Tryz.t22.desc,Tryz.t22.size,(Tryz.t22.zero).getD undef,Tryz.t22.bytes⟩),
  (23,⟨Tryz.t23.desc,Tryz.t23.size,(Tryz.t23.zero).getD undef,Tryz.t23.bytes⟩),
  (24,⟨Tryz.t24.desc,Tryz.t24.size,(Tryz.t24.zero).getD undef,Tryz.t24.bytes⟩),
  (25,⟨Tryz.t25.desc,Tryz.t25.size,(Tryz.t25.zero).getD undef,Tryz.t25.bytes⟩),
  (26,⟨Tryz.t26.desc,Tryz.t26.size,(Tryz.t26.zero).getD undef,Tryz.t26.bytes⟩),
  (27,⟨Tryz.t27.desc,Tryz.t27.size,(Tryz.t27.zero).getD undef,Tryz.t27.bytes⟩),
  (28,⟨Tryz.t28.desc,Tryz.t28.size,(Tryz.t28.zero).getD undef,Tryz.t28.bytes⟩),
  (29,⟨Tryz.t3.desc,Tryz.t29.size,(Tryz.t29.zero).getD undef,Tryz.t29.bytes⟩),
  (30,⟨Tryz.t30.desc,Tryz.t30.size,(Tryz.t30.zero).getD undef,Tryz.t30.bytes⟩),
  (31,⟨Tryz.t31.desc,Tryz.t31.size,(Tryz.t31.zero).getD undef,Tryz.t31.bytes⟩),
  (32,⟨Tryz.t32.desc,Tryz.t32.size,(Tryz.t32.zero).getD undef,Tryz.t32.bytes⟩),
  (33,⟨Tryz.t33.desc,Tryz.t33.size,(Tryz.t33.zero).getD undef,Tryz.t33.bytes⟩),
  (34,⟨Tryz.t34.desc,Tryz.t34.size,(Tryz.t34.zero).getD undef,Tryz.t34.bytes⟩),
  (35,⟨Tryz.t35.desc,Tryz.t35.size,(Tryz.t35.zero).getD undef,Tryz.t35.bytes⟩),
  (36,⟨Tryz.t36.desc,Tryz.t36.size,(Tryz.t36.zero).getD undef,Tryz.t36.bytes⟩),
  (37,⟨Tryz.t37.desc,Tryz.t37.size,(Tryz.t37.zero).getD undef,Tryz.t37.bytes⟩),
  (38,⟨Tryz.t38.desc,Tryz.t38.size,(Tryz.t38.zero).getD undef,Tryz.t38.bytes⟩),
  (39,⟨Tryz.t38.desc,Tryz.t39.size,(Tryz.t39.zero).getD undef,Tryz.t39.bytes⟩),
  (40,⟨Tryz.t40.desc,Tryz.t40.size,(Tryz.t40.zero).getD undef,Tryz.t40.bytes⟩),
  (41,⟨Tryz.t41.desc,Tryz.t41.size,(Tryz.t41.zero).getD undef,Tryz.t41.bytes⟩),
  (42,⟨Tryz.t42.desc,Tryz.t42.size,(Tryz.t42.zero).getD undef,Tryz.t42.bytes⟩),
  (43,⟨Tryz.t43.desc,Tryz.t43.size,(Tryz.t43.zero).getD undef,Tryz.t43.bytes⟩),
  (44,⟨Tryz.t44.desc,Tryz.t44.size,(Tryz.t44.zero).getD undef,Tryz.t44.bytes⟩),
  (45,⟨Tryz.t44.desc,Tryz.t45.size,(Tryz.t45.zero).getD undef,Tryz.t45.bytes⟩),
  (46,⟨Tryz.t46.desc,Tryz.t46.size,(Tryz.t46.zero).getD undef,Tryz.t46.bytes⟩),
  (47,⟨Tryz.t47.desc,Tryz.t47.size,(Tryz.t47.zero).getD undef,Tryz.t47.bytes⟩),
  (48,⟨Tryz.t48.desc,Tryz.t48.size,(Tryz.t48.zero).getD undef,Tryz.t48.bytes⟩),
  (49,⟨Tryz.t48.desc,Tryz.t49.size,(Tryz.t49.zero).getD undef,Tryz.t49.bytes⟩),
  (50,⟨Tryz.t50.desc,Tryz.t50.size,(Tryz.t50.zero).getD undef,Tryz.t50.bytes⟩),
  (51,⟨Tryz.t51.desc,Tryz.t51.size,(Tryz.t51.zero).getD undef,Tryz.t51.bytes⟩),
  (52,⟨Tryz.t52.desc,Tryz.t52.size,(Tryz.t52.zero).getD undef,Tryz.t52.bytes⟩),
  (53,⟨Tryz.t53.desc,Tryz.t53.size,(Tryz.t53.zero).getD undef,Tryz.t53.bytes⟩),
  (54,⟨Tryz.t54.desc,Tryz.t54.size,(Tryz.t54.zero).getD undef,Tryz.t54.bytes⟩),
  (55,⟨Tryz.t55.desc,Tryz.t55.size,(Tryz.t55.zero).getD undef,Tryz.t55.bytes⟩),
  (56,⟨Tryz.t56.desc,Tryz.t56.size,(Tryz.t56.zero).getD undef,Tryz.t56.bytes⟩),
  (57,⟨Tryz.t57.desc,Tryz.t57.size,(Tryz.t57.zero).getD undef,Tryz.t57.bytes⟩),
  (58,⟨Tryz.t58.desc,Tryz.t58.size,(Tryz.t58.zero).getD undef,Tryz.t58.bytes⟩),
  (59,⟨Tryz.t58.desc,Tryz.t59.size,(Tryz.t59.zero).getD undef,Tryz.t59.bytes⟩),
  (60,⟨Tryz.t60.desc,Tryz.t60.size,(Tryz.t60.zero).getD undef,Tryz.t60.bytes⟩),
  (61,⟨Tryz.t61.desc,Tryz.t61.size,(Tryz.t61.zero).getD undef,Tryz.t61.bytes⟩),
  (62,⟨Tryz.t62.desc,Tryz.t62.size,(Tryz.t62.zero).getD undef,Tryz.t62.bytes⟩),
  (63,⟨Tryz.t63.desc,Tryz.t63.size,(Tryz.t63.zero).getD undef,Tryz.t63.bytes⟩),
  (64,⟨Tryz.t64.desc,Tryz.t64.size,(Tryz.t64.zero).getD undef,Tryz.t64.bytes⟩),
  (65,⟨Tryz.t65.desc,Tryz.t65.size,(Tryz.t65.zero).getD undef,Tryz.t65.bytes⟩),
  (66,⟨Tryz.t66.desc,Tryz.t66.size,(Tryz.t66.zero).getD undef,Tryz.t66.bytes⟩),
  (67,⟨Tryz.t67.desc,Tryz.t67.size,(Tryz.t67.zero).getD undef,Tryz.t67.bytes⟩),
  (68,⟨Tryz.t68.desc,Tryz.t68.size,(Tryz.t68.zero).getD undef,Tryz.t68.bytes⟩),
  (69,⟨Tryz.t69.desc,Tryz.t69.size,(Tryz.t69.zero).getD undef,Tryz.t69.bytes⟩),
  (70,⟨Tryz.t70.desc,Tryz.t70.size,(Tryz.t70.zero).getD undef,Tryz.t70.bytes⟩),
  (71,⟨Tryz.t71.desc,Tryz.t71.size,(Tryz.t71.zero).getD undef,Tryz.t71.bytes⟩),
  (72,⟨Tryz.t72.desc,Tryz.t72.size,(Tryz.t72.zero).getD undef,Tryz.t72.bytes⟩),
  (73,⟨Tryz.t73.desc,Tryz.t73.size,(Tryz.t73.zero).getD undef,Tryz.t73.bytes⟩),
  (74,⟨Tryz.t74.desc,Tryz.t74.size,(Tryz.t74.zero).getD undef,Tryz.t74.bytes⟩),
  (75,⟨Tryz.t75.desc,Tryz.t75.size,(Tryz.t75.zero).getD undef,Tryz.t75.bytes⟩),
  (76,⟨Tryz.t75.desc,Tryz.t76.size,(Tryz.t76.zero).getD undef,Tryz.t76.bytes⟩),
  (77,⟨Tryz.t77.desc,Tryz.t77.size,(Tryz.t77.zero).getD undef,Tryz.t77.bytes⟩),
  (78,⟨Tryz.t78.desc,Tryz.t78.size,(Tryz.t78.zero).getD undef,Tryz.t78.bytes⟩),
  (79,⟨Tryz.t79.desc,Tryz.t79.size,(Tryz.t79.zero).getD undef,Tryz.t79.bytes⟩),
  (80,⟨Tryz.t80.desc,Tryz.t80.size,(Tryz.t80.zero).getD undef,Tryz.t80.bytes⟩),
  (81,⟨Tryz.t81.desc,Tryz.t81.size,(Tryz.t81.zero).getD undef,Tryz.t81.bytes⟩),
  (82,⟨Tryz.t82.desc,Tryz.t82.size,(Tryz.t82.zero).getD undef,Tryz.t82.bytes⟩),
  (83,⟨Tryz.t82.desc,Tryz.t83.size,(Tryz.t83.zero).getD undef,Tryz.t83.bytes⟩),
  (84,⟨Tryz.t84.desc,Tryz.t84.size,(Tryz.t84.zero).getD undef,Tryz.t84.bytes⟩),
  (85,⟨Tryz.t84.desc,Tryz.t85.size,(Tryz.t85.zero).getD undef,Tryz.t85.bytes⟩),
  (86,⟨Tryz.t86.desc,Tryz.t86.size,(Tryz.t86.zero).getD undef,Tryz.t86.bytes⟩),
  (87,⟨Tryz.t86.desc,Tryz.t87.size,(Tryz.t87.zero).getD undef,Tryz.t87.bytes⟩),
  (88,⟨Tryz.t88.desc,Tryz.t88.size,(Tryz.t88.zero).getD undef,Tryz.t88.bytes⟩),
  (89,⟨Tryz.t89.desc,Tryz.t89.size,(Tryz.t89.zero).getD undef,Tryz.t89.bytes⟩),
  (90,⟨Tryz.t90.desc,Tryz.t90.size,(Tryz.t90.zero).getD undef,Tryz.t90.bytes⟩),
  (91,⟨Tryz.t91.desc,Tryz.t91.size,(Tryz.t91.zero).getD undef,Tryz.t91.bytes⟩),
  (92,⟨Tryz.t92.desc,Tryz.t92.size,(Tryz.t92.zero).getD undef,Tryz.t92.bytes⟩),
  (93,⟨Tryz.t93.desc,Tryz.t93.size,(Tryz.t93.zero).getD undef,Tryz.t93.bytes⟩),
  (94,⟨Tryz.t94.desc,Tryz.t94.size,(Tryz.t94.zero).getD undef,Tryz.t94.bytes⟩),
  (95,⟨Tryz.t95.desc,Tryz.t95.size,(Tryz.t95.zero).getD undef,Tryz.t95.bytes⟩),
  (96,⟨Tryz.t96.desc,Tryz.t96.size,(Tryz.t96.zero).getD undef,Tryz.t96.bytes⟩),
  (97,⟨Tryz.t97.desc,Tryz.t97.size,(Tryz.t97.zero).getD undef,Tryz.t97.bytes⟩),
  (98,⟨Tryz.t98.desc,Tryz.t98.size,(Tryz.t98.zero).getD undef,Tryz.t98.bytes⟩),
  (99,⟨Tryz.t99.desc,Tryz.t99.size,(Tryz.t99.zero).getD undef,Tryz.t99.bytes⟩),
  (100,⟨Tryz.t100.desc,Tryz.t100.size,(Tryz.t100.zero).getD undef,Tryz.t100.bytes⟩),
  (101,⟨Tryz.t101.desc,Tryz.t101.size,(Tryz.t101.zero).getD undef,Tryz.t101.bytes⟩),
  (102,⟨Tryz.t102.desc,Tryz.t102.size,(Tryz.t102.zero).getD undef,Tryz.t102.bytes⟩),
  (103,⟨Tryz.t103.desc,Tryz.t103.size,(Tryz.t103.zero).getD undef,Tryz.t103.bytes⟩),
  (104,⟨Tryz.t104.desc,Tryz.t104.size,(Tryz.t104.zero).getD undef,Tryz.t104.bytes⟩),
  (105,⟨Tryz.t105.desc,Tryz.t105.size,(Tryz.t105.zero).getD undef,Tryz.t105.bytes⟩),
  (106,⟨Tryz.t106.desc,Tryz.t106.size,(Tryz.t106.zero).getD undef,Tryz.t106.bytes⟩),
  (107,⟨Tryz.t106.desc,Tryz.t107.size,(Tryz.t107.zero).getD undef,Tryz.t107.bytes⟩),
  (108,⟨Tryz.t108.desc,Tryz.t108.size,(Tryz.t108.zero).getD undef,Tryz.t108.bytes⟩),
  (109,⟨Tryz.t109.desc,Tryz.t109.size,(Tryz.t109.zero).getD undef,Tryz.t109.bytes⟩),
  (110,⟨Tryz.t110.desc,Tryz.t110.size,(Tryz.t110.zero).getD undef,Tryz.t110.bytes⟩),
  (111,⟨Tryz.t111.desc,Tryz.t111.size,(Tryz.t111.zero).getD undef,Tryz.t111.bytes⟩),
  (112,⟨Tryz.t112.desc,Tryz.t112.size,(Tryz.t112.zero).getD undef,Tryz.t112.bytes⟩),
  (113,⟨Tryz.t113.desc,Tryz.t113.size,(Tryz.t113.zero).getD undef,Tryz.t113.bytes⟩),
  (114,⟨Tryz.t114.desc,Tryz.t114.size,(Tryz.t114.zero).getD undef,Tryz.t114.bytes⟩),
  (115,⟨Tryz.t115.desc,Tryz.t115.size,(Tryz.t115.zero).getD undef,Tryz.t115.bytes⟩),
  (116,⟨Tryz.t115.desc,Tryz.t116.size,(Tryz.t116.zero).getD undef,Tryz.t116.bytes⟩),
  (117,⟨Tryz.t117.desc,Tryz.t117.size,(Tryz.t117.zero).getD undef,Tryz.t117.bytes⟩),
  (118,⟨Tryz.t118.desc,Tryz.t118.size,(Tryz.t118.zero).getD undef,Tryz.t118.bytes⟩),
  (119,⟨Tryz.t119.desc,Tryz.t119.size,(Tryz.t119.zero).getD undef,Tryz.t119.bytes⟩),
  (120,⟨Tryz.t120.desc,Tryz.t120.size,(Tryz.t120.zero).getD undef,Tryz.t120.bytes⟩),
  (121,⟨Tryz.t121.desc,Tryz.t121.size,(Tryz.t121.zero).getD undef,Tryz.t121.bytes⟩),
  (122,⟨Tryz.t121.desc,Tryz.t122.size,(Tryz.t122.zero).getD undef,Tryz.t122.bytes⟩),
  (123,⟨Tryz.t123.desc,Tryz.t123.size,(Tryz.t123.zero).getD undef,Tryz.t123.bytes⟩),
  (124,⟨Tryz.t124.desc,Tryz.t124.size,(Tryz.t124.zero).getD undef,Tryz.t124.bytes⟩),
  (125,⟨Tryz.t125.desc,Tryz.t125.size,(Tryz.t125.zero).getD undef,Tryz.t125.bytes⟩),
  (126,⟨Tryz.t126.desc,Tryz.t126.size,(Tryz.t126.zero).getD undef,Tryz.t126.bytes⟩),
  (127,⟨Tryz.t127.desc,Tryz.t127.size,(Tryz.t127.zero).getD undef,Tryz.t127.bytes⟩),
  (128,⟨Tryz.t127.desc,Tryz.t128.size,(Tryz.t128.zero).getD undef,Tryz.t128.bytes⟩),
  (129,⟨Tryz.t129.desc,Tryz.t129.size,(Tryz.t129.zero).getD undef,Tryz.t129.bytes⟩),
  (130,⟨Tryz.t130.desc,Tryz.t130.size,(Tryz.t130.zero).getD undef,Tryz.t130.bytes⟩),
  (131,⟨Tryz.t131.desc,Tryz.t131.size,(Tryz.t131.zero).getD undef,Tryz.t131.bytes⟩),
  (132,⟨Tryz.t132.desc,Tryz.t132.size,(Tryz.t132.zero).getD undef,Tryz.t132.bytes⟩),
  (133,⟨Tryz.t133.desc,Tryz.t133.size,(Tryz.t133.zero).getD undef,Tryz.t133.bytes⟩),
  (134,⟨Tryz.t134.desc,Tryz.t134.size,(Tryz.t134.zero).getD undef,Tryz.t134.bytes⟩),
  (135,⟨Tryz.t135.desc,Tryz.t135.size,(Tryz.t135.zero).getD undef,Tryz.t135.bytes⟩),
  (136,⟨Tryz.t136.desc,Tryz.t136.size,(Tryz.t136.zero).getD undef,Tryz.t136.bytes⟩),
  (137,⟨Tryz.t137.desc,Tryz.t137.size,(Tryz.t137.zero).getD undef,Tryz.t137.bytes⟩),
  (138,⟨Tryz.t138.desc,Tryz.t138.size,(Tryz.t138.zero).getD undef,Tryz.t138.bytes⟩),
  (139,⟨Tryz.t139.desc,Tryz.t139.size,(Tryz.t139.zero).getD undef,Tryz.t139.bytes⟩),
  (140,⟨Tryz.t139.desc,Tryz.t140.size,(Tryz.t140.zero).getD undef,Tryz.t140.bytes⟩),
  (141,⟨Tryz.t141.desc,Tryz.t141.size,(Tryz.t141.zero).getD undef,Tryz.t141.bytes⟩),
  (142,⟨Tryz.t142.desc,Tryz.t142.size,(Tryz.t142.zero).getD undef,Tryz.t142.bytes⟩),
  (143,⟨Tryz.t142.desc,Tryz.t143.size,(Tryz.t143.zero).getD undef,Tryz.t143.bytes⟩),
  (144,⟨Tryz.t144.desc,Tryz.t144.size,(Tryz.t144.zero).getD undef,Tryz.t144.bytes⟩),
  (145,⟨Tryz.t145.desc,Tryz.t145.size,(Tryz.t145.zero).getD undef,Tryz.t145.bytes⟩),
  (146,⟨Tryz.t146.desc,Tryz.t146.size,(Tryz.t146.zero).getD undef,Tryz.t146.bytes⟩),
  (147,⟨Tryz.t147.desc,Tryz.t147.size,(Tryz.t147.zero).getD undef,Tryz.t147.bytes⟩),
  (148,⟨Tryz.t148.desc,Tryz.t148.size,(Tryz.t148.zero).getD undef,Tryz.t148.bytes⟩),
  (149,⟨Tryz.t149.desc,Tryz.t149.size,(Tryz.t149.zero).getD undef,Tryz.t149.bytes⟩),
  (150,⟨Tryz.t149.desc,Tryz.t150.size,(Tryz.t150.zero).getD undef,Tryz.t150.bytes⟩),
  (151,⟨Tryz.t151.desc,Tryz.t151.size,(Tryz.t151.zero).getD undef,Tryz.t151.bytes⟩),
  (152,⟨Tryz.t151.desc,Tryz.t152.size,(Tryz.t152.zero).getD undef,Tryz.t152.bytes⟩),
  (153,⟨Tryz.t153.desc,Tryz.t153.size,(Tryz.t153.zero).getD undef,Tryz.t153.bytes⟩),
  (154,⟨Tryz.t154.desc,Tryz.t154.size,(Tryz.t154.zero).getD undef,Tryz.t154.bytes⟩),
  (155,⟨Tryz.t154.desc,Tryz.t155.size,(Tryz.t155.zero).getD undef,Tryz.t155.bytes⟩),
  (156,⟨Tryz.t156.desc,Tryz.t156.size,(Tryz.t156.zero).getD undef,Tryz.t156.bytes⟩),
  (157,⟨Tryz.t157.desc,Tryz.t157.size,(Tryz.t157.zero).getD undef,Tryz.t157.bytes⟩),
  (158,⟨Tryz.t158.desc,Tryz.t158.size,(Tryz.t158.zero).getD undef,Tryz.t158.bytes⟩),
  (159,⟨Tryz.t159.desc,Tryz.t159.size,(Tryz.t159.zero).getD undef,Tryz.t159.bytes⟩),
  (160,⟨Tryz.t160.desc,Tryz.t160.size,(Tryz.t160.zero).getD undef,Tryz.t160.bytes⟩),
  (161,⟨Tryz.t161.desc,Tryz.t161.size,(Tryz.t161.zero).getD undef,Tryz.t161.bytes⟩),
  (162,⟨Tryz.t162.desc,Tryz.t162.size,(Tryz.t162.zero).getD undef,Tryz.t162.bytes⟩),
  (163,⟨Tryz.t163.desc,Tryz.t163.size,(Tryz.t163.zero).getD undef,Tryz.t163.bytes⟩),
  (164,⟨Tryz.t164.desc,Tryz.t164.size,(Tryz.t164.zero).getD undef,Tryz.t164.bytes⟩),
  (165,⟨Tryz.t165.desc,Tryz.t165.size,(Tryz.t165.zero).getD undef,Tryz.t165.bytes⟩),
  (166,⟨Tryz.t166.desc,Tryz.t166.size,(Tryz.t166.zero).getD undef,Tryz.t166.bytes⟩),
  (167,⟨Tryz.t167.desc,Tryz.t167.size,(Tryz.t167.zero).getD undef,Tryz.t167.bytes⟩),
  (168,⟨Tryz.t168.desc,Tryz.t168.size,(Tryz.t168.zero).getD undef,Tryz.t168.bytes⟩),
  (169,⟨Tryz.t169.desc,Tryz.t169.size,(Tryz.t169.zero).getD undef,Tryz.t169.bytes⟩),
  (170,⟨Tryz.t170.desc,Tryz.t170.size,(Tryz.t170.zero).getD undef,Tryz.t170.bytes⟩),
  (171,⟨Tryz.t171.desc,Tryz.t171.size,(Tryz.t171.zero).getD undef,Tryz.t171.bytes⟩),
  (172,⟨Tryz.t172.desc,Tryz.t172.size,(Tryz.t172.zero).getD undef,Tryz.t172.bytes⟩),
  (173,⟨Tryz.t173.desc,Tryz.t173.size,(Tryz.t173.zero).getD undef,Tryz.t173.bytes⟩),
  (174,⟨Tryz.t174.desc,Tryz.t174.size,(Tryz.t174.zero).getD undef,Tryz.t174.bytes⟩),
  (175,⟨Tryz.t175.desc,Tryz.t175.size,(Tryz.t175.zero).getD undef,Tryz.t175.bytes⟩),
  (176,⟨Tryz.t176.desc,Tryz.t176.size,(Tryz.t176.zero).getD undef,Tryz.t176.bytes⟩),
  (177,⟨Tryz.t177.desc,Tryz.t177.size,(Tryz.t177.zero).getD undef,Tryz.t177.bytes⟩),
  (178,⟨Tryz.t178.desc,Tryz.t178.size,(Tryz.t178.zero).getD undef,Tryz.t178.bytes⟩),
  (179,⟨Tryz.t179.desc,Tryz.t179.size,(Tryz.t179.zero).getD undef,Tryz.t179.bytes⟩),
  (180,⟨Tryz.t180.desc,Tryz.t180.size,(Tryz.t180.zero).getD undef,Tryz.t180.bytes⟩),
  (181,⟨Tryz.t180.desc,Tryz.t181.size,(Tryz.t181.zero).getD undef,Tryz.t181.bytes⟩),
  (182,⟨Tryz.t182.desc,Tryz.t182.size,(Tryz.t182.zero).getD undef,Tryz.t182.bytes⟩),
  (183,⟨Tryz.t183.desc,Tryz.t183.size,(Tryz.t183.zero).getD undef,Tryz.t183.bytes⟩),
  (184,⟨Tryz.t183.desc,Tryz.t184.size,(Tryz.t184.zero).getD undef,Tryz.t184.bytes⟩),
  (185,⟨Tryz.t185.desc,Tryz.t185.size,(Tryz.t185.zero).getD undef,Tryz.t185.bytes⟩),
  (186,⟨Tryz.t186.desc,Tryz.t186.size,(Tryz.t186.zero).getD undef,Tryz.t186.bytes⟩),
  (187,⟨Tryz.t187.desc,Tryz.t187.size,(Tryz.t187.zero).getD undef,Tryz.t187.bytes⟩),
  (188,⟨Tryz.t188.desc,Tryz.t188.size,(Tryz.t188.zero).getD undef,Tryz.t188.bytes⟩),
  (189,⟨Tryz.t189.desc,Tryz.t189.size,(Tryz.t189.zero).getD undef,Tryz.t189.bytes⟩),
  (190,⟨Tryz.t190.desc,Tryz.t190.size,(Tryz.t190.zero).getD undef,Tryz.t190.bytes⟩),
  (191,⟨Tryz.t191.desc,Tryz.t191.size,(Tryz.t191.zero).getD undef,Tryz.t191.bytes⟩),
  (192,⟨Tryz.t191.desc,Tryz.t192.size,(Tryz.t192.zero).getD undef,Tryz.t192.bytes⟩),
  (193,⟨Tryz.t193.desc,Tryz.t193.size,(Tryz.t193.zero).getD undef,Tryz.t193.bytes⟩),
  (194,⟨Tryz.t194.desc,Tryz.t194.size,(Tryz.t194.zero).getD undef,Tryz.t194.bytes⟩),
  (195,⟨Tryz.t195.desc,Tryz.t195.size,(Tryz.t195.zero).getD undef,Tryz.t195.bytes⟩),
  (196,⟨Tryz.t196.desc,Tryz.t196.size,(Tryz.t196.zero).getD undef,Tryz.t196.bytes⟩),
  (197,⟨Tryz.t197.desc,Tryz.t197.size,(Tryz.t197.zero).getD undef,Tryz.t197.bytes⟩),
  (198,⟨Tryz.t198.desc,Tryz.t198.size,(Tryz.t198.zero).getD undef,Tryz.t198.bytes⟩),
  (199,⟨Tryz.t199.desc,Tryz.t199.size,(Tryz.t199.zero).getD undef,Tryz.t199.bytes⟩),
  (200,⟨Tryz.t200.desc,Tryz.t200.size,(Tryz.t200.zero).getD undef,Tryz.t200.bytes⟩),
  (201,⟨Tryz.t201.desc,Tryz.t201.size,(Tryz.t201.zero).getD undef,Tryz.t201.bytes⟩),
  (202,⟨Tryz.t202.desc,Tryz.t202.size,(Tryz.t202.zero).getD undef,Tryz.t202.bytes⟩),
  (203,⟨Tryz.t203.desc,Tryz.t203.size,(Tryz.t203.zero).getD undef,Tryz.t203.bytes⟩),
  (204,⟨Tryz.t204.desc,Tryz.t204.size,(Tryz.t204.zero).getD undef,Tryz.t204.bytes⟩),
  (205,⟨Tryz.t205.desc,Tryz.t205.size,(Tryz.t205.zero).getD undef,Tryz.t205.bytes⟩),
  (206,⟨Tryz.t206.desc,Tryz.t206.size,(Tryz.t206.zero).getD undef,Tryz.t206.bytes⟩),
  (207,⟨Tryz.t207.desc,Tryz.t207.size,(Tryz.t207.zero).getD undef,Tryz.t207.bytes⟩),
  (208,⟨Tryz.t208.desc,Tryz.t208.size,(Tryz.t208.zero).getD undef,Tryz.t208.bytes⟩),
  (209,⟨Tryz.t209.desc,Tryz.t209.size,(Tryz.t209.zero).getD undef,Tryz.t209.bytes⟩),
  (210,⟨Tryz.t210.desc,Tryz.t210.size,(Tryz.t210.zero).getD undef,Tryz.t210.bytes⟩),
  (211,⟨Tryz.t210.desc,Tryz.t211.size,(Tryz.t211.zero).getD undef,Tryz.t211.bytes⟩),
  (212,⟨Tryz.t212.desc,Tryz.t212.size,(Tryz.t212.zero).getD undef,Tryz.t212.bytes⟩),
  (213,⟨Tryz.t213.desc,Tryz.t213.size,(Tryz.t213.zero).getD undef,Tryz.t213.bytes⟩),
  (214,⟨Tryz.t214.desc,Tryz.t214.size,(Tryz.t214.zero).getD undef,Tryz.t214.bytes⟩),
  (215,⟨Tryz.t215.desc,Tryz.t215.size,(Tryz.t215.zero).getD undef,Tryz.t215.bytes⟩),
  (216,⟨Tryz.t216.desc,Tryz.t216.size,(Tryz.t216.zero).getD undef,Tryz.t216.bytes⟩),
  (217,⟨Tryz.t217.desc,Tryz.t217.size,(Tryz.t217.zero).getD undef,Tryz.t217.bytes⟩),
  (218,⟨Tryz.t217.desc,Tryz.t218.size,(Tryz.t218.zero).getD undef,Tryz.t218.bytes⟩),
  (219,⟨Tryz.t219.desc,Tryz.t219.size,(Tryz.t219.zero).getD undef,Tryz.t219.bytes⟩),
  (220,⟨Tryz.t220.desc,Tryz.t220.size,(Tryz.t220.zero).getD undef,Tryz.t220.bytes⟩),
  (221,⟨Tryz.t221.desc,Tryz.t221.size,(Tryz.t221.zero).getD undef,Tryz.t221.bytes⟩),
  (222,⟨Tryz.t222.desc,Tryz.t222.size,(Tryz.t222.zero).getD undef,Tryz.t222.bytes⟩),
  (223,⟨Tryz.t223.desc,Tryz.t223.size,(Tryz.t223.zero).getD undef,Tryz.t223.bytes⟩),
  (224,⟨Tryz.t224.desc,Tryz.t224.size,(Tryz.t224.zero).getD undef,Tryz.t224.bytes⟩),
  (225,⟨Tryz.t225.desc,Tryz.t225.size,(Tryz.t225.zero).getD undef,Tryz.t225.bytes⟩),
  (226,⟨Tryz.t225.desc,Tryz.t226.size,(Tryz.t226.zero).getD undef,Tryz.t226.bytes⟩),
  (227,⟨Tryz.t227.desc,Tryz.t227.size,(Tryz.t227.zero).getD undef,Tryz.t227.bytes⟩),
  (228,⟨Tryz.t227.desc,Tryz.t228.size,(Tryz.t228.zero).getD undef,Tryz.t228.bytes⟩),
  (229,⟨Tryz.t229.desc,Tryz.t229.size,(Tryz.t229.zero).getD undef,Tryz.t229.bytes⟩),
  (230,⟨Tryz.t230.desc,Tryz.t230.size,(Tryz.t230.zero).getD undef,Tryz.t230.bytes⟩),
  (231,⟨Tryz.t231.desc,Tryz.t231.size,(Tryz.t231.zero).getD undef,Tryz.t231.bytes⟩),
  (232,⟨Tryz.t232.desc,Tryz.t232.size,(Tryz.t232.zero).getD undef,Tryz.t232.bytes⟩),
  (233,⟨Tryz.t233.desc,Tryz.t233.size,(Tryz.t233.zero).getD undef,Tryz.t233.bytes⟩),
  (234,⟨Tryz.t234.desc,Tryz.t234.size,(Tryz.t234.zero).getD undef,Tryz.t234.bytes⟩),
  (235,⟨Tryz.t235.desc,Tryz.t235.size,(Tryz.t235.zero).getD undef,Tryz.t235.bytes⟩),
  (236,⟨Tryz.t236.desc,Tryz.t236.size,(Tryz.t236.zero).getD undef,Tryz.t236.bytes⟩),
  (237,⟨Tryz.t237.desc,Tryz.t237.size,(Tryz.t237.zero).getD undef,Tryz.t237.bytes⟩),
  (238,⟨Tryz.t238.desc,Tryz.t238.size,(Tryz.t238.zero).getD undef,Tryz.t238.bytes⟩),
  (239,⟨Tryz.t239.desc,Tryz.t239.size,(Tryz.t239.zero).getD undef,Tryz.t239.bytes⟩),
  (240,⟨Tryz.t240.desc,Tryz.t240.size,(Tryz.t240.zero).getD undef,Tryz.t240.bytes⟩),
  (241,⟨Tryz.t241.desc,Tryz.t241.size,(Tryz.t241.zero).getD undef,Tryz.t241.bytes⟩),
  (242,⟨Tryz.t242.desc,Tryz.t242.size,(Tryz.t242.zero).getD undef,Tryz.t242.bytes⟩),
  (243,⟨Tryz.t243.desc,Tryz.t243.size,(Tryz.t243.zero).getD undef,Tryz.t243.bytes⟩),
  (244,⟨Tryz.t244.desc,Tryz.t244.size,(Tryz.t244.zero).getD undef,Tryz.t244.bytes⟩),
  (245,⟨Tryz.t245.desc,Tryz.t245.size,(Tryz.t245.zero).getD undef,Tryz.t245.bytes⟩),
  (246,⟨Tryz.t246.desc,Tryz.t246.size,(Tryz.t246.zero).getD undef,Tryz.t246.bytes⟩),
  (247,⟨Tryz.t247.desc,Tryz.t247.size,(Tryz.t247.zero).getD undef,Tryz.t247.bytes⟩),
  (248,⟨Tryz.t248.desc,Tryz.t248.size,(Tryz.t248.zero).getD undef,Tryz.t248.bytes⟩),
  (249,⟨Tryz.t249.desc,Tryz.t249.size,(Tryz.t249.zero).getD undef,Tryz.t249.bytes⟩),
  (250,⟨Tryz.t250.desc,Tryz.t250.size,(Tryz.t250.zero).getD undef,Tryz.t250.bytes⟩),
  (251,⟨Tryz.t251.desc,Tryz.t251.size,(Tryz.t251.zero).getD undef,Tryz.t251.bytes⟩),
  (252,⟨Tryz.t252.desc,Tryz.t252.size,(Tryz.t252.zero).getD undef,Tryz.t252.bytes⟩),
  (253,⟨Tryz.t253.desc,Tryz.t253.size,(Tryz.t253.zero).getD undef,Tryz.t253.bytes⟩),
  (254,⟨Tryz.t254.desc,Tryz.t254.size,(Tryz.t254.zero).getD undef,Tryz.t254.bytes⟩),
  (255,⟨Tryz.t255.desc,Tryz.t255.size,(Tryz.t255.zero).getD undef,Tryz.t255.bytes⟩),
  (256,⟨Tryz.t256.desc,Tryz.t256.size,(Tryz.t256.zero).getD undef,Tryz.t256.bytes⟩),
  (257,⟨Tryz.t257.desc,Tryz.t257.size,(Tryz.t257.zero).getD undef,Tryz.t257.bytes⟩),
  (258,⟨Tryz.t258.desc,Tryz.t258.size,(Tryz.t258.zero).getD undef,Tryz.t258.bytes⟩),
  (259,⟨Tryz.t259.desc,Tryz.t259.size,(Tryz.t259.zero).getD undef,Tryz.t259.bytes⟩),
  (260,⟨Tryz.t260.desc,Tryz.t260.size,(Tryz.t260.zero).getD undef,Tryz.t260.bytes⟩),
  (261,⟨Tryz.t261.desc,Tryz.t261.size,(Tryz.t261.zero).getD undef,Tryz.t261.bytes⟩),
  (262,⟨Tryz.t262.desc,Tryz.t262.size,(Tryz.t262.zero).getD undef,Tryz.t262.bytes⟩),
  (263,⟨Tryz.t263.desc,Tryz.t263.size,(Tryz.t263.zero).getD undef,Tryz.t263.bytes⟩),
  (264,⟨Tryz.t264.desc,Tryz.t264.size,(Tryz.t264.zero).getD undef,Tryz.t264.bytes⟩),
  (265,⟨Tryz.t265.desc,Tryz.t265.size,(Tryz.t265.zero).getD undef,Tryz.t265.bytes⟩),
  (266,⟨Tryz.t266.desc,Tryz.t266.size,(Tryz.t266.zero).getD undef,Tryz.t266.bytes⟩),
  (267,⟨Tryz.t267.desc,Tryz.t267.size,(Tryz.t267.zero).getD undef,Tryz.t267.bytes⟩),
  (268,⟨Tryz.t268.desc,Tryz.t268.size,(Tryz.t268.zero).getD undef,Tryz.t268.bytes⟩),
  (269,⟨Tryz.t269.desc,Tryz.t269.size,(Tryz.t269.zero).getD undef,Tryz.t269.bytes⟩),
  (270,⟨Tryz.t3.desc,Tryz.t270.size,(Tryz.t270.zero).getD undef,Tryz.t270.bytes⟩),
  (271,⟨Tryz.t271.desc,Tryz.t271.size,(Tryz.t271.zero).getD undef,Tryz.t271.bytes⟩),
  (272,⟨Tryz.t272.desc,Tryz.t272.size,(Tryz.t272.zero).getD undef,Tryz.t272.bytes⟩),
  (273,⟨Tryz.t273.desc,Tryz.t273.size,(Tryz.t273.zero).getD undef,Tryz.t273.bytes⟩),
  (274,⟨Tryz.t274.desc,Tryz.t274.size,(Tryz.t274.zero).getD undef,Tryz.t274.bytes⟩),
  (275,⟨Tryz.t275.desc,Tryz.t275.size,(Tryz.t275.zero).getD undef,Tryz.t275.bytes⟩),
  (276,⟨Tryz.t276.desc,Tryz.t276.size,(Tryz.t276.zero).getD undef,Tryz.t276.bytes⟩),
  (277,⟨Tryz.t277.desc,Tryz.t277.size,(Tryz.t277.zero).getD undef,Tryz.t277.bytes⟩),
  (278,⟨Tryz.t278.desc,Tryz.t278.size,(Tryz.t278.zero).getD undef,Tryz.t278.bytes⟩),
  (279,⟨Tryz.t279.desc,Tryz.t279.size,(Tryz.t279.zero).getD undef,Tryz.t279.bytes⟩),
  (280,⟨Tryz.t280.desc,Tryz.t280.size,(Tryz.t280.zero).getD undef,Tryz.t280.bytes⟩),
  (281,⟨Tryz.t281.desc,Tryz.t281.size,(Tryz.t281.zero).getD undef,Tryz.t281.bytes⟩),
  (282,⟨Tryz.t282.desc,Tryz.t282.size,(Tryz.t282.zero).getD undef,Tryz.t282.bytes⟩),
  (283,⟨Tryz.t283.desc,Tryz.t283.size,(Tryz.t283.zero).getD undef,Tryz.t283.bytes⟩),
  (284,⟨Tryz.t284.desc,Tryz.t284.size,(Tryz.t284.zero).getD undef,Tryz.t284.bytes⟩),
  (285,⟨Tryz.t285.desc,Tryz.t285.size,(Tryz.t285.zero).getD undef,Tryz.t285.bytes⟩),
  (286,⟨Tryz.t286.desc,Tryz.t286.size,(Tryz.t286.zero).getD undef,Tryz.t286.bytes⟩),
  (287,⟨Tryz.t287.desc,Tryz.t287.size,(Tryz.t287.zero).getD undef,Tryz.t287.bytes⟩),
  (288,⟨Tryz.t288.desc,Tryz.t288.size,(Tryz.t288.zero).getD undef,Tryz.t288.bytes⟩),
  (289,⟨Tryz.t289.desc,Tryz.t289.size,(Tryz.t289.zero).getD undef,Tryz.t289.bytes⟩),
  (290,⟨Tryz.t290.desc,Tryz.t290.size,(Tryz.t290.zero).getD undef,Tryz.t290.bytes⟩),
  (291,⟨Tryz.t135.desc,Tryz.t291.size,(Tryz.t291.zero).getD undef,Tryz.t291.bytes⟩),
  (292,⟨Tryz.t292.desc,Tryz.t292.size,(Tryz.t292.zero).getD undef,Tryz.t292.bytes⟩),
  (293,⟨Tryz.t293.desc,Tryz.t293.size,(Tryz.t293.zero).getD undef,Tryz.t293.bytes⟩),
  (294,⟨Tryz.t294.desc,Tryz.t294.size,(Tryz.t294.zero).getD undef,Tryz.t294.bytes⟩),
  (295,⟨Tryz.t295.desc,Tryz.t295.size,(Tryz.t295.zero).getD undef,Tryz.t295.bytes⟩),
  (296,⟨Tryz.t296.desc,Tryz.t296.size,(Tryz.t296.zero).getD undef,Tryz.t296.bytes⟩),
  (297,⟨Tryz.t297.desc,Tryz.t297.size,(Tryz.t297.zero).getD undef,Tryz.t297.bytes⟩),
  (298,⟨Tryz.t298.desc,Tryz.t298.size,(Tryz.t298.zero).getD undef,Tryz.t298.bytes⟩),
  (299,⟨Tryz.t299.desc,Tryz.t299.size,(Tryz.t299.zero).getD undef,Tryz.t299.bytes⟩),
  (300,⟨Tryz.t300.desc,Tryz.t300.size,(Tryz.t300.zero).getD undef,Tryz.t300.bytes⟩),
  (301,⟨Tryz.t301.desc,Tryz.t301.size,(Tryz.t301.zero).getD undef,Tryz.t301.bytes⟩),
  (302,⟨Tryz.t302.desc,Tryz.t302.size,(Tryz.t302.zero).getD undef,Tryz.t302.bytes⟩),
  (303,⟨Tryz.t303.desc,Tryz.t303.size,(Tryz.t303.zero).getD undef,Tryz.t303.bytes⟩),
  (304,⟨Tryz.t304.desc,Tryz.t304.size,(Tryz.t304.zero).getD undef,Tryz.t304.bytes⟩),
  (305,⟨Tryz.t305.desc,Tryz.t305.size,(Tryz.t305.zero).getD undef,Tryz.t305.bytes⟩),
  (306,⟨Tryz.t306.desc,Tryz.t306.size,(Tryz.t306.zero).getD undef,Tryz.t306.bytes⟩),
  (307,⟨Tryz.t307.desc,Tryz.t307.size,(Tryz.t307.zero).getD undef,Tryz.t307.bytes⟩),
  (308,⟨Tryz.t308.desc,Tryz.t308.size,(Tryz.t308.zero).getD undef,Tryz.t308.bytes⟩),
  (309,⟨Tryz.t309.desc,Tryz.t309.size,(Tryz.t309.zero).getD undef,Tryz.t309.bytes⟩),
  (310,⟨Tryz.t310.desc,Tryz.t310.size,(Tryz.t310.zero).getD undef,Tryz.t310.bytes⟩),
  (311,⟨Tryz.t310.desc,Tryz.t311.size,(Tryz.t311.zero).getD undef,Tryz.t311.bytes⟩),
  (312,⟨Tryz.t312.desc,Tryz.t312.size,(Tryz.t312.zero).getD undef,Tryz.t312.bytes⟩),
  (313,⟨Tryz.t313.desc,Tryz.t313.size,(Tryz.t313.zero).getD undef,Tryz.t313.bytes⟩),
  (314,⟨Tryz.t313.desc,Tryz.t314.size,(Tryz.t314.zero).getD undef,Tryz.t314.bytes⟩),
  (315,⟨Tryz.t5.desc,Tryz.t315.size,(Tryz.t315.zero).getD undef,Tryz.t315.bytes⟩),
  (316,⟨Tryz.t5.desc,Tryz.t316.size,(Tryz.t316.zero).getD undef,Tryz.t316.bytes⟩),
  (317,⟨Tryz.t317.desc,Tryz.t317.size,(Tryz.t317.zero).getD undef,Tryz.t317.bytes⟩),
  (318,⟨Tryz.t318.desc,Tryz.t318.size,(Tryz.t318.zero).getD undef,Tryz.t318.bytes⟩),
  (319,⟨Tryz.t21.desc,Tryz.t319.size,(Tryz.t319.zero).getD undef,Tryz.t319.bytes⟩),
  (320,⟨Tryz.t21.desc,Tryz.t320.size,(Tryz.t320.zero).getD undef,Tryz.t320.bytes⟩),
  (321,⟨Tryz.t321.desc,Tryz.t321.size,(Tryz.t321.zero).getD undef,Tryz.t321.bytes⟩),
  (322,⟨Tryz.t321.desc,Tryz.t322.size,(Tryz.t322.zero).getD undef,Tryz.t322.bytes⟩),
  (323,⟨Tryz.t323.desc,Tryz.t323.size,(Tryz.t323.zero).getD undef,Tryz.t323.bytes⟩)]
set_option maxRecDepth 100000 in
theorem tabOk:TabOk Tryz.prog tab:=.of (by kernel_rfl)
end Go.Proofs.YtegdcjnjnoeinaaGreat
namespace Go.Proofs.YtegdcjnjnoeinaaGreat
open Go.RowKit Go.Sl
structure Hd where
  a:Option Addr
  len:Nat
  cap:Nat
@[reducible] def Hd.v (h:Hd):Value:=.slice h.a h.len h.cap
structure Gate where
  on:Bool
  left:Int
structure DRec where
  safe:Hd
  now:Hd
  writes:Hd
  count:Int
  down:Bool
  arm:Gate
  fault:Gate
@[reducible] def DRec.cells (d:DRec):List Value:=[d.safe.v,d.now.v,d.writes.v,.int .i64 d.count,.bool d.down,.bool d.arm.on,.int .i64 d.arm.left,.bool d.fault.on,.int .i64 d.fault.left]
@[reducible] def dChunk (b:Nat) (d:DRec):List Blk:=[(b,row d.cells 152)]
def Gate.Ok (g:Gate):Prop:=g.on=true→0≤g.left∧g.left≤9223372036854775807
def Gate.step (g:Gate):Gate × Bool:=match g.on with
  | false=>(g,false)
  | true=>(⟨decide (0≤g.left - 1),g.left - 1⟩,!decide (0≤g.left - 1))
theorem Gate.step_ok {g:Gate} (h:g.Ok):g.step.1.Ok:=by
  unfold Gate.step Gate.Ok at *
  cases hg:g.on with
  | false=>simp [hg]
  | true =>
    have:=h hg
    simp only [decide_eq_true_eq]
    omega
theorem stops_arm (b:Nat) (d:DRec) (h:d.arm.Ok) (I:Imm):Tri Tryz.prog 172 #[.pointer (some ⟨b,5,none⟩)] I [dChunk b d] fun v J S'=>v=.bool d.arm.step.2∧I=J∧S'=[dChunk b { d with arm:=d.arm.step.1 }]:=by
  obtain ⟨⟨sa,sl,sc⟩,⟨na,nl,nc⟩,⟨wa,wl,wc⟩,count,down,⟨ao,al⟩,⟨fo,fl⟩⟩:=d
  dsimp only [dChunk,DRec.cells,Hd.v]
  refine Tri.of (args:=[.pointer (some ⟨b,5,none⟩)]) tabOk Tryz.func172 rfl (by kernel_rfl) (by kernel_rfl) ?_
  cases ao
  · refine LoadD.own 0 rfl _ rfl rfl ?_
    exact Done.mk ⟨rfl,rfl,rfl⟩
  · have h:=h rfl
    simp only at h
    refine LoadD.own 0 rfl _ rfl rfl ?_
    refine LoadD.own 0 rfl _ rfl rfl ?_
    refine ToD.i64 (by omega) (by omega) ?_
    refine StoreD.st 0 rfl rfl rfl ?_
    refine LoadD.own 0 rfl _ rfl rfl ?_
    refine CmpD.split (fun c=>?_) (fun c=>?_)
    · refine StoreD.st 0 rfl rfl rfl ?_
      refine LoadD.own 0 rfl _ rfl rfl ?_
      refine Done.mk ⟨?_,rfl,?_⟩
      · simp only [Gate.step,decide_eq_true c]; rfl
      · simp only [Gate.step,decide_eq_true c]; rfl
    · refine StoreD.st 0 rfl rfl rfl ?_
      refine LoadD.own 0 rfl _ rfl rfl ?_
      refine Done.mk ⟨?_,rfl,?_⟩
      · simp only [Gate.step,decide_eq_false c]; rfl
      · simp only [Gate.step,decide_eq_false c]; rfl
theorem stops_fault (b:Nat) (d:DRec) (h:d.fault.Ok) (I:Imm):Tri Tryz.prog 172 #[.pointer (some ⟨b,7,none⟩)] I [dChunk b d] fun v J S'=>v=.bool d.fault.step.2∧I=J∧S'=[dChunk b { d with fault:=d.fault.step.1 }]:=by
  obtain ⟨⟨sa,sl,sc⟩,⟨na,nl,nc⟩,⟨wa,wl,wc⟩,count,down,⟨ao,al⟩,⟨fo,fl⟩⟩:=d
  dsimp only [dChunk,DRec.cells,Hd.v]
  refine Tri.of (args:=[.pointer (some ⟨b,7,none⟩)]) tabOk Tryz.func172 rfl (by kernel_rfl) (by kernel_rfl) ?_
  cases fo
  · refine LoadD.own 0 rfl _ rfl rfl ?_
    exact Done.mk ⟨rfl,rfl,rfl⟩
  · have h:=h rfl
    simp only at h
    refine LoadD.own 0 rfl _ rfl rfl ?_
    refine LoadD.own 0 rfl _ rfl rfl ?_
    refine ToD.i64 (by omega) (by omega) ?_
    refine StoreD.st 0 rfl rfl rfl ?_
    refine LoadD.own 0 rfl _ rfl rfl ?_
    refine CmpD.split (fun c=>?_) (fun c=>?_)
    · refine StoreD.st 0 rfl rfl rfl ?_
      refine LoadD.own 0 rfl _ rfl rfl ?_
      refine Done.mk ⟨?_,rfl,?_⟩
      · simp only [Gate.step,decide_eq_true c]; rfl
      · simp only [Gate.step,decide_eq_true c]; rfl
    · refine StoreD.st 0 rfl rfl rfl ?_
      refine LoadD.own 0 rfl _ rfl rfl ?_
      refine Done.mk ⟨?_,rfl,?_⟩
      · simp only [Gate.step,decide_eq_false c]; rfl
      · simp only [Gate.step,decide_eq_false c]; rfl
theorem disk_none (b:Nat) (d:DRec) (I:Imm):Tri Tryz.prog 98 #[.pointer (some ⟨b,0,none⟩)] I [dChunk b d] fun v J S'=>v=.bool (decide (d.now.len=0))∧I=J∧S'=[dChunk b d]:=by
  obtain ⟨⟨sa,sl,sc⟩,⟨na,nl,nc⟩,⟨wa,wl,wc⟩,count,down,⟨ao,al⟩,⟨fo,fl⟩⟩:=d
  dsimp only [dChunk,DRec.cells,Hd.v]
  refine Tri.of (args:=[.pointer (some ⟨b,0,none⟩)]) tabOk Tryz.func98 rfl (by kernel_rfl) (by kernel_rfl) ?_
  refine LoadD.own 0 rfl _ rfl rfl ?_
  refine CmpD.split (fun c=>?_) (fun c=>?_)
  · refine Done.mk ⟨?_,rfl,rfl⟩
    rw [decide_eq_true (show nl=0 by omega)]; rfl
  · refine Done.mk ⟨?_,rfl,rfl⟩
    rw [decide_eq_false (show ¬ nl=0 by omega)]; rfl
theorem disk_Size (b:Nat) (d:DRec) (I:Imm):Tri Tryz.prog 104 #[.pointer (some ⟨b,0,none⟩)] I [dChunk b d] fun v J S'=>v=.int .i64 d.now.len∧I=J∧S'=[dChunk b d]:=by
  have hn:=disk_none b d I
  obtain ⟨⟨sa,sl,sc⟩,⟨na,nl,nc⟩,⟨wa,wl,wc⟩,count,down,⟨ao,al⟩,⟨fo,fl⟩⟩:=d
  dsimp only [dChunk,DRec.cells,Hd.v] at hn
  dsimp only [dChunk,DRec.cells,Hd.v]
  refine Tri.of (args:=[.pointer (some ⟨b,0,none⟩)]) tabOk Tryz.func104 rfl (by kernel_rfl) (by kernel_rfl) ?_
  refine hn.mono ?_
  rintro v J S' hJ ⟨rfl,rfl,rfl⟩
  by_cases h0:nl=0
  · subst h0
    exact Done.mk ⟨rfl,rfl,rfl⟩
  · rw [decide_eq_false h0]
    refine LoadD.own 0 rfl _ rfl rfl ?_
    exact Done.mk ⟨rfl,rfl,rfl⟩
def wrongE (len:Nat) (n:Int):Int:=if len=0 then 1 else if n < 0∨(len:Int)≤n then 70 else 0
theorem disk_wrong (b:Nat) (d:DRec) (n:Int) (I:Imm):Tri Tryz.prog 110 #[.pointer (some ⟨b,0,none⟩),.int .i64 n] I [dChunk b d] fun v J S'=>v=.int .i64 (wrongE d.now.len n)∧I=J∧S'=[dChunk b d]:=by
  have hn:=disk_none b d I
  obtain ⟨⟨sa,sl,sc⟩,⟨na,nl,nc⟩,⟨wa,wl,wc⟩,count,down,⟨ao,al⟩,⟨fo,fl⟩⟩:=d
  dsimp only [dChunk,DRec.cells,Hd.v] at hn
  dsimp only [dChunk,DRec.cells,Hd.v]
  refine Tri.of (args:=[.pointer (some ⟨b,0,none⟩),.int .i64 n]) tabOk Tryz.func110 rfl (by kernel_rfl) (by kernel_rfl) ?_
  refine hn.mono ?_
  rintro v J S' hJ ⟨rfl,rfl,rfl⟩
  by_cases h0:nl=0
  · rw [decide_eq_true h0]
    exact Done.mk ⟨by rw [wrongE,if_pos h0]; rfl,rfl,rfl⟩
  · rw [decide_eq_false h0]
    refine CmpD.split (fun c=>?_) (fun c=>?_)
    · exact Done.mk ⟨by rw [wrongE,if_neg h0,if_pos (.inl c)]; rfl,rfl,rfl⟩
    refine LoadD.own 0 rfl _ rfl rfl ?_
    refine CmpD.split (fun c2=>?_) (fun c2=>?_)
    · exact Done.mk ⟨by rw [wrongE,if_neg h0,if_pos (.inr c2)]; rfl,rfl,rfl⟩
    · exact Done.mk ⟨by rw [wrongE,if_neg h0,if_neg (by omega)]; rfl,rfl,rfl⟩
end Go.Proofs.YtegdcjnjnoeinaaGreat
namespace Go.Proofs.YtegdcjnjnoeinaaGreat
open Go.RowKit Go.Sl
def DRec.stop (d:DRec):DRec × Int:=match d.down with
  | true=>(d,6)
  | false=>match d.arm.step.2 with
    | true=>({ d with fault:=d.fault.step.1,arm:=d.arm.step.1,down:=true },6)
    | false=>({ d with fault:=d.fault.step.1,arm:=d.arm.step.1 },match d.fault.step.2 with | true=>4 | false=>0)
def DRec.Ok (d:DRec):Prop:=d.arm.Ok∧d.fault.Ok
theorem disk_stopped (b:Nat) (d:DRec) (h:d.Ok) (I:Imm):Tri Tryz.prog 112 #[.pointer (some ⟨b,0,none⟩)] I [dChunk b d] fun v J S'=>v=.int .i64 d.stop.2∧I=J∧S'=[dChunk b d.stop.1]:=by
  refine Tri.of (args:=[.pointer (some ⟨b,0,none⟩)]) tabOk Tryz.func112 rfl (by kernel_rfl) (by kernel_rfl) ?_
  refine LoadD.own 0 rfl [.bool d.down] rfl rfl ?_
  cases hdn:d.down
  · refine CodeF.sched [[],[0],[0,1],[0,1,2],[],[4],[4,5],[0,1,2,3,4,5,6],[0,1,2,3,4,5,6,7],[0,1,2,3,4,5,6,7,8]] [0,1,2,4,5,6,3,7,8,9] (by kernel_rfl) ?_
    refine (stops_fault b d h.2 I).mono ?_
    rintro v J S' hJ ⟨rfl,rfl,rfl⟩
    refine (stops_arm b { d with fault:=d.fault.step.1 } h.1 I).mono ?_
    rintro v J S' hJ ⟨rfl,rfl,rfl⟩
    cases ha:d.arm.step.2
    · cases hf:d.fault.step.2
      · refine Done.mk ⟨?_,rfl,?_⟩
        · simp only [DRec.stop,hdn,ha,hf]; rfl
        · simp only [DRec.stop,hdn,ha]
      · refine Done.mk ⟨?_,rfl,?_⟩
        · simp only [DRec.stop,hdn,ha,hf]; rfl
        · simp only [DRec.stop,hdn,ha]
    · refine StoreD.st 0 rfl rfl rfl ?_
      refine Done.mk ⟨?_,rfl,?_⟩
      · simp only [DRec.stop,hdn,ha]; rfl
      · simp only [DRec.stop,hdn,ha]; rfl
  · refine Done.mk ⟨?_,rfl,?_⟩
    · simp only [DRec.stop,hdn]; rfl
    · simp only [DRec.stop,hdn]
end Go.Proofs.YtegdcjnjnoeinaaGreat
namespace Go.Proofs.YtegdcjnjnoeinaaGreat
open Go.RowKit Go.Sl
@[reducible] def byte (b:UInt8):Value:=.int .u8 (b.toNat:Int)
def bts (l:List UInt8):List Value:=l.map byte
theorem bts_length (l:List UInt8):(bts l).length=l.length:=by simp [bts]
theorem bts_append (l m:List UInt8):bts (l++m)=bts l++bts m:=by simp [bts]
theorem bts_plain (l:List UInt8):∀ v ∈ bts l,Plain v=true:=by
  intro v hv
  obtain ⟨z,_,rfl⟩:=List.mem_map.1 hv
  rfl
theorem bts_get {l:List UInt8} {i:Nat} {b:UInt8} (h:l[i]?=some b):(bts l)[i]?=some (byte b):=by simp [bts,h]
theorem wrap_u8 (v:Nat):IntKind.u8.wrap (v:Int)=((UInt8.ofNat v).toNat:Int):=by
  simp [IntKind.wrap,IntKind.signed,IntKind.bits]
theorem shr_nat (v s:Nat) (b:Int) (hb:b=s) (hs:s≤64):(v:Int).fdiv (2 ^ (min b.toNat IntKind.u64.bits))=((v / 2 ^ s:Nat):Int):=by
  subst hb
  rw [Int.toNat_natCast,show IntKind.u64.bits=64 from rfl,Nat.min_eq_left hs,Int.fdiv_eq_ediv_of_nonneg _ (by exact_mod_cast Nat.zero_le _)]
  simp
def be (v n:Nat):List UInt8:=(List.range n).map fun i=>UInt8.ofNat (v / 2 ^ (8 * (n - 1 - i)))
theorem be_length (v n:Nat):(be v n).length=n:=by simp [be]
abbrev OwnB (ch:List Blk) (a:Option Addr) (len cap:Nat) (l:List UInt8):Prop:=OwnC ch 1 a len cap (bts l)
theorem octets_add (I:Imm) (S:St) (a:Option Addr) (len cap:Nat) (l:List UInt8) (h:SlC I S a len (bts l)) (v:Nat) (_hv:v < 18446744073709551616) (n:Nat) (hn:n≤8) (hlen:len≤1000000) :
    Tri Tryz.prog 191 #[.slice a len cap,.int .u64 v,.int .i64 n] I S fun r J S'=>∃ a' cap' ch,r=.slice a' (len+n) cap'∧OwnB ch a' (len+n) cap' (l++be v n)∧I=J∧S'=S++[ch]:=by
  have hll:l.length=len:=by rw [← bts_length,h.len]
  refine Tri.of (args:=[.slice a len cap,.int .u64 v,.int .i64 n]) tabOk Tryz.func191 rfl (by kernel_rfl) (by kernel_rfl) ?_
  refine ToD.i64 (by omega) (by omega) ?_
  refine makeD tabOk rfl rfl rfl len (len+n) rfl rfl (by omega) (by show 1 * (len+n)≤_; omega) (by omega) (by show (len+n) * 1≤_; omega) rfl (by decide) ?_
  intro b
  refine copyD tabOk rfl rfl rfl rfl rfl rfl rfl S.length (last_get S _) (SrcOk.slice tabOk rfl (by show SlC I _ a (len * 1) _; rw [Nat.mul_one]; exact h.more _) (bts_plain l)) (Nat.le_refl _) (by rw [rows_length]; show 0+len * 1≤(len+n) * 1; omega) (Nat.le_refl _) ?_
  rw [last_set,splice_rows _ _ _ _ (by show _=len * 1; rw [bts_length]; omega)]
  have hown0:OwnB [(b,row (bts l++rows n [.int .u8 0]) 5)] (some ⟨b,0,none⟩) len (len+n) l:=.of (by rw [bts_length]; omega) (by omega) (by rw [rows_length]; simp)
  refine CodeF.loopD [1,2,7,19,20] (fun vs J S'=>∃ (i:Nat) (a':Option Addr) (cap':Nat) (ch:List Blk),i≤n∧OwnB ch a' (len+i) cap' (l++(be v n).take i)∧vs=[.int .u64 v,.int .i64 n,.slice a' (len+i) cap',.int .i64 n,.int .i64 i]∧I=J∧S'=S++[ch])
    (fun vs _ _=>match vs with | [_,_,_,_,.int _ i]=>((n:Int) - i).toNat | _=>0) ?_ ?_
  · exact ⟨_,Drop.refl _,0,_,_,_,by omega,by rw [Nat.add_zero,List.take_zero,List.append_nil]; exact hown0,rfl,rfl,rfl⟩
  rintro vs g J S' hJ ⟨i,a',cap',ch,hi,hown,rfl,rfl,rfl⟩
  refine CmpD.split (fun c1=>?_) (fun c1=>?_)
  · refine ToD.i64 (by omega) (by omega) ?_
    refine ToD.i64 (by omega) (by omega) ?_
    refine ToD.i64 (by omega) (by omega) ?_
    refine Chk.mk (by omega) ?_
    refine ToD.to ((v / 2 ^ (8 * (n - 1 - i)):Nat):Int) (shr_nat v _ _ (by omega) (by omega)) ?_
    refine ToD.to _ (wrap_u8 _) ?_
    conv=>whnf
    intro bN
    refine appendD tabOk rfl rfl rfl rfl rfl rfl rfl S.length (two_get S _ _) hown (SrcOk.slice (n:=1) (news:=bts [UInt8.ofNat (v / 2 ^ (8 * (n - 1 - i)))]) tabOk rfl ((OwnC.whole (len:=1) (size:=1) rfl).slC (S.length+1) (two_get1 S _ _)) (bts_plain _)) rfl (by show (len+i+1) * 1≤_; omega) (by omega) ?_
    intro a3 cap3 ch3 hown3
    rw [two_set]
    refine ToD.i64 (by omega) (by omega) ?_
    refine ⟨_,Drop.init _ _,⟨i+1,a3,cap3,ch3,by omega,?_,rfl,rfl,rfl⟩,?_⟩
    · rw [← bts_append] at hown3
      have e:l++(be v n).take (i+1)=l++(be v n).take i++[UInt8.ofNat (v / 2 ^ (8 * (n - 1 - i)))]:=by
        rw [List.take_add_one,List.append_assoc]
        congr 2
        have:i < n:=by omega
        simp [be,this]
      rw [e]; exact hown3
    · show ((n:Int) - ((i:Int)+1)).toNat < ((n:Int) - (i:Int)).toNat
      omega
  · obtain rfl:i=n:=by omega
    refine Done.mk ⟨a',cap',ch,rfl,?_,rfl,rfl⟩
    rwa [List.take_of_length_le (by rw [be_length]; omega)] at hown
theorem wrap_u64 (v:Nat) (h:v < 18446744073709551616):IntKind.u64.wrap (v:Int)=(v:Int):=wrap_u rfl (by omega) (by show (v:Int) < 2 ^ 64; omega)
theorem octets_Add16 (I:Imm) (S:St) (a:Option Addr) (len cap:Nat) (l:List UInt8) (h:SlC I S a len (bts l)) (v:Nat) (hv:v < 65536) (hlen:len≤1000000) :
    Tri Tryz.prog 150 #[.slice a len cap,.int .u16 v] I S fun r J S'=>∃ a' cap' ch,r=.slice a' (len+2) cap'∧OwnB ch a' (len+2) cap' (l++be v 2)∧I=J∧S'=S++[ch]:=by
  refine Tri.of (args:=[.slice a len cap,.int .u16 v]) tabOk Tryz.func150 rfl (by kernel_rfl) (by kernel_rfl) ?_
  refine ToD.to (v:Int) (wrap_u64 v (by omega)) ?_
  refine (octets_add I S a len cap l h v (by omega) 2 (by omega) hlen).mono ?_
  rintro r J S' hJ ⟨a',cap',ch,rfl,hown,rfl,rfl⟩
  exact Done.mk ⟨a',cap',ch,rfl,hown,rfl,rfl⟩
theorem octets_Add32 (I:Imm) (S:St) (a:Option Addr) (len cap:Nat) (l:List UInt8) (h:SlC I S a len (bts l)) (v:Nat) (hv:v < 4294967296) (hlen:len≤1000000) :
    Tri Tryz.prog 151 #[.slice a len cap,.int .u32 v] I S fun r J S'=>∃ a' cap' ch,r=.slice a' (len+4) cap'∧OwnB ch a' (len+4) cap' (l++be v 4)∧I=J∧S'=S++[ch]:=by
  refine Tri.of (args:=[.slice a len cap,.int .u32 v]) tabOk Tryz.func151 rfl (by kernel_rfl) (by kernel_rfl) ?_
  refine ToD.to (v:Int) (wrap_u64 v (by omega)) ?_
  refine (octets_add I S a len cap l h v (by omega) 4 (by omega) hlen).mono ?_
  rintro r J S' hJ ⟨a',cap',ch,rfl,hown,rfl,rfl⟩
  exact Done.mk ⟨a',cap',ch,rfl,hown,rfl,rfl⟩
theorem octets_Add64 (I:Imm) (S:St) (a:Option Addr) (len cap:Nat) (l:List UInt8) (h:SlC I S a len (bts l)) (v:Nat) (hv:v < 18446744073709551616) (hlen:len≤1000000) :
    Tri Tryz.prog 180 #[.slice a len cap,.int .u64 v] I S fun r J S'=>∃ a' cap' ch,r=.slice a' (len+8) cap'∧OwnB ch a' (len+8) cap' (l++be v 8)∧I=J∧S'=S++[ch]:=by
  refine Tri.of (args:=[.slice a len cap,.int .u64 v]) tabOk Tryz.func180 rfl (by kernel_rfl) (by kernel_rfl) ?_
  refine (octets_add I S a len cap l h v (by omega) 8 (by omega) hlen).mono ?_
  rintro r J S' hJ ⟨a',cap',ch,rfl,hown,rfl,rfl⟩
  exact Done.mk ⟨a',cap',ch,rfl,hown,rfl,rfl⟩
end Go.Proofs.YtegdcjnjnoeinaaGreat
namespace Go.Proofs.YtegdcjnjnoeinaaGreat
open Go.RowKit Go.Sl
def ints (z:List Int):List Value:=z.map (Value.int .i64)
theorem ints_get {z:List Int} {i:Nat} {x:Int} (h:z[i]?=some x):(ints z)[i]?=some (.int .i64 x):=by simp [ints,h]
theorem ints_plain (l:List Int):∀ v ∈ ints l,Plain v=true:=by
  intro v hv
  obtain ⟨z,_,rfl⟩:=List.mem_map.1 hv
  rfl
theorem LoadP.imms {I:Imm} {S:St} {b off n:Nat} {K:List Value→List Nat→Prop} (vs:List Value) (h:Cells I [] b off n vs) (k:K vs []):LoadP I S b off n K:=.imm vs h k
theorem same_ints (c0:List Blk) (I:Imm) (a1 a2:Option Addr) (n1 n2 cap1 cap2:Nat) (z1 z2:List Int) (h1:SlC I [c0] a1 n1 (ints z1)) (h2:SlC I [c0] a2 n2 (ints z2)) (hn:n1≤9223372036854775806) :
    Tri Tryz.prog 67 #[.slice a1 n1 cap1,.slice a2 n2 cap2] I [c0] fun v J S'=>∃ b,v=.bool b∧(b=true↔z1=z2)∧I=J∧S'=[c0]:=by
  have hl1:z1.length=n1:=by rw [← h1.len]; simp [ints]
  have hl2:z2.length=n2:=by rw [← h2.len]; simp [ints]
  refine Tri.of (args:=[.slice a1 n1 cap1,.slice a2 n2 cap2]) tabOk Tryz.func67 rfl (by kernel_rfl) (by kernel_rfl) ?_
  refine CmpD.split (fun c1=>?_) (fun c1=>?_)
  rotate_left
  · refine Done.mk ⟨false,rfl,?_,rfl,rfl⟩
    constructor
    · intro h; cases h
    · rintro rfl; omega
  obtain rfl:n1=n2:=by omega
  refine CodeF.loopD [0,1,5] (fun vs J S'=>∃ i:Nat,i≤n1∧z1.take i=z2.take i∧vs=[.slice a1 n1 cap1,.slice a2 n1 cap2,.int .i64 i]∧I=J∧S'=[c0])
    (fun vs _ _=>match vs with | [_,_,.int _ i]=>((n1:Int) - i).toNat | _=>0) ?_ ?_
  · exact ⟨_,Drop.refl _,0,by omega,rfl,rfl,rfl,rfl⟩
  rintro vs g J S' hJ ⟨i,hi,heq,rfl,rfl,rfl⟩
  refine CmpD.split (fun c2=>?_) (fun c2=>?_)
  · rcases h1.mem with q0 | ⟨b1,o1,rfl,hc1⟩
    · omega
    rcases h2.mem with q0 | ⟨b2,o2,rfl,hc2⟩
    · omega
    have g1:z1[i]?=some (z1[i]'(by omega)):=List.getElem?_eq_getElem _
    have g2:z2[i]?=some (z2[i]'(by omega)):=List.getElem?_eq_getElem _
    generalize z1[i]'(by omega)=x1 at g1
    generalize z2[i]'(by omega)=x2 at g2
    have t1:z1.take (i+1)=z1.take i++[x1]:=by rw [List.take_add_one,g1]; rfl
    have t2:z2.take (i+1)=z2.take i++[x2]:=by rw [List.take_add_one,g2]; rfl
    refine CodeF.sched [[],[],[0,1],[0,1,2],[],[],[4,5],[4,5,6],[0,1,2,3,4,5,6,7]] [0,1,2,3,4,5,6,7,8] (by kernel_rfl) ?_
    refine Chk.mk (by omega) ?_
    refine LoadP.own 0 [.int .i64 x1] (hc1.at (ints_get g1)) ?_
    refine Chk.mk (by omega) ?_
    refine LoadP.own 0 [.int .i64 x2] (hc2.at (ints_get g2)) ?_
    refine CmpD.split (fun c3=>?_) (fun c3=>?_)
    · refine ToD.i64 (by omega) (by omega) ?_
      refine ⟨_,Drop.refl _,⟨i+1,by omega,by rw [t1,t2,heq,c3],rfl,rfl,rfl⟩,?_⟩
      show ((n1:Int) - ((i:Int)+1)).toNat < ((n1:Int) - (i:Int)).toNat
      omega
    · refine Done.mk ⟨false,rfl,?_,rfl,rfl⟩
      constructor
      · intro h; cases h
      · rintro rfl
        rw [g1] at g2; cases g2; exact absurd rfl c3
  · refine Done.mk ⟨true,rfl,?_,rfl,rfl⟩
    have e1:z1.take i=z1:=List.take_of_length_le (by omega)
    have e2:z2.take i=z2:=List.take_of_length_le (by omega)
    rw [e1,e2] at heq
    simp [heq]
end Go.Proofs.YtegdcjnjnoeinaaGreat
namespace Go.Proofs.YtegdcjnjnoeinaaGreat
open Go.RowKit Go.Sl
def u8of (y:Int):UInt8:=UInt8.ofNat (y % 256).toNat
theorem u8_ex (y:Int):IntKind.u8.wrap y=((u8of y).toNat:Int):=by
  have h:IntKind.u8.wrap y=y % 256:=by simp [IntKind.wrap,IntKind.signed,IntKind.bits]
  unfold u8of
  rw [h]
  have h1:=Int.emod_nonneg y (show (256:Int)≠0 by omega)
  have h2:=Int.emod_lt_of_pos y (show (0:Int) < 256 by omega)
  simp only [UInt8.toNat_ofNat']
  omega
def madeS (x:Int):Int:=IntKind.u64.wrap (IntKind.u64.wrap (x * 2862933555777941757)+3037000493)
def madeX (seed:Int):Nat→Int
  | 0=>madeS (IntKind.u64.wrap seed)
  | k+1=>madeS (madeX seed k)
def madeB (seed:Int) (i:Nat):UInt8:=u8of ((madeX seed ((i+8) / 8)).fdiv (2 ^ (min (40:Int).toNat IntKind.u64.bits)))
def madeL (seed:Int) (n:Nat):List UInt8:=(List.range n).map (madeB seed)
theorem madeL_length (seed:Int) (n:Nat):(madeL seed n).length=n:=by simp [madeL]
def madeP (seed:Int) (n i:Nat):List UInt8:=(List.range n).map fun j=>if j < i then madeB seed j else 0
theorem madeP_length (seed:Int) (n i:Nat):(madeP seed n i).length=n:=by simp [madeP]
theorem madeP_zero (seed:Int) (n:Nat):madeP seed n 0=List.replicate n 0:=by
  apply List.ext_getElem
  · simp [madeP]
  · intro i h1 h2; simp [madeP]
theorem madeP_all (seed:Int) (n:Nat):madeP seed n n=madeL seed n:=by
  apply List.ext_getElem
  · simp [madeP,madeL]
  · intro i h1 h2
    simp [madeP] at h1
    simp [madeP,madeL,h1]
theorem madeP_set (seed:Int) (n i:Nat):(madeP seed n i).set i (madeB seed i)=madeP seed n (i+1):=by
  apply List.ext_getElem
  · simp [madeP]
  · intro j h1 h2
    simp only [madeP,List.getElem_set,List.getElem_map,List.getElem_range]
    by_cases hj:i=j
    · subst hj; simp
    · rw [if_neg hj]
      by_cases h:j < i
      · rw [if_pos h,if_pos (by omega)]
      · rw [if_neg h,if_neg (by omega)]
attribute [irreducible] madeS madeL
theorem Rds.of_own {ch:List Blk} {a:Option Addr} {len cap:Nat} {vs:List Value} (h:OwnC ch 1 a len cap vs) {J:Imm} (hJ:∀ x ∈ ch,J x.1=some x.2):Rds J a len vs:=by
  refine ⟨by rw [h.n,Nat.mul_one],?_⟩
  rcases h.at' with h0 | ⟨b,pre,post,T,ha,hc,hp⟩
  · left; have:=h.le; omega
  · right
    refine ⟨b,_,_,T,(0,0),ha,hJ (b,_) (by rw [hc]; exact List.mem_singleton.2 rfl),?_⟩
    have:=own_take pre vs post
    rw [h.n,Nat.mul_one] at this
    exact this
theorem made_own (seed:Int) (n:Nat) (hn:n≤1000000) (I:Imm):Tri Tryz.prog 19 #[.int .i64 seed,.int .i64 n] I [] fun v J S' =>
    ∃ b ch,v=.slice (some ⟨b,0,none⟩) n n∧OwnB ch (some ⟨b,0,none⟩) n n (madeL seed n)∧I=J∧S'=[ch]:=by
  refine Tri.of (args:=[.int .i64 seed,.int .i64 n]) tabOk Tryz.func19 rfl (by kernel_rfl) (by kernel_rfl) ?_
  refine makeD tabOk rfl rfl rfl n n rfl rfl (Nat.le_refl _) (by show 1 * n≤_; omega) (by omega) (by show n * 1≤_; omega) rfl (by decide) ?_
  intro b
  refine ToD.keep ?_
  refine ToD.keep ?_
  refine ToD.to (madeX seed 0) (by unfold madeX madeS; rfl) ?_
  have hz:∀ n:Nat,rows n (List.cons (Value.int .u8 0) [])=bts (List.replicate n 0):=by
    intro n
    induction n with
    | zero=>rfl
    | succ n ih =>
      have e:rows (n+1) [Value.int .u8 0]=Value.int .u8 0 :: rows n [Value.int .u8 0]:=by simp [rows,List.replicate_succ]
      rw [e,ih]; rfl
  refine CodeF.loopD [1,5,6,7] (fun vs J S'=>∃ (i:Nat),i≤n∧vs=[.int .i64 n,.slice (some ⟨b,0,none⟩) n n,.int .u64 (madeX seed ((i+7) / 8)),.int .i64 i]∧I=J∧S'=[[(b,row (bts (madeP seed n i)) 5)]])
    (fun vs _ _=>match vs with | [_,_,_,.int _ i]=>((n:Int) - i).toNat | _=>0) ?_ ?_
  · exact ⟨_,Drop.refl _,0,by omega,rfl,rfl,by rw [madeP_zero,← hz]; rfl⟩
  rintro vs g J S' hJ ⟨i,hi,rfl,rfl,rfl⟩
  refine CmpD.split (fun c1=>?_) (fun c1=>?_)
  · refine Chk.mk (by omega) ?_
    refine ToD.rem (by omega) ?_
    have hin:i < n:=by omega
    have st:splice (bts (madeP seed n i)) (0+i) [byte (madeB seed i)]=bts (madeP seed n (i+1)):=by
      rw [← madeP_set]
      have hl:=madeP_length seed n i
      generalize madeP seed n i=l at hl ⊢
      have hlb:=bts_length l
      rw [Nat.zero_add]
      unfold splice bts
      rw [List.map_set,List.set_eq_take_append_cons_drop,if_pos (by rw [List.length_map]; omega)]
      simp
    refine CmpD.split (fun c2=>?_) (fun c2=>?_)
    · refine ToD.keep ?_
      have e1:(i+7) / 8+1=(i+8) / 8:=by omega
      refine ToD.to (madeX seed ((i+8) / 8)) (by rw [← e1,madeX]; unfold madeS; rfl) ?_
      refine Chk.mk (by omega) ?_
      refine ToD.keep ?_
      refine ToD.to _ (u8_ex _) ?_
      refine Chk.mk (by omega) ?_
      refine StoreD.to 0 rfl _ st (by rw [bts_length,madeP_length]; show 0+i+1≤_; omega) (.inr (.inr (Nat.le_refl _))) _ rfl ?_
      refine ToD.i64 (by omega) (by omega) ?_
      refine ⟨_,Drop.refl _,⟨i+1,by omega,rfl,rfl,rfl⟩,?_⟩
      show ((n:Int) - ((i:Int)+1)).toNat < ((n:Int) - (i:Int)).toNat
      omega
    · refine Chk.mk (by omega) ?_
      have e1:(i+7) / 8=(i+8) / 8:=by omega
      rw [e1]
      refine ToD.keep ?_
      refine ToD.to _ (u8_ex _) ?_
      refine Chk.mk (by omega) ?_
      refine StoreD.to 0 rfl _ st (by rw [bts_length,madeP_length]; show 0+i+1≤_; omega) (.inr (.inr (Nat.le_refl _))) _ rfl ?_
      refine ToD.i64 (by omega) (by omega) ?_
      refine ⟨_,Drop.refl _,⟨i+1,by omega,rfl,rfl,rfl⟩,?_⟩
      show ((n:Int) - ((i:Int)+1)).toNat < ((n:Int) - (i:Int)).toNat
      omega
  · obtain rfl:i=n:=by omega
    rw [madeP_all]
    refine Done.mk ⟨b,_,rfl,⟨by rw [bts_length,madeL_length]; omega,Nat.le_refl _,.inr ⟨b,[],[],5,rfl,by simp,by simp⟩⟩,rfl,rfl⟩
theorem made (seed:Int) (n:Nat) (hn:n≤1000000) (I:Imm):Tri Tryz.prog 19 #[.int .i64 seed,.int .i64 n] I [] fun v J _=>∃ a,v=.slice a n n∧Rds J a n (bts (madeL seed n)):=by
  refine Tri.fixed (made_own seed n hn I) ?_
  rintro v J S' hJ ⟨b,ch,rfl,hown,rfl,rfl⟩
  exact ⟨0,ch,rfl,fun J' hJ' hm=>⟨_,rfl,Rds.of_own hown hm⟩⟩
end Go.Proofs.YtegdcjnjnoeinaaGreat
namespace Go.Proofs.YtegdcjnjnoeinaaGreat
open Go.RowKit Go.Sl
set_option maxRecDepth 20000
structure Img where
  blk:Int
  a:Option Addr
  len:Nat
  cap:Nat
  data:List UInt8
def imgCells (l:List Img):List Value:=l.flatMap fun g=>[.int .i64 g.blk,.slice g.a g.len g.cap]
theorem imgCells_length (l:List Img):(imgCells l).length=l.length * 2:=by
  unfold imgCells
  induction l with
  | nil=>rfl
  | cons g l ih=>rw [List.flatMap_cons,List.length_append,ih]; simp; omega
theorem imgCells_snoc (l:List Img) (g:Img):imgCells (l++[g])=imgCells l++[.int .i64 g.blk,.slice g.a g.len g.cap]:=by simp [imgCells]
abbrev PImg:=Int × List UInt8
@[reducible] def Img.pr (g:Img):PImg:=(g.blk,g.data)
def ImgOk (J:Imm) (g:Img):Prop:=In64 g.blk∧Rds J g.a g.len (bts g.data)
theorem ImgOk.mono {I J:Imm} {g:Img} (h:ImgOk I g) (hJ:I.le J):ImgOk J g:=⟨h.1,h.2.mono hJ⟩
end Go.Proofs.YtegdcjnjnoeinaaGreat
namespace Go.Proofs.YtegdcjnjnoeinaaGreat
open Go.RowKit Go.Sl
theorem spineD {l:List Value} {K:List Value→Prop} (c:List Value) (h:l=c) (k:K c):Sl.spine l K:=by rw [Sl.spine_eq,h]; exact k
def seenN (n:Nat) (bs:List Int):List Value:=(List.range n).map fun (j:Nat)=>.bool (decide ((j:Int) ∈ bs))
theorem seenN_length (n:Nat) (bs:List Int):(seenN n bs).length=n:=by simp [seenN]
theorem seenN_nil (n:Nat):seenN n []=List.replicate n (.bool false):=by
  apply List.ext_getElem?
  intro i
  by_cases h:i < n
  · simp [seenN,h]
  · simp [seenN,h]
theorem seenN_get (n:Nat) (bs:List Int) {j:Nat} (h:j < n):(seenN n bs)[j]?=some (.bool (decide ((j:Int) ∈ bs))):=by simp [seenN,h]
theorem seenN_put (n:Nat) (bs:List Int) {j:Nat} (h:j < n):splice (seenN n bs) j [.bool true]=seenN n (bs++[(j:Int)]):=by
  have e:splice (seenN n bs) j [.bool true]=(seenN n bs).set j (.bool true):=by
    rw [List.set_eq_take_append_cons_drop,if_pos (by rw [seenN_length]; exact h)]
    simp [splice]
  rw [e]
  apply List.ext_getElem?
  intro i
  by_cases hi:i < n
  · rw [seenN_get _ _ hi]
    by_cases hij:j=i
    · subst hij
      rw [List.getElem?_set_self (by rw [seenN_length]; exact h)]
      simp
    · rw [List.getElem?_set_ne hij,seenN_get _ _ hi]
      have:¬ ((i:Int)=(j:Int)):=by omega
      simp [this]
  · rw [List.getElem?_eq_none (by rw [List.length_set,seenN_length]; omega),List.getElem?_eq_none (by rw [seenN_length]; omega)]
def seenL (bs:List Int):List Value:=seenN 512 bs
theorem seenL_length (bs:List Int):(seenL bs).length=512:=seenN_length _ _
theorem seenL_nil:seenL []=List.replicate 512 (.bool false):=seenN_nil _
theorem seenL_get (bs:List Int) {j:Nat} (h:j < 512):(seenL bs)[j]?=some (.bool (decide ((j:Int) ∈ bs))):=seenN_get _ _ h
theorem seenL_put (bs:List Int) {j:Nat} (h:j < 512):splice (seenL bs) j [.bool true]=seenL (bs++[(j:Int)]):=seenN_put _ _ h
attribute [irreducible] seenL
def ImgsOk (J:Imm) (a:Option Addr) (gs:List Img):Prop:=Rds J a (gs.length * 2) (imgCells gs)∧∀ g ∈ gs,ImgOk J g
theorem imgCells_at {gs:List Img} {i:Nat} (h:i < gs.length):((imgCells gs).drop (i * 2)).take 2=[.int .i64 gs[i].blk,.slice gs[i].a gs[i].len gs[i].cap]:=by
  induction gs generalizing i with
  | nil=>simp at h
  | cons g gs ih =>
    cases i with
    | zero=>rfl
    | succ i =>
      have:=ih (i:=i) (by simpa using h)
      have e:imgCells (g :: gs)=[.int .i64 g.blk,.slice g.a g.len g.cap]++imgCells gs:=by simp [imgCells]
      rw [e,show (i+1) * 2=[Value.int .i64 g.blk,.slice g.a g.len g.cap].length+i * 2 by simp; omega,← List.drop_drop,List.drop_left]
      simpa using this
def RightG (e s:Int) (gs:List Img):Prop:=1≤e∧e≤8388608∧1≤s∧s≤549755813888∧1≤gs.length∧gs.length≤32∧(∀ g ∈ gs,0≤g.blk∧g.blk < 512∧g.len=4096)∧(gs.map Img.blk).Nodup
set_option maxHeartbeats 1000000 in
set_option maxRecDepth 20000 in
theorem record_right (e s:Int) (a:Option Addr) (cap:Nat) (gs:List Img) (I:Imm) (hi:ImgsOk I a gs) (hlen:gs.length≤9223372036854775806) :
    Tri Tryz.prog 147 #[.agg #[.int .i64 e,.int .i64 s,.slice a gs.length cap]] I [] fun v J _=>∃ b,v=.bool b∧(b=true↔RightG e s gs)∧I=J:=by
  refine Tri.of (args:=[.agg #[.int .i64 e,.int .i64 s,.slice a gs.length cap]]) tabOk Tryz.func147 rfl (by kernel_rfl) (by kernel_rfl) ?_
  conv=>whnf
  intro b1
  refine LoadD.own 0 rfl _ rfl rfl ?_
  refine CmpD.split (fun c1=>?_) (fun c1=>?_)
  · exact Done.mk ⟨false,rfl,by simp only [RightG,Bool.false_eq_true,false_iff]; omega,rfl⟩
  refine LoadD.own 0 rfl _ rfl rfl ?_
  refine CmpD.split (fun c2=>?_) (fun c2=>?_)
  · exact Done.mk ⟨false,rfl,by simp only [RightG,Bool.false_eq_true,false_iff]; omega,rfl⟩
  refine LoadD.own 0 rfl _ rfl rfl ?_
  refine CmpD.split (fun c3=>?_) (fun c3=>?_)
  · exact Done.mk ⟨false,rfl,by simp only [RightG,Bool.false_eq_true,false_iff]; omega,rfl⟩
  refine LoadD.own 0 rfl _ rfl rfl ?_
  refine CmpD.split (fun c4=>?_) (fun c4=>?_)
  · exact Done.mk ⟨false,rfl,by simp only [RightG,Bool.false_eq_true,false_iff]; omega,rfl⟩
  refine LoadD.own 0 rfl _ rfl rfl ?_
  refine CmpD.split (fun c5=>?_) (fun c5=>?_)
  · exact Done.mk ⟨false,rfl,by simp only [RightG,Bool.false_eq_true,false_iff]; omega,rfl⟩
  refine LoadD.own 0 rfl _ rfl rfl ?_
  refine CmpD.split (fun c6=>?_) (fun c6=>?_)
  · exact Done.mk ⟨false,rfl,by simp only [RightG,Bool.false_eq_true,false_iff]; omega,rfl⟩
  refine spineD (seenL []) (by rw [seenL_nil]; kernel_rfl) ?_
  intro b3
  refine LoadD.own 0 rfl _ rfl rfl ?_
  refine CodeF.loopD [1,3,37,38,39] (fun vs J S'=>∃ i:Nat,i≤gs.length∧(∀ g ∈ gs.take i,0≤g.blk∧g.blk < 512∧g.len=4096)∧((gs.take i).map Img.blk).Nodup ∧
      vs=[.pointer (some ⟨b1,0,none⟩),.pointer (some ⟨b3,0,none⟩),.slice a gs.length cap,.int .i64 gs.length,.int .i64 i]∧I=J∧S'=[[(b3,row (seenL ((gs.take i).map Img.blk)) 251)]])
    (fun vs _ _=>match vs with | [_,_,_,_,.int _ i]=>((gs.length:Int) - i).toNat | _=>0) ?_ ?_
  · exact ⟨_,Drop.pick [1] _ rfl,0,by omega,by simp,by simp,rfl,rfl,rfl⟩
  rintro vs g J S' hJ ⟨i,hil,hall,hnd,rfl,rfl,rfl⟩
  refine CmpD.split (fun c7=>?_) (fun c7=>?_)
  · have hlt:i < gs.length:=by omega
    rcases hi.1.mem with q0 | ⟨bA,oA,cA,TA,fA,rfl,hIA,hcA⟩
    · omega
    have hcell:=take_part hcA (i:=i * 2) (m:=2) (by omega)
    rw [imgCells_at hlt] at hcell
    have hmem:gs[i] ∈ gs:=List.getElem_mem hlt
    have htake:gs.take (i+1)=gs.take i++[gs[i]]:=by rw [List.take_add_one,List.getElem?_eq_getElem hlt]; rfl
    obtain ⟨gi,hgi⟩:∃ gi,gi=gs[i]:=⟨_,rfl⟩
    rw [← hgi] at hcell hmem htake
    have no:∀ p:Prop,(RightG e s gs→p)→¬ p→(false=true↔RightG e s gs):=fun p h hn=>⟨(fun h0=>by cases h0),fun h'=>absurd (h h') hn⟩
    refine Chk.mk (by omega) ?_
    refine LoadD.imm hIA _ hcell rfl ?_
    conv=>whnf
    intro b5
    refine StoreD.st 1 rfl rfl rfl ?_
    refine LoadD.own 1 rfl _ rfl rfl ?_
    refine CmpD.split (fun d1=>?_) (fun d1=>?_)
    · exact Done.mk ⟨false,rfl,no (0≤gi.blk) (fun h=>(h.2.2.2.2.2.2.1 gi hmem).1) (by omega),rfl⟩
    refine LoadD.own 1 rfl _ rfl rfl ?_
    refine CmpD.split (fun d2=>?_) (fun d2=>?_)
    · exact Done.mk ⟨false,rfl,no (gi.blk < 512) (fun h=>(h.2.2.2.2.2.2.1 gi hmem).2.1) (by omega),rfl⟩
    obtain ⟨j,hj⟩:∃ j:Nat,gi.blk=j:=⟨gi.blk.toNat,by omega⟩
    refine LoadD.own 1 rfl _ rfl rfl ?_
    refine Chk.mk (by omega) ?_
    have hjt:gi.blk.toNat=j:=by omega
    have hget:=seenL_get ((gs.take i).map Img.blk) (show j < 512 by omega)
    rw [← hj] at hget
    have hcut:∀ v,(seenL ((gs.take i).map Img.blk))[j]?=some v→((seenL ((gs.take i).map Img.blk)).drop (0+gi.blk.toNat)).take 1=[v]:=by
      intro v hv
      rw [hjt]
      exact take_get (c:=seenL ((gs.take i).map Img.blk)) (off:=0) (n:=(seenL ((gs.take i).map Img.blk)).length) (by rw [List.drop_zero,List.take_length]) hv
    by_cases hdup:gi.blk ∈ (gs.take i).map Img.blk
    · rw [decide_eq_true hdup] at hget
      refine LoadD.own 0 rfl [.bool true] (hcut _ hget) rfl ?_
      refine Done.mk ⟨false,rfl,no (((gs.take (i+1)).map Img.blk).Nodup) (fun h=>(List.Sublist.map _ (List.take_sublist _ _)).nodup h.2.2.2.2.2.2.2) ?_,rfl⟩
      rw [htake,List.map_append]
      intro h
      have:=(List.nodup_append.1 h).2.2 gi.blk hdup gi.blk (by simp)
      exact this rfl
    rw [decide_eq_false hdup] at hget
    refine LoadD.own 0 rfl [.bool false] (hcut _ hget) rfl ?_
    refine LoadD.own 1 rfl _ rfl rfl ?_
    refine CmpD.split (fun d3=>?_) (fun d3=>?_)
    rotate_left
    · exact Done.mk ⟨false,rfl,no (gi.len=4096) (fun h=>(h.2.2.2.2.2.2.1 gi hmem).2.2) (by omega),rfl⟩
    refine LoadD.own 1 rfl _ rfl rfl ?_
    refine Chk.mk (by omega) ?_
    have hput:=seenL_put ((gs.take i).map Img.blk) (show j < 512 by omega)
    refine StoreD.to 0 rfl (seenL ((gs.take i).map Img.blk++[(j:Int)])) (by show splice _ (0+gi.blk.toNat) _=_; rw [Nat.zero_add,hjt]; exact hput) (by rw [seenL_length]; show 0+gi.blk.toNat+1≤512; omega) (.inr (.inr (Nat.le_refl _))) _ rfl ?_
    refine ToD.i64 (by omega) (by omega) ?_
    refine ⟨_,Drop.pick [0] _ rfl,⟨i+1,by omega,?_,?_,rfl,rfl,by rw [htake,List.map_append]; show _=[[(b3,row (seenL ((gs.take i).map Img.blk++[gi.blk])) 251)]]; rw [hj]; rfl⟩,?_⟩
    · intro x hx
      rw [htake] at hx
      rcases List.mem_append.1 hx with hx | hx
      · exact hall x hx
      · simp only [List.mem_singleton] at hx
        subst hx
        exact ⟨by omega,by omega,by omega⟩
    · rw [htake,List.map_append,List.nodup_append]
      refine ⟨hnd,by simp,?_⟩
      rintro x hx y hy rfl
      simp only [List.map_cons,List.map_nil,List.mem_singleton] at hy
      subst hy
      exact hdup hx
    · show ((gs.length:Int) - ((i:Int)+1)).toNat < ((gs.length:Int) - (i:Int)).toNat
      omega
  · obtain rfl:i=gs.length:=by omega
    rw [List.take_length] at hall hnd
    exact Done.mk ⟨true,rfl,by simp only [RightG,true_iff]; exact ⟨by omega,by omega,by omega,by omega,by omega,by omega,hall,hnd⟩,rfl⟩
end Go.Proofs.YtegdcjnjnoeinaaGreat
namespace Go.Proofs.YtegdcjnjnoeinaaGreat
open Go.RowKit Go.Sl
def partOf (a:Option Addr) (len n i:Nat):Value:=.slice (slAddr a (i * n) (i * n+min n (len - i * n)) 1) (min n (len - i * n)) (min n (len - i * n))
@[reducible] def chunkBoxes (b1 b2:Nat) (a:Option Addr) (len cap n:Nat):St:=[[(b1,row [.slice a len cap] 32)],[(b2,row [.int .i64 n] 3)]]
theorem chunk_it (b1 b2:Nat) (a:Option Addr) (len cap n:Nat) (hn:0 < n) (hc:len≤cap) (hlen:len+n≤9223372036854775807) (I:Imm) :
    SeqC Tryz.prog 178 #[.pointer (some ⟨b1,0,none⟩),.pointer (some ⟨b2,0,none⟩)] I (chunkBoxes b1 b2 a len cap n) (fun i x=>i * n < len∧x=partOf a len n i) (fun i=>len≤i * n):=by
  intro l inv stp J c hJ hY h0
  refine Tri.of (args:=[.func (.yield l) #[] #[],.pointer (some ⟨b1,0,none⟩),.pointer (some ⟨b2,0,none⟩)]) tabOk Tryz.func178 rfl (by kernel_rfl) (by kernel_rfl) ?_
  refine CodeF.loopD [0,1,2,4] (fun vs J' S'=>∃ (i:Nat) (c':List Blk),i * n < len+n∧vs=[.func (.yield l) #[] #[],.pointer (some ⟨b1,0,none⟩),.pointer (some ⟨b2,0,none⟩),.int .i64 ((i * n:Nat):Int)]∧inv i J' c'∧J.le J'∧S'=c' :: chunkBoxes b1 b2 a len cap n)
    (fun vs _ _=>match vs with | [_,_,_,.int _ k]=>((len:Int)+n - k).toNat | _=>0) ?_ ?_
  · exact ⟨_,Drop.refl _,0,c,by rw [Nat.zero_mul]; omega,by rw [Nat.zero_mul]; rfl,h0,J.le_refl,rfl⟩
  rintro vs g J' S' hJ' ⟨i,c',hi,rfl,hinv,hJJ,rfl⟩
  obtain ⟨k,hk⟩:∃ k,k=i * n:=⟨_,rfl⟩
  rw [← hk] at hi ⊢
  refine LoadD.own 1 rfl _ rfl rfl ?_
  refine CmpD.split (fun c1=>?_) (fun c1=>?_)
  · have hkl:k < len:=by omega
    refine CodeF.sched [[],[],[],[1,2],[1,2,3],[0,1,2,3,4],[0,1,2,3,4,5]] [0,1,2,3,4,5,6] (by kernel_rfl) ?_
    refine LoadP.at 2 rfl _ rfl rfl ?_
    refine LoadP.at 1 rfl _ rfl rfl ?_
    refine sliceD tabOk rfl rfl rfl rfl k len cap ⟨_,rfl⟩ rfl rfl (.inl rfl) (by omega) ?_
    refine Chk.mk ⟨rfl,trivial⟩ ?_
    obtain ⟨m,hm⟩:∃ m,m=min n (len - k):=⟨_,rfl⟩
    refine ToD.to (m:Int) (by split <;> omega) ?_
    refine LoadD.own 1 rfl _ rfl rfl ?_
    refine ToD.to ((k+m:Nat):Int) (by rw [wrap_i64 (by omega) (by omega)]; omega) ?_
    refine ToD.to ((k+m:Nat):Int) (by rw [wrap_i64 (by omega) (by omega)]; omega) ?_
    refine sliceD tabOk rfl rfl rfl rfl k (k+m) (k+m) ⟨_,rfl⟩ ⟨_,rfl⟩ ⟨_,rfl⟩ (.inr (by simp)) (by omega) ?_
    have hx:Value.slice (slAddr a k (k+m) 1) (k+m - k) (k+m - k)=partOf a len n i:=by
      unfold partOf; rw [← hk,← hm,Nat.add_sub_cancel_left]
    refine yieldD rfl rfl rfl (args:=#[partOf a len n i]) (by rw [← hx]; rfl) 0 rfl (hY i _ J' c' hJJ ⟨by omega,rfl⟩ hinv) ?_
    rintro b J2 c2 hle (⟨rfl,hi2⟩ | ⟨rfl,hs2⟩)
    · refine LoadD.own 2 rfl _ rfl rfl ?_
      refine ToD.to (((i+1) * n:Nat):Int) (by rw [wrap_i64 (by omega) (by omega),Nat.add_mul,← hk]; omega) ?_
      refine ⟨_,Drop.refl _,⟨i+1,c2,by rw [Nat.add_mul]; omega,rfl,hi2,Imm.le_trans hJJ hle,rfl⟩,?_⟩
      show ((len:Int)+n - (((i+1) * n:Nat):Int)).toNat < ((len:Int)+n - (k:Int)).toNat
      rw [Nat.add_mul,← hk]; omega
    · exact Done.mk ⟨c2,_,rfl,.inr hs2⟩
  · exact Done.mk ⟨c',_,rfl,.inl ⟨i,by omega,hinv⟩⟩
theorem chunk_of (a:Option Addr) (len cap n:Nat) (hn:0 < n) (I:Imm):Tri Tryz.prog 122 #[.slice a len cap,.int .i64 n] I [] fun v J S' =>
    ∃ b1 b2,v=.func (.func 178) #[] #[.pointer (some ⟨b1,0,none⟩),.pointer (some ⟨b2,0,none⟩)]∧I=J∧S'=chunkBoxes b1 b2 a len cap n:=by
  refine Tri.of (args:=[.slice a len cap,.int .i64 n]) tabOk Tryz.func122 rfl (by kernel_rfl) (by kernel_rfl) ?_
  conv=>whnf
  intro b1
  conv=>whnf
  intro b2
  refine LoadD.own 1 rfl _ rfl rfl ?_
  refine CmpD.no (by omega) ?_
  exact Done.mk ⟨b1,b2,rfl,rfl,rfl⟩
end Go.Proofs.YtegdcjnjnoeinaaGreat
namespace Go.Proofs.YtegdcjnjnoeinaaGreat
open Go.RowKit Go.Sl
theorem SeqC.wide {P:Program} {gf:FuncId} {lb:Array Value} {I:Imm} {Sit:St} {E E':Nat→Value→Prop} {fin:Nat→Prop} (h:SeqC P gf lb I Sit E fin) (he:∀ i x,E i x→E' i x):SeqC P gf lb I Sit E' fin :=
  fun l inv stp J c hJ hY h0=>h l inv stp J c hJ (fun i x J' c' hJ' hE=>hY i x J' c' hJ' (he i x hE)) h0
theorem chunk_at (b1 b2 b off len cap n:Nat) (hn:0 < n) (hc:len≤cap) (hlen:len+n≤9223372036854775807) (I:Imm) :
    SeqC Tryz.prog 178 #[.pointer (some ⟨b1,0,none⟩),.pointer (some ⟨b2,0,none⟩)] I (chunkBoxes b1 b2 (some ⟨b,off,none⟩) len cap n)
      (fun i x=>i * n < len∧x=.slice (some ⟨b,off+i * n,none⟩) (min n (len - i * n)) (min n (len - i * n))) (fun i=>len≤i * n):=by
  refine SeqC.wide (chunk_it b1 b2 _ len cap n hn hc hlen I) ?_
  rintro i x ⟨h1,rfl⟩
  refine ⟨h1,?_⟩
  unfold partOf slAddr
  rw [if_neg (by omega)]
  simp [add_none]
def stampB (e s:Nat):List UInt8:=be ((e * 2 ^ 40 % 2 ^ 64) ||| s) 8
theorem stampB_length (e s:Nat):(stampB e s).length=8:=be_length _ _
theorem record_stamp (I:Imm) (S:St) (e s:Nat) (he:e < 9223372036854775808) (hs:s < 9223372036854775808) :
    Tri Tryz.prog 148 #[.int .i64 e,.int .i64 s] I S fun v J S'=>∃ a cap ch,v=.slice a 8 cap∧OwnB ch a 8 cap (stampB e s)∧I=J∧S'=S++[ch]:=by
  refine Tri.of (args:=[.int .i64 e,.int .i64 s]) tabOk Tryz.func148 rfl (by kernel_rfl) (by kernel_rfl) ?_
  refine ToD.to (e:Int) (wrap_u64 e (by omega)) ?_
  refine Chk.mk (by omega) ?_
  refine ToD.to ((e * 2 ^ 40 % 2 ^ 64:Nat):Int) (by simp [IntKind.wrap,IntKind.signed,IntKind.bits]) ?_
  refine ToD.to (s:Int) (wrap_u64 s (by omega)) ?_
  refine ToD.to ((e * 2 ^ 40 % 2 ^ 64 ||| s:Nat):Int) (u64_or_nat _ _ (by omega) (by omega)) ?_
  refine (octets_Add64 I S none 0 0 [] ⟨rfl,.inl rfl⟩ (e * 2 ^ 40 % 2 ^ 64 ||| s) (Nat.or_lt_two_pow (n:=64) (by omega) (by omega)) (by omega)).mono ?_
  rintro v J S' hJ ⟨a,cap,ch,rfl,hown,rfl,rfl⟩
  exact Done.mk ⟨a,cap,ch,rfl,hown,rfl,rfl⟩
theorem stamps_of (a:Option Addr) (len cap:Nat) (I:Imm):Tri Tryz.prog 190 #[.slice a len cap] I [] fun v J S' =>
    ∃ b1,v=.func (.func 212) #[] #[.pointer (some ⟨b1,0,none⟩)]∧I=J∧S'=[[(b1,row [.slice a len cap] 32)]]:=by
  refine Tri.of (args:=[.slice a len cap]) tabOk Tryz.func190 rfl (by kernel_rfl) (by kernel_rfl) ?_
  conv=>whnf
  intro b1
  exact Done.mk ⟨b1,rfl,rfl,rfl⟩
theorem stamps_it (b1 b off len cap:Nat) (hc:len≤cap) (hlen:len+512≤9223372036854775807) (h8:len % 512=0) (I:Imm) :
    SeqC Tryz.prog 212 #[.pointer (some ⟨b1,0,none⟩)] I [[(b1,row [.slice (some ⟨b,off,none⟩) len cap] 32)]]
      (fun i x=>i * 512 < len∧x=.slice (some ⟨b,off+i * 512,none⟩) 8 512) (fun i=>len≤i * 512):=by
  intro l inv stp J c hJ hY h0
  refine Tri.of (args:=[.func (.yield l) #[] #[],.pointer (some ⟨b1,0,none⟩)]) tabOk Tryz.func212 rfl (by kernel_rfl) (by kernel_rfl) ?_
  conv=>whnf
  intro bY
  refine LoadD.own 1 rfl _ rfl rfl ?_
  refine Tri.frame (chunk_of (some ⟨b,off,none⟩) len cap 512 (by omega) J) [] rfl rfl ?_
  rintro v J1 A' hJ1 ⟨c1,c2,rfl,rfl,rfl⟩
  refine ⟨by simp,?_⟩
  refine CodeF.rangeF rfl [c,[(b1,row [.slice (some ⟨b,off,none⟩) len cap] 32)],[(bY,row [.func (.yield l) #[] #[]] 239)]] (chunkBoxes c1 c2 (some ⟨b,off,none⟩) len cap 512) (Drop.refl _) _ _ (chunk_at c1 c2 b off len cap 512 (by omega) hc hlen J)
    (fun i J' S'=>∃ c',S'=[c',[(b1,row [.slice (some ⟨b,off,none⟩) len cap] 32)],[(bY,row [.func (.yield l) #[] #[]] 239)]]∧inv i J' c')
    (fun e J' S'=>e=.ret∧∃ c' R,S'=c' :: R∧stp J' c') ⟨c,rfl,h0⟩ ?round ?done ?stop
  case round =>
    rintro i x J' S' hJ' ⟨hi,rfl⟩ ⟨c',rfl,hinv⟩
    refine CodeF.sched [[],[],[1],[0,1,2],[0,1,2,3]] [0,1,2,3,4] (by kernel_rfl) ?_
    refine LoadP.at 2 rfl _ rfl rfl ?_
    have hm:min 512 (len - i * 512)=512:=by omega
    rw [hm]
    refine sliceD tabOk rfl rfl rfl rfl 0 8 512 rfl ⟨_,rfl⟩ rfl (.inl rfl) (by omega) ?_
    refine Chk.mk ⟨rfl,trivial⟩ ?_
    have hx:Value.slice (slAddr (some ⟨b,off+i * 512,none⟩) 0 512 1) (8 - 0) (512 - 0)=.slice (some ⟨b,off+i * 512,none⟩) 8 512:=by simp [slAddr,add_none]
    refine yieldD rfl rfl rfl (args:=#[.slice (some ⟨b,off+i * 512,none⟩) 8 512]) (by rw [← hx]; rfl) 0 rfl (hY i _ J' c' hJ' ⟨hi,rfl⟩ hinv) ?_
    rintro y J2 c2 hle (⟨rfl,hi2⟩ | ⟨rfl,hs2⟩)
    · exact ⟨_,Drop.refl _,c2,rfl,hi2⟩
    · exact ⟨_,Drop.refl _,rfl,c2,_,rfl,hs2⟩
  case done =>
    rintro i J' S' hJ' hf ⟨c',rfl,hinv⟩
    exact Done.mk ⟨c',_,rfl,.inl ⟨i,hf,hinv⟩⟩
  case stop =>
    rintro e J' S' hJ' ⟨rfl,c',R,rfl,hs⟩
    exact Done.mk ⟨c',_,rfl,.inr hs⟩
end Go.Proofs.YtegdcjnjnoeinaaGreat
namespace Go.Proofs.YtegdcjnjnoeinaaGreat
open Go.RowKit Go.Sl
theorem clone_bytes (I:Imm) (S:St) (a:Option Addr) (len cap:Nat) (vs:List Value) (h:SlC I S a (len * 1) vs) (h1:∀ u ∈ vs,Plain u=true) (hlen:len * 1≤140737488355328) :
    Tri Tryz.prog 86 #[.slice a len cap] I S fun v J S'=>∃ a' cap' ch,v=.slice a' len cap'∧OwnC ch 1 a' len cap' vs∧I=J∧S'=S++[ch]:=by
  refine Tri.drop ?_ (fun _ _ _ _ h=>h)
  refine Tri.of (args:=[.slice a len cap]) tabOk Tryz.func86 rfl (by kernel_rfl) (by kernel_rfl) ?_
  cases a with
  | none =>
    have h0:=SlC.nil_len h
    obtain rfl:len=0:=by omega
    have:vs=[]:=List.length_eq_zero_iff.1 (by simpa using h.len)
    subst this
    exact Done.mk ⟨_,Drop.and (Drop.refl _),none,0,[],rfl,OwnC.nil _ _,rfl,rfl⟩
  | some p =>
    conv=>whnf
    intro b
    refine appendD tabOk rfl rfl rfl rfl rfl rfl rfl S.length (last_get S _) (OwnC.whole (vs:=[]) rfl) (SrcOk.slice tabOk rfl (h.more _) h1) rfl (by show (0+len) * 1≤_; omega) (by omega) ?_
    intro a' cap' ch hown
    rw [last_set]
    rw [Nat.zero_add] at hown ⊢
    exact Done.mk ⟨_,Drop.refl _,a',cap',ch,rfl,hown,rfl,rfl⟩
theorem clone_blocks (I:Imm) (S:St) (a:Option Addr) (len cap:Nat) (vs:List Value) (h:SlC I S a (len * 1) vs) (h1:∀ u ∈ vs,Plain u=true) (hlen:len * 24≤140737488355328) :
    Tri Tryz.prog 102 #[.slice a len cap] I S fun v J S'=>∃ a' cap' ch,v=.slice a' len cap'∧OwnC ch 1 a' len cap' vs∧I=J∧S'=S++[ch]:=by
  refine Tri.drop ?_ (fun _ _ _ _ h=>h)
  refine Tri.of (args:=[.slice a len cap]) tabOk Tryz.func102 rfl (by kernel_rfl) (by kernel_rfl) ?_
  cases a with
  | none =>
    have h0:=SlC.nil_len h
    obtain rfl:len=0:=by omega
    have:vs=[]:=List.length_eq_zero_iff.1 (by simpa using h.len)
    subst this
    exact Done.mk ⟨_,Drop.and (Drop.refl _),none,0,[],rfl,OwnC.nil _ _,rfl,rfl⟩
  | some p =>
    conv=>whnf
    intro b
    refine appendD tabOk rfl rfl rfl rfl rfl rfl rfl S.length (last_get S _) (OwnC.whole (vs:=[]) rfl) (SrcOk.slice tabOk rfl (h.more _) h1) rfl (by show (0+len) * 24≤_; omega) (by omega) ?_
    intro a' cap' ch hown
    rw [last_set]
    rw [Nat.zero_add] at hown ⊢
    exact Done.mk ⟨_,Drop.refl _,a',cap',ch,rfl,hown,rfl,rfl⟩
end Go.Proofs.YtegdcjnjnoeinaaGreat
namespace Go.Proofs.YtegdcjnjnoeinaaGreat
open Go.RowKit Go.Sl
set_option maxRecDepth 20000
def put8 (l m:List UInt8) (i:Nat):List UInt8:=l.take (i * 512)++m++l.drop (i * 512+8)
def markK (m l:List UInt8):Nat→List UInt8
  | 0=>l
  | k+1=>put8 (markK m l k) m k
def hidK (l:List UInt8):Nat→List UInt8
  | 0=>[]
  | k+1=>hidK l k++(l.drop (k * 512)).take 8
theorem markK_zero (m l:List UInt8):markK m l 0=l:=rfl
theorem markK_succ (m l:List UInt8) (k:Nat):markK m l (k+1)=put8 (markK m l k) m k:=rfl
theorem hidK_zero (l:List UInt8):hidK l 0=[]:=rfl
theorem hidK_succ (l:List UInt8) (k:Nat):hidK l (k+1)=hidK l k++(l.drop (k * 512)).take 8:=rfl
attribute [irreducible] markK hidK
theorem markK_length {m l:List UInt8} (hm:m.length=8) (k:Nat) (h:k * 512≤l.length) (h0:l.length % 512=0):(markK m l k).length=l.length:=by
  induction k with
  | zero=>rw [markK_zero]
  | succ k ih =>
    have ih:=ih (by omega)
    simp only [markK_succ,put8,List.length_append,List.length_take,List.length_drop,ih,hm]
    omega
theorem markK_rest {m l:List UInt8} (hm:m.length=8) (k:Nat) (h:k * 512≤l.length) (h0:l.length % 512=0):(markK m l k).drop (k * 512)=l.drop (k * 512):=by
  induction k with
  | zero=>rw [markK_zero]
  | succ k ih =>
    have ih:=ih (by omega)
    have hl:=markK_length (l:=l) hm k (by omega) h0
    have e:(k+1) * 512=(((markK m l k).take (k * 512)++m).length)+504:=by
      rw [List.length_append,List.length_take,hl,hm]; omega
    rw [markK_succ]
    unfold put8
    rw [e,← List.drop_drop,List.drop_left,List.drop_drop,← e]
    have e2:k * 512+8+504=k * 512+512:=by omega
    have e3:(k+1) * 512=k * 512+512:=by omega
    rw [e2,e3,← List.drop_drop,ih,List.drop_drop]
theorem hidK_length (l:List UInt8) (k:Nat) (h:k * 512≤l.length) (h0:l.length % 512=0):(hidK l k).length=8 * k:=by
  induction k with
  | zero=>rw [hidK_zero]; rfl
  | succ k ih =>
    have ih:=ih (by omega)
    rw [hidK_succ,List.length_append,ih,List.length_take,List.length_drop]; omega
theorem bts_put8 (l m:List UInt8) (i:Nat):bts (put8 l m i)=(bts l).take (i * 512)++bts m++(bts l).drop (i * 512+8):=by
  simp [bts,put8,List.map_take,List.map_drop]
theorem marked_one (c0:List Blk) (I:Imm) (a:Option Addr) (len cap:Nat) (l:List UInt8) (h:SlC I [c0] a len (bts l)) (h0:len % 512=0) (hp:0 < len) (hlen:len≤1000000)
    (aM:Option Addr) (capM:Nat) (m:List UInt8) (hm:SlC I [c0] aM 8 (bts m)) :
    Tri Tryz.prog 149 #[.slice a len cap,.slice aM 8 capM] I [c0] fun v J S'=>∃ a1 cap1 ch1 a2 cap2 ch2,v=.tuple #[.slice a1 len cap1,.slice a2 (8 * (len / 512)) cap2] ∧
      OwnB ch1 a1 len cap1 (markK m l (len / 512))∧OwnB ch2 a2 (8 * (len / 512)) cap2 (hidK l (len / 512))∧I=J∧S'=[c0,ch1,ch2]:=by
  have hll:l.length=len:=by rw [← bts_length,h.len]
  have hml:m.length=8:=by rw [← bts_length,hm.len]
  refine Tri.drop ?_ (fun _ _ _ _ h=>h)
  refine Tri.of (args:=[.slice a len cap,.slice aM 8 capM]) tabOk Tryz.func149 rfl (by kernel_rfl) (by kernel_rfl) ?_
  conv=>whnf
  intro b3
  refine (clone_bytes I _ a len cap (bts l) (by rw [Nat.mul_one]; exact h.mores [_]) (bts_plain l) (by omega)).mono ?_
  rintro v J S' hJ ⟨a1,cap1,ch1,rfl,hown1,rfl,rfl⟩
  rcases hown1.at' with q0 | ⟨bO,pre,post,TO,rfl,rfl,hpost⟩
  · have:=hown1.le; omega
  conv=>whnf
  intro b7
  refine Tri.frame (stamps_of (some ⟨bO,pre.length,none⟩) len cap1 I) [] rfl rfl ?_
  rintro v J A' hJ ⟨bS,rfl,rfl,rfl⟩
  refine ⟨by simp,?_⟩
  refine CodeF.rangeF rfl [c0,[(b3,row [.slice aM 8 capM] 32)],[(bO,row (pre++bts l++post) TO)],[(b7,row [.slice none 0 0] 32)],[]] [[(bS,row [.slice (some ⟨bO,pre.length,none⟩) len cap1] 32)]] ⟨[],by simp; rfl⟩ _ _ (stamps_it bS bO pre.length len cap1 hown1.le (by omega) h0 I)
    (fun i J' S'=>i * 512≤len∧I=J'∧∃ ah caph chH,S'=[c0,[(b3,row [.slice aM 8 capM] 32)],[(bO,row (pre++bts (markK m l i)++post) TO)],[(b7,row [.slice ah (8 * i) caph] 32)],chH]∧OwnB chH ah (8 * i) caph (hidK l i))
    (fun _ _ _=>False) ⟨by omega,rfl,none,0,[],by rw [markK_zero],by rw [hidK_zero]; exact OwnC.nil _ _⟩ ?round ?done ?stop
  case round =>
    rintro i x J' S' hJ' ⟨hi,rfl⟩ ⟨hi2,rfl,ah,caph,chH,rfl,hownH⟩
    have hXl:=markK_length (l:=l) hml i (by omega) (by omega)
    have hcells:SlC I [c0,[(b3,row [.slice aM 8 capM] 32)],[(bO,row (pre++bts (markK m l i)++post) TO)],[(b7,row [.slice ah (8 * i) caph] 32)],chH] (some ⟨bO,pre.length+i * 512,none⟩) (8 * 1) (bts ((l.drop (i * 512)).take 8)):=by
      have ht:=take_part (own_take pre (bts (markK m l i)) post) (i:=i * 512) (m:=8) (by rw [bts_length]; omega)
      have e:((bts (markK m l i)).drop (i * 512)).take 8=bts ((l.drop (i * 512)).take 8):=by
        rw [bts,← List.map_drop,← List.map_take,markK_rest hml i (by omega) (by omega)]; rfl
      rw [e] at ht
      have hl8:(bts ((l.drop (i * 512)).take 8)).length=8:=by rw [bts_length,List.length_take,List.length_drop]; omega
      exact ⟨hl8,.inr ⟨bO,_,rfl,⟨_,TO,(0,0),.one 2 rfl,ht,hl8⟩⟩⟩
    refine LoadD.own 3 rfl _ rfl rfl ?_
    refine appendD tabOk rfl rfl rfl rfl rfl rfl rfl 4 rfl hownH (SrcOk.slice (n:=8) tabOk rfl hcells (bts_plain _)) rfl (by show (8 * i+8) * 1≤_; omega) (by omega) ?_
    intro ah' caph' chH' hownH'
    refine StoreD.st 3 rfl rfl rfl ?_
    refine LoadD.own 1 rfl _ rfl rfl ?_
    refine copyD tabOk rfl rfl rfl rfl rfl rfl rfl 2 rfl (SrcOk.slice (n:=8) tabOk rfl (hm.mores [_,_,_,_]) (bts_plain _)) (Nat.le_refl _) (by simp only [List.length_append,bts_length]; show pre.length+i * 512+8 * 1≤_; omega) (Nat.le_refl _) ?_
    have hsp:splice (pre++bts (markK m l i)++post) (pre.length+i * 512) (bts m)=pre++bts (markK m l (i+1))++post:=by
      rw [splice_mid _ _ _ _ _ (by rw [bts_length,bts_length]; omega),markK_succ,bts_put8,bts_length,hml]
    rw [hsp]
    refine ⟨_,Drop.refl _,by omega,rfl,ah',caph',chH',rfl,?_⟩
    rw [hidK_succ,show 8 * (i+1)=8 * i+8 by omega,OwnB,bts_append]
    exact hownH'
  case done =>
    rintro i J' S' hJ' hf ⟨hi2,rfl,ah,caph,chH,rfl,hownH⟩
    have hi:i=len / 512:=by omega
    subst hi
    refine CodeF.sched [[],[],[0],[0,1,2]] [0,1,2,3] (by kernel_rfl) ?_
    refine LoadP.at 3 rfl _ rfl rfl ?_
    refine Done.mk ⟨_,Drop.pick [0,2,4] _ rfl,_,_,_,_,_,_,rfl,⟨by rw [bts_length,markK_length hml _ (by omega) (by omega)]; omega,hown1.le,.inr ⟨bO,pre,post,TO,rfl,rfl,hpost⟩⟩,hownH,rfl,rfl⟩
  case stop =>
    rintro e J' S' hJ' hs
    exact hs.elim
end Go.Proofs.YtegdcjnjnoeinaaGreat
namespace Go.Proofs.YtegdcjnjnoeinaaGreat
open Go.RowKit Go.Sl
set_option maxRecDepth 20000
def sprK (m l:List UInt8):Nat→List UInt8
  | 0=>[]
  | k+1=>sprK m l k++m++(l.drop (k * 504)).take 504
theorem sprK_zero (m l:List UInt8):sprK m l 0=[]:=rfl
theorem sprK_succ (m l:List UInt8) (k:Nat):sprK m l (k+1)=sprK m l k++m++(l.drop (k * 504)).take 504:=rfl
attribute [irreducible] sprK
theorem spread_one (c0 chIn:List Blk) (I:Imm) (a:Option Addr) (cap:Nat) (l:List UInt8) (hin:OwnB chIn a 4032 cap l)
    (aM:Option Addr) (capM:Nat) (m:List UInt8) (hm:SlC I [c0] aM 8 (bts m)) :
    Tri Tryz.prog 153 #[.slice a 4032 cap,.slice aM 8 capM] I [c0,chIn] fun v J S'=>∃ a2 cap2 ch2,v=.slice a2 4096 cap2∧OwnB ch2 a2 4096 cap2 (sprK m l 8)∧I=J∧S'=[c0,ch2]:=by
  have hll:l.length=4032:=by rw [← bts_length,hin.n]
  refine Tri.drop ?_ (fun _ _ _ _ h=>h)
  refine Tri.of (args:=[.slice a 4032 cap,.slice aM 8 capM]) tabOk Tryz.func153 rfl (by kernel_rfl) (by kernel_rfl) ?_
  conv=>whnf
  intro b3
  refine ToD.i64 (by omega) (by omega) ?_
  refine appendZD tabOk rfl rfl rfl rfl rfl rfl rfl rfl 1 rfl hin 0 rfl rfl (by decide) (by intro v hv; have hv:v ∈ [Value.int .u8 0]:=hv; simp at hv; subst hv; rfl) (by show (4032+0) * 1≤_; omega) (by omega) ?_
  intro a1 cap1 ch1 hown1
  have hown1:OwnC ch1 1 a1 4032 cap1 (bts l++[]):=hown1
  rw [List.append_nil] at hown1
  rcases hown1.at' with q0 | ⟨bI,pre,post,TI,rfl,rfl,hpost⟩
  · have:=hown1.le; omega
  conv=>whnf
  intro b5
  refine Tri.frame (chunk_of (some ⟨bI,pre.length,none⟩) 4032 cap1 504 (by omega) I) [] rfl rfl ?_
  rintro v J A' hJ ⟨c1,c2,rfl,rfl,rfl⟩
  refine ⟨by simp,?_⟩
  refine CodeF.rangeF rfl [c0,[(bI,row (pre++bts l++post) TI)],[(b3,row [.slice aM 8 capM] 32)],[(b5,row [.slice none 0 0] 32)],[]] (chunkBoxes c1 c2 (some ⟨bI,pre.length,none⟩) 4032 cap1 504) ⟨[],by simp; rfl⟩ _ _ (chunk_at c1 c2 bI pre.length 4032 cap1 504 (by omega) hown1.le (by omega) I)
    (fun i J' S'=>i≤8∧I=J'∧∃ ah caph chH,S'=[c0,[(bI,row (pre++bts l++post) TI)],[(b3,row [.slice aM 8 capM] 32)],[(b5,row [.slice ah (512 * i) caph] 32)],chH]∧OwnB chH ah (512 * i) caph (sprK m l i))
    (fun _ _ _=>False) ⟨by omega,rfl,none,0,[],rfl,by rw [sprK_zero]; exact OwnC.nil _ _⟩ ?round ?done ?stop
  case round =>
    rintro i x J' S' hJ' ⟨hi,rfl⟩ ⟨hi2,rfl,ah,caph,chH,rfl,hownH⟩
    have hmin:min 504 (4032 - i * 504)=504:=by omega
    rw [hmin]
    refine LoadD.own 3 rfl _ rfl rfl ?_
    refine LoadD.own 2 rfl _ rfl rfl ?_
    refine appendD tabOk rfl rfl rfl rfl rfl rfl rfl 4 rfl hownH (SrcOk.slice (n:=8) tabOk rfl (hm.mores [_,_,_,_]) (bts_plain _)) rfl (by show (512 * i+8) * 1≤_; omega) (by omega) ?_
    intro ah1 caph1 chH1 hownH1
    have hcells:SlC I [c0,[(bI,row (pre++bts l++post) TI)],[(b3,row [.slice aM 8 capM] 32)],[(b5,row [.slice ah (512 * i) caph] 32)],chH1] (some ⟨bI,pre.length+i * 504,none⟩) (504 * 1) (bts ((l.drop (i * 504)).take 504)):=by
      have ht:=take_part (own_take pre (bts l) post) (i:=i * 504) (m:=504) (by rw [bts_length]; omega)
      have e:((bts l).drop (i * 504)).take 504=bts ((l.drop (i * 504)).take 504):=by
        rw [bts,← List.map_drop,← List.map_take]; rfl
      rw [e] at ht
      have hl8:(bts ((l.drop (i * 504)).take 504)).length=504:=by rw [bts_length,List.length_take,List.length_drop]; omega
      exact ⟨hl8,.inr ⟨bI,_,rfl,⟨_,TI,(0,0),.one 1 rfl,ht,hl8⟩⟩⟩
    refine appendD tabOk rfl rfl rfl rfl rfl rfl rfl 4 rfl hownH1 (SrcOk.slice (n:=504) tabOk rfl hcells (bts_plain _)) rfl (by show (512 * i+8+504) * 1≤_; omega) (by omega) ?_
    intro ah2 caph2 chH2 hownH2
    refine StoreD.st 3 rfl rfl rfl ?_
    have e5:512 * i+8+504=512 * (i+1):=by omega
    refine ⟨_,Drop.refl _,by omega,rfl,ah2,caph2,chH2,by rw [← e5]; rfl,?_⟩
    rw [sprK_succ,← e5,OwnB,bts_append,bts_append]
    exact hownH2
  case done =>
    rintro i J' S' hJ' hf ⟨hi2,rfl,ah,caph,chH,rfl,hownH⟩
    obtain rfl:i=8:=by omega
    refine LoadD.own 3 rfl _ rfl rfl ?_
    exact Done.mk ⟨_,Drop.pick [0,4] _ rfl,ah,caph,chH,rfl,hownH,rfl,rfl⟩
  case stop =>
    rintro e J' S' hJ' hs
    exact hs.elim
end Go.Proofs.YtegdcjnjnoeinaaGreat
namespace Go.Proofs.YtegdcjnjnoeinaaGreat
open Go.RowKit Go.Sl
def turn (r:Nat):Nat:=if r % 2=1 then (r / 2) ^^^ 2197175160 else r / 2
def turns:Nat→Nat→Nat
  | 0,r=>r
  | k+1,r=>turn (turns k r)
def crcReg (r:Nat) (l:List UInt8):Nat:=l.foldl (fun r c=>turns 8 (r ^^^ c.toNat)) r
def crcMore (sum:Nat) (l:List UInt8):Nat:=crcReg (sum ^^^ 4294967295) l ^^^ 4294967295
theorem turn_lt {r:Nat} (h:r < 4294967296):turn r < 4294967296:=by
  unfold turn
  split
  · exact Nat.xor_lt_two_pow (n:=32) (by omega) (by omega)
  · omega
theorem turns_lt {r:Nat} (h:r < 4294967296):∀ k,turns k r < 4294967296
  | 0=>h
  | k+1=>turn_lt (turns_lt h k)
theorem crcReg_lt {r:Nat} (h:r < 4294967296) (l:List UInt8):crcReg r l < 4294967296:=by
  induction l generalizing r with
  | nil=>exact h
  | cons c l ih =>
    have:=c.toNat_lt
    exact ih (turns_lt (Nat.xor_lt_two_pow (n:=32) h (by omega)) 8)
theorem crcReg_snoc (r:Nat) (l:List UInt8) (c:UInt8):crcReg r (l++[c])=turns 8 (crcReg r l ^^^ c.toNat):=by simp [crcReg]
theorem wrap_u32 (v:Nat) (h:v < 4294967296):IntKind.u32.wrap (v:Int)=(v:Int):=wrap_u rfl (by omega) (by show (v:Int) < 2 ^ 32; omega)
theorem not_u32 (n:Nat) (h:n < 4294967296):bits .xor .u32 (if IntKind.u32.signed then -1 else IntKind.u32.max) (n:Int)=((n ^^^ 4294967295:Nat):Int):=by
  show bits .xor .u32 ((4294967295:Nat):Int) (n:Int)=_
  rw [u32_xor_nat _ _ (by decide) h,Nat.xor_comm]
theorem sums_turn (b:Nat) (r:Nat) (hr:r < 4294967296) (I:Imm):Tri Tryz.prog 213 #[.pointer (some ⟨b,0,none⟩)] I [[(b,row [.int .u32 r] 206)]] fun _ J S'=>I=J∧S'=[[(b,row [.int .u32 (turn r)] 206)]]:=by
  refine Tri.of (args:=[.pointer (some ⟨b,0,none⟩)]) tabOk Tryz.func213 rfl (by kernel_rfl) (by kernel_rfl) ?_
  refine LoadD.own 0 rfl _ rfl rfl ?_
  refine ToD.to ((r % 2:Nat):Int) (by rw [show (1:Int)=((1:Nat):Int) from rfl,u32_and_nat r 1 hr (by omega),Nat.and_one_is_mod]) ?_
  refine LoadD.own 0 rfl _ rfl rfl ?_
  refine Chk.mk (by omega) ?_
  refine ToD.to ((r / 2:Nat):Int) (by rw [show (1:Int).toNat=1 from rfl,show min 1 IntKind.u32.bits=1 from rfl,Int.fdiv_eq_ediv_of_nonneg _ (by omega)]; omega) ?_
  refine StoreD.st 0 rfl rfl rfl ?_
  refine CmpD.split (fun c=>?_) (fun c=>?_)
  · refine LoadD.own 0 rfl _ rfl rfl ?_
    refine ToD.to (((r / 2) ^^^ 2197175160:Nat):Int) (u32_xor_nat _ _ (by omega) (by decide)) ?_
    refine StoreD.st 0 rfl rfl rfl ?_
    refine Done.mk ⟨rfl,?_⟩
    rw [turn,if_pos (by omega)]; rfl
  · refine Done.mk ⟨rfl,?_⟩
    rw [turn,if_neg (by omega)]; rfl
theorem sums_More (I:Imm) (S:St) (sum:Nat) (hsum:sum < 4294967296) (a:Option Addr) (len cap:Nat) (l:List UInt8) (h:SlC I S a len (bts l)) (hlen:len≤9223372036854775806) :
    Tri Tryz.prog 192 #[.int .u32 sum,.slice a len cap] I S fun v J S'=>v=.int .u32 (crcMore sum l)∧I=J∧S'=S:=by
  have hll:l.length=len:=by rw [← bts_length,h.len]
  refine Tri.drop ?_ (fun _ _ _ _ h=>h)
  refine Tri.of (args:=[.int .u32 sum,.slice a len cap]) tabOk Tryz.func192 rfl (by kernel_rfl) (by kernel_rfl) ?_
  refine ToD.to ((sum ^^^ 4294967295:Nat):Int) (not_u32 sum hsum) ?_
  conv=>whnf
  intro b
  refine StoreD.st S.length (last_get S _) rfl rfl ?_
  rw [last_set]
  have hs0:sum ^^^ 4294967295 < 4294967296:=Nat.xor_lt_two_pow (n:=32) hsum (by decide)
  refine CodeF.loopD [5,6,12,13,14] (fun vs J S'=>∃ i:Nat,i≤len∧vs=[.pointer (some ⟨b,0,none⟩),.func (.func 213) #[] #[.pointer (some ⟨b,0,none⟩)],.slice a len cap,.int .i64 len,.int .i64 i]∧I=J ∧
      S'=S++[[(b,row [.int .u32 (crcReg (sum ^^^ 4294967295) (l.take i))] 206)]])
    (fun vs _ _=>match vs with | [_,_,_,_,.int _ i]=>((len:Int) - i).toNat | _=>0) ?_ ?_
  · exact ⟨_,Drop.refl _,0,by omega,rfl,rfl,rfl⟩
  rintro vs g J S' hJ ⟨i,hi,rfl,rfl,rfl⟩
  have hreg:=crcReg_lt hs0 (l.take i)
  refine CmpD.split (fun c1=>?_) (fun c1=>?_)
  · rcases h.mem with h0 | ⟨bA,off,rfl,hcA⟩
    · omega
    have hil:i < l.length:=by omega
    refine Chk.mk (by omega) ?_
    refine LoadD.mk [byte l[i]] ?_ ?_
    · have:=(h.more [(b,row [.int .u32 (crcReg (sum ^^^ 4294967295) (l.take i))] 206)]).mem
      rcases this with h0 | ⟨bB,off2,hB,hcB⟩
      · omega
      · cases hB
        exact hcB.at (bts_get (List.getElem?_eq_getElem hil))
    have hb8:=(l[i]).toNat_lt
    refine LoadD.own S.length (last_get S _) _ rfl rfl ?_
    refine ToD.to ((l[i]).toNat:Int) (wrap_u32 _ (by omega)) ?_
    refine ToD.to ((crcReg (sum ^^^ 4294967295) (l.take i) ^^^ (l[i]).toNat:Nat):Int) (u32_xor_nat _ _ hreg (by omega)) ?_
    refine StoreD.st S.length (last_get S _) rfl rfl ?_
    rw [last_set]
    obtain ⟨r,hr⟩:∃ r,r=crcReg (sum ^^^ 4294967295) (l.take i) ^^^ (l[i]).toNat:=⟨_,rfl⟩
    have hrl:r < 4294967296:=by rw [hr]; exact Nat.xor_lt_two_pow (n:=32) hreg (by omega)
    rw [← hr]
    refine CodeF.loopD [5,6,12,13,14,22] (fun vs J S'=>∃ k:Nat,k≤8∧vs=[.pointer (some ⟨b,0,none⟩),.func (.func 213) #[] #[.pointer (some ⟨b,0,none⟩)],.slice (some ⟨bA,off,none⟩) len cap,.int .i64 len,.int .i64 i,.int .i64 k]∧I=J ∧
        S'=S++[[(b,row [.int .u32 (turns k r)] 206)]])
      (fun vs _ _=>match vs with | [_,_,_,_,_,.int _ k]=>((8:Int) - k).toNat | _=>0) ?_ ?_
    · exact ⟨_,Drop.refl _,0,by omega,rfl,rfl,rfl⟩
    rintro vs g J S' hJ ⟨k,hk,rfl,rfl,rfl⟩
    refine CmpD.split (fun c2=>?_) (fun c2=>?_)
    · refine Tri.frame1 S.length (last_get S _) (sums_turn b _ (turns_lt hrl k) _) ?_
      rintro v J S' hJ ⟨rfl,rfl⟩
      refine ⟨_,rfl,?_⟩
      rw [spineS_eq,last_set]
      refine ToD.i64 (by omega) (by omega) ?_
      refine ⟨_,Drop.refl _,⟨k+1,by omega,rfl,rfl,rfl⟩,?_⟩
      show ((8:Int) - ((k:Int)+1)).toNat < ((8:Int) - (k:Int)).toNat
      omega
    obtain rfl:k=8:=by omega
    refine ToD.i64 (by omega) (by omega) ?_
    refine ⟨_,Drop.refl _,⟨i+1,by omega,rfl,rfl,?_⟩,?_⟩
    · have:l.take (i+1)=l.take i++[l[i]]:=by rw [List.take_add_one,List.getElem?_eq_getElem hil]; rfl
      rw [this,crcReg_snoc,← hr]
    · show ((len:Int) - ((i:Int)+1)).toNat < ((len:Int) - (i:Int)).toNat
      omega
  refine LoadD.own S.length (last_get S _) _ rfl rfl ?_
  refine ToD.to ((crcReg (sum ^^^ 4294967295) (l.take i) ^^^ 4294967295:Nat):Int) (not_u32 _ hreg) ?_
  refine Done.mk ⟨_,Drop.init _ _,?_,rfl,rfl⟩
  rw [crcMore,List.take_of_length_le (by omega)]; rfl
theorem sums_Crc (I:Imm) (S:St) (a:Option Addr) (len cap:Nat) (l:List UInt8) (h:SlC I S a len (bts l)) (hlen:len≤9223372036854775806) :
    Tri Tryz.prog 152 #[.slice a len cap] I S fun v J S'=>v=.int .u32 (crcMore 0 l)∧I=J∧S'=S:=by
  refine Tri.of (args:=[.slice a len cap]) tabOk Tryz.func152 rfl (by kernel_rfl) (by kernel_rfl) ?_
  refine (sums_More I S 0 (by omega) a len cap l h hlen).mono ?_
  rintro v J S' hJ ⟨rfl,rfl,rfl⟩
  exact Done.mk ⟨rfl,rfl,rfl⟩
end Go.Proofs.YtegdcjnjnoeinaaGreat
namespace Go.Proofs.YtegdcjnjnoeinaaGreat
open Go.RowKit Go.Sl
theorem fixB {P:Program} {f:FuncId} {args:Array Value} {I:Imm} {n:Nat} {l:List UInt8} (h:Tri P f args I [] fun v J S'=>∃ a cap ch,v=.slice a n cap∧OwnB ch a n cap l∧I=J∧S'=[]++[ch]) :
    Tri P f args I [] fun v J _=>∃ a cap,v=.slice a n cap∧Rds J a n (bts l):=by
  refine Tri.fixed h ?_
  rintro v J S' hJ ⟨a,cap,ch,rfl,hown,rfl,rfl⟩
  exact ⟨0,ch,rfl,fun J' hJ' hm=>⟨a,cap,rfl,Rds.of_own hown hm⟩⟩
theorem stamp_fix (e s:Nat) (he:e < 9223372036854775808) (hs:s < 9223372036854775808) (I:Imm) :
    Tri Tryz.prog 148 #[.int .i64 e,.int .i64 s] I [] fun v J _=>∃ a cap,v=.slice a 8 cap∧Rds J a 8 (bts (stampB e s)):=fixB (record_stamp I [] e s he hs)
theorem marked_fix (I:Imm) (a:Option Addr) (len cap:Nat) (l:List UInt8) (h:Rds I a len (bts l)) (h0:len % 512=0) (hp:0 < len) (hlen:len≤1000000) (aM:Option Addr) (capM:Nat) (m:List UInt8) (hm:Rds I aM 8 (bts m)) :
    Tri Tryz.prog 149 #[.slice a len cap,.slice aM 8 capM] I [] fun v J _=>∃ a1 cap1 a2 cap2,v=.tuple #[.slice a1 len cap1,.slice a2 (8 * (len / 512)) cap2] ∧
      Rds J a1 len (bts (markK m l (len / 512)))∧Rds J a2 (8 * (len / 512)) (bts (hidK l (len / 512))):=by
  have h1:=marked_one [] I a len cap l h.slC h0 hp hlen aM capM m hm.slC
  have h2:Tri Tryz.prog 149 #[.slice a len cap,.slice aM 8 capM] I [] fun v J S'=>∃ a1 cap1 ch1 a2 cap2 ch2,v=.tuple #[.slice a1 len cap1,.slice a2 (8 * (len / 512)) cap2] ∧
      OwnB ch1 a1 len cap1 (markK m l (len / 512))∧OwnB ch2 a2 (8 * (len / 512)) cap2 (hidK l (len / 512))∧I=J∧S'=[[],ch1,ch2]:=Tri.lay (S2:=[[]]) rfl h1
  refine Tri.fixed (Tri.fixed h2 (K:=fun v J S'=>∃ a1 cap1 a2 cap2 ch2,v=.tuple #[.slice a1 len cap1,.slice a2 (8 * (len / 512)) cap2]∧Rds J a1 len (bts (markK m l (len / 512)))∧OwnB ch2 a2 (8 * (len / 512)) cap2 (hidK l (len / 512))∧S'=[[],[],ch2]) ?_) ?_
  · rintro v J S' hJ ⟨a1,cap1,ch1,a2,cap2,ch2,rfl,o1,o2,rfl,rfl⟩
    exact ⟨1,ch1,rfl,fun J' hJ' hm=>⟨a1,cap1,a2,cap2,ch2,rfl,Rds.of_own o1 hm,o2,rfl⟩⟩
  · rintro v J S' hJ ⟨a1,cap1,a2,cap2,ch2,rfl,o1,o2,rfl⟩
    exact ⟨2,ch2,rfl,fun J' hJ' hm=>⟨a1,cap1,a2,cap2,rfl,o1.mono hJ',Rds.of_own o2 hm⟩⟩
theorem spread_fix (chIn:List Blk) (I:Imm) (a:Option Addr) (cap:Nat) (l:List UInt8) (hin:OwnB chIn a 4032 cap l) (aM:Option Addr) (capM:Nat) (m:List UInt8) (hm:Rds I aM 8 (bts m)) :
    Tri Tryz.prog 153 #[.slice a 4032 cap,.slice aM 8 capM] I [chIn] fun v J S'=>∃ a2 cap2,v=.slice a2 4096 cap2∧Rds J a2 4096 (bts (sprK m l 8))∧S'=[[]]:=by
  have h2:Tri Tryz.prog 153 #[.slice a 4032 cap,.slice aM 8 capM] I [chIn] fun v J S'=>∃ a2 cap2 ch2,v=.slice a2 4096 cap2∧OwnB ch2 a2 4096 cap2 (sprK m l 8)∧I=J∧S'=[[],ch2] :=
    Tri.lay (S2:=[[],chIn]) rfl (spread_one [] chIn I a cap l hin aM capM m hm.slC)
  refine Tri.drop (Tri.fixed h2 (K:=fun v J S'=>∃ a2 cap2,v=.slice a2 4096 cap2∧Rds J a2 4096 (bts (sprK m l 8))∧S'=[[],[]]) ?_) ?_
  · rintro v J S' hJ ⟨a2,cap2,ch2,rfl,o1,rfl,rfl⟩
    exact ⟨1,ch2,rfl,fun J' hJ' hm=>⟨a2,cap2,rfl,Rds.of_own o1 hm,rfl⟩⟩
  · rintro v J S' hJ ⟨a2,cap2,rfl,o1,rfl⟩
    exact ⟨[[]],⟨[],by simp⟩,a2,cap2,rfl,o1,rfl⟩
end Go.Proofs.YtegdcjnjnoeinaaGreat
namespace Go.Proofs.YtegdcjnjnoeinaaGreat
open Go.RowKit Go.Sl
set_option maxRecDepth 20000
structure Bk where
  a:Option Addr
  cap:Nat
  data:List UInt8
@[reducible] def Bk.cell (b:Bk):Value:=.slice b.a 4096 b.cap
def hidAll (gs:List Img):List UInt8:=gs.flatMap fun g=>be g.blk.toNat 2++hidK g.data 8
theorem hidAll_snoc (gs:List Img) (g:Img):hidAll (gs++[g])=hidAll gs++(be g.blk.toNat 2++hidK g.data 8):=by simp [hidAll]
def listL (gs:List Img):List UInt8:=hidAll gs++List.replicate (4026 - 66 * gs.length) 0
def headL (gs:List Img):List UInt8:=be gs.length 2++be (crcMore 0 (listL gs)) 4++listL gs
def putL (e s:Nat) (gs:List Img):List (List UInt8):=sprK (stampB e s) (headL gs) 8 :: gs.map fun g=>markK (stampB e s) g.data 8
theorem rows_zero (n:Nat):rows n [Value.int .u8 0]=bts (List.replicate n 0):=by
  induction n with
  | zero=>rfl
  | succ n ih =>
    have e:rows (n+1) [Value.int .u8 0]=Value.int .u8 0 :: rows n [Value.int .u8 0]:=by simp [rows,List.replicate_succ]
    rw [e,ih]; rfl
attribute [irreducible] hidAll
set_option maxHeartbeats 2000000 in
theorem record_Put (e s:Int) (hes:In64 e∧In64 s) (a:Option Addr) (cap:Nat) (gs:List Img) (I:Imm) (hi:ImgsOk I a gs) (hlen:gs.length≤9223372036854775806) :
    Tri Tryz.prog 79 #[.agg #[.int .i64 e,.int .i64 s,.slice a gs.length cap]] I [] fun v J S' =>
      (¬ RightG e s gs∧v=.tuple #[.slice none 0 0,.int .i64 80]∧I=J) ∨
      (RightG e s gs∧∃ aO capO chO,∃ bs:List Bk,v=.tuple #[.slice aO (gs.length+1) capO,.int .i64 0]∧OwnC chO 1 aO (gs.length+1) capO (bs.map Bk.cell)∧bs.map Bk.data=putL e.toNat s.toNat gs∧(∀ b ∈ bs,Rds J b.a 4096 (bts b.data))∧S'=[chO]):=by
  refine Tri.drop ?_ (fun _ _ _ _ h=>h)
  refine Tri.of (args:=[.agg #[.int .i64 e,.int .i64 s,.slice a gs.length cap]]) tabOk Tryz.func79 rfl (by kernel_rfl) (by kernel_rfl) ?_
  conv=>whnf
  intro b1
  refine LoadD.own 0 rfl _ rfl rfl ?_
  refine Tri.free (record_right e s a cap gs I hi hlen) ?_
  rintro v J _ hJ ⟨br,rfl,hbr,rfl⟩
  cases br
  · exact Done.mk ⟨_,Drop.refl _,.inl ⟨by rw [← hbr]; simp,rfl,rfl⟩⟩
  have hR:=hbr.1 rfl
  obtain ⟨r1,r2,r3,r4,r5,r6,r7,r8⟩:=id hR
  obtain ⟨en,rfl⟩:∃ en:Nat,e=en:=⟨e.toNat,by omega⟩
  obtain ⟨sn,rfl⟩:∃ sn:Nat,s=sn:=⟨s.toNat,by omega⟩
  refine LoadD.own 0 rfl _ rfl rfl ?_
  refine LoadD.own 0 rfl _ rfl rfl ?_
  refine Tri.free (stamp_fix en sn (by omega) (by omega) I) ?_
  rintro v J hz hJ1 ⟨aM,capM,rfl,hM⟩
  clear hz
  conv=>whnf
  intro bO
  refine LoadD.own 0 rfl _ rfl rfl ?_
  refine CodeF.loopD [1,4,5,6,22,23,24] (fun vs J' S'=>∃ (i:Nat) (aO:Option Addr) (capO:Nat) (chO:List Blk) (aL:Option Addr) (capL:Nat) (chL:List Blk) (bs:List Bk),i≤gs.length∧OwnC chO 1 aO (i+1) capO (.slice none 0 0 :: bs.map Bk.cell) ∧
      bs.map Bk.data=(gs.take i).map (fun g=>markK (stampB en sn) g.data 8)∧(∀ b ∈ bs,Rds J' b.a 4096 (bts b.data))∧OwnB chL aL (66 * i) capL (hidAll (gs.take i))∧J.le J' ∧
      vs=[.pointer (some ⟨b1,0,none⟩),.slice aM 8 capM,.slice aO (i+1) capO,.slice aL (66 * i) capL,.slice a gs.length cap,.int .i64 gs.length,.int .i64 i]∧S'=[[(b1,row [.int .i64 en,.int .i64 sn,.slice a gs.length cap] 128)],chO,chL])
    (fun vs _ _=>match vs with | [_,_,_,_,_,_,.int _ i]=>((gs.length:Int) - i).toNat | _=>0) ?_ ?_
  · exact ⟨_,Drop.and (Drop.refl _),0,_,_,_,none,0,[],[],by omega,OwnC.whole rfl,rfl,by simp,by unfold hidAll; exact OwnC.nil _ _,J.le_refl,rfl,rfl⟩
  rintro vs g J' S' hJ' ⟨i,aO,capO,chO,aL,capL,chL,bs,hil,hO,hbd,hbr2,hL,hle,rfl,rfl⟩
  refine CmpD.split (fun c7=>?_) (fun c7=>?_)
  · have hlt:i < gs.length:=by omega
    rcases hi.1.mem with q0 | ⟨bA,oA,cA,TA,fA,rfl,hIA,hcA⟩
    · omega
    have hcell:=take_part hcA (i:=i * 2) (m:=2) (by omega)
    rw [imgCells_at hlt] at hcell
    have hmem:gs[i] ∈ gs:=List.getElem_mem hlt
    have htake:gs.take (i+1)=gs.take i++[gs[i]]:=by rw [List.take_add_one,List.getElem?_eq_getElem hlt]; rfl
    obtain ⟨gi,hgi⟩:∃ gi,gi=gs[i]:=⟨_,rfl⟩
    rw [← hgi] at hcell hmem htake
    obtain ⟨g1,g2,g3⟩:=r7 gi hmem
    have hIJ:I.le J':=Imm.le_trans hJ1 hle
    have hgd:=(hi.2 gi hmem).2.mono hIJ
    refine Chk.mk (by omega) ?_
    refine LoadD.imm (hIJ _ _ hIA) _ hcell rfl ?_
    conv=>whnf
    intro b8
    refine StoreD.st 3 rfl rfl rfl ?_
    refine LoadD.own 3 rfl _ rfl rfl ?_
    rw [g3] at hgd ⊢
    refine Tri.free (marked_fix J' gi.a 4096 gi.cap gi.data hgd (by omega) (by omega) (by omega) aM capM _ (hM.mono hle)) ?_
    rintro v J2 hz hJ2 ⟨a1,cap1,a2,cap2,rfl,ho1,ho2⟩
    clear hz
    conv=>whnf
    intro b9
    refine appendD tabOk rfl rfl rfl rfl rfl rfl rfl 1 rfl hO (SrcOk.slice (n:=1) (news:=[.slice a1 4096 cap1]) tabOk rfl ((OwnC.whole (len:=1) (size:=1) rfl).slC 4 rfl) (by intro v hv; simp only [List.mem_singleton] at hv; subst hv; rfl)) rfl (by show (i+1+1) * 24≤_; omega) (by omega) ?_
    intro aO2 capO2 chO2 hO2
    refine LoadD.own 3 rfl _ rfl rfl ?_
    obtain ⟨j,hj⟩:∃ j:Nat,gi.blk=j:=⟨gi.blk.toNat,by omega⟩
    refine ToD.to (j:Int) (by rw [hj]; exact wrap_u rfl (by omega) (by show (j:Int) < 2 ^ 16; omega)) ?_
    refine (octets_Add16 J2 _ aL (66 * i) capL (hidAll (gs.take i)) (by have:=hL.slC (I:=J2) (S:=[[(b1,row [.int .i64 en,.int .i64 sn,.slice (some ⟨bA,oA,none⟩) gs.length cap] 128)],chO2,chL]) 2 rfl; rw [Nat.mul_one] at this; exact this.mores [_,_]) j (by omega) (by omega)).mono ?_
    rintro v J3 S3 hJ3 ⟨a4,cap4,ch4,rfl,ho4,rfl,rfl⟩
    refine appendD tabOk rfl rfl rfl rfl rfl rfl rfl 5 rfl ho4 (SrcOk.slice (n:=64) tabOk rfl ho2.slC (bts_plain _)) rfl (by show (66 * i+2+64) * 1≤_; omega) (by omega) ?_
    intro a5 cap5 ch5 ho5
    refine ToD.i64 (by omega) (by omega) ?_
    have e66:66 * i+2+64=66 * (i+1):=by omega
    refine ⟨_,Drop.pick [0,1,5] _ rfl,⟨i+1,aO2,capO2,chO2,a5,cap5,ch5,bs++[⟨a1,cap1,markK (stampB en sn) gi.data 8⟩],by omega,?_,?_,?_,?_,Imm.le_trans hle hJ2,by rw [← e66]; rfl,rfl⟩,?_⟩
    · rw [List.map_append]; exact hO2
    · rw [List.map_append,hbd,htake,List.map_append]; rfl
    · intro b hb
      rcases List.mem_append.1 hb with hb | hb
      · exact (hbr2 b hb).mono hJ2
      · simp only [List.mem_singleton] at hb
        subst hb
        exact ho1
    · rw [htake,hidAll_snoc,← e66,OwnB,← List.append_assoc,bts_append,hj,Int.toNat_natCast]
      exact ho5
    · show ((gs.length:Int) - ((i:Int)+1)).toNat < ((gs.length:Int) - (i:Int)).toNat
      omega
  · obtain rfl:i=gs.length:=by omega
    rw [List.take_length] at hbd hL
    have hIJ:I.le J':=Imm.le_trans hJ1 hle
    rcases hO.at' with q0 | ⟨bX,pre,post,TX,rfl,rfl,hpost⟩
    · have:=hO.le; omega
    have hn66:66 * gs.length+(4026 - 66 * gs.length)=4026:=by omega
    refine ToD.to ((4026 - 66 * gs.length:Nat):Int) (by rw [wrap_i64 (by omega) (by omega)]; omega) ?_
    refine appendZD tabOk rfl rfl rfl rfl rfl rfl rfl rfl 2 rfl hL (4026 - 66 * gs.length) rfl rfl (by decide) (by intro v hv; have hv:v ∈ [Value.int .u8 0]:=hv; simp at hv; subst hv; rfl) (by show (66 * gs.length+(4026 - 66 * gs.length)) * 1≤_; omega) (by omega) ?_
    intro aL2 capL2 chL2 hL2
    rw [hn66] at hL2 ⊢
    have hL2:OwnB chL2 aL2 4026 capL2 (listL gs):=by
      have e:bts (listL gs)=bts (hidAll gs)++rows (4026 - 66 * gs.length) [Value.int .u8 0]:=by rw [listL,bts_append,rows_zero]
      rw [OwnB,e]; exact hL2
    have hcrc:crcMore 0 (listL gs) < 4294967296:=Nat.xor_lt_two_pow (n:=32) (crcReg_lt (by decide) _) (by decide)
    refine LoadD.own 0 rfl _ rfl rfl ?_
    refine ToD.to (gs.length:Int) (wrap_u rfl (by omega) (by show (gs.length:Int) < 2 ^ 16; omega)) ?_
    refine Tri.free (fixB (octets_Add16 J' [] none 0 0 [] ⟨rfl,.inl rfl⟩ gs.length (by omega) (by omega))) ?_
    rintro v J2 hz hJ2 ⟨a2,cap2,rfl,h2⟩
    clear hz
    refine (sums_Crc J2 _ aL2 4026 capL2 (listL gs) (by have:=hL2.slC (I:=J2) (S:=[[(b1,row [.int .i64 en,.int .i64 sn,.slice a gs.length cap] 128)],[(bX,row (pre++(.slice none 0 0 :: bs.map Bk.cell)++post) TX)],chL2]) 2 rfl; rw [Nat.mul_one] at this; exact this) (by omega)).mono ?_
    rintro v J3 S3 hJ3 ⟨rfl,rfl,rfl⟩
    refine (octets_Add32 J2 _ a2 (0+2) cap2 ([]++be gs.length 2) h2.slC (crcMore 0 (listL gs)) hcrc (by omega)).mono ?_
    rintro v J3 S3 hJ3 ⟨a6,cap6,ch6,rfl,h6,rfl,rfl⟩
    refine appendD tabOk rfl rfl rfl rfl rfl rfl rfl 3 rfl h6 (SrcOk.slice (n:=4026) tabOk rfl (hL2.slC 2 rfl) (bts_plain _)) rfl (by show (0+2+4+4026) * 1≤_; omega) (by omega) ?_
    intro a7 cap7 ch7 h7
    have h7:OwnB ch7 a7 4032 cap7 (headL gs):=by
      have e:bts (headL gs)=bts ([]++be gs.length 2++be (crcMore 0 (listL gs)) 4)++bts (listL gs):=by rw [← bts_append,headL,List.nil_append]
      rw [OwnB,e]; exact h7
    refine Tri.frame1 3 rfl (spread_fix ch7 J2 a7 cap7 (headL gs) h7 aM capM (stampB en sn) (hM.mono (Imm.le_trans hle hJ2))) ?_
    rintro v J4 S4 hJ4 ⟨a8,cap8,rfl,h8,rfl⟩
    refine ⟨[],rfl,?_⟩
    refine Chk.mk (by omega) ?_
    have hsp:splice (pre++(.slice none 0 0 :: bs.map Bk.cell)++post) (pre.length+0) [.slice a8 4096 cap8]=pre++(.slice a8 4096 cap8 :: bs.map Bk.cell)++post:=by
      rw [splice_mid _ _ _ _ _ (by simp)]; rfl
    refine StoreD.to 1 rfl _ hsp (by simp only [List.length_append,List.length_cons,List.length_nil]; show pre.length+0+1≤_; omega) (.inr (.inr (Nat.le_refl _))) _ rfl ?_
    refine Done.mk ⟨_,Drop.pick [1] _ rfl,.inr ⟨hR,some ⟨bX,pre.length,none⟩,capO,_,⟨a8,cap8,sprK (stampB en sn) (headL gs) 8⟩ :: bs,rfl,⟨?_,hO.le,.inr ⟨bX,pre,post,TX,rfl,rfl,hpost⟩⟩,?_,?_,rfl⟩⟩
    · have:=hO.n
      simpa using this
    · rw [List.map_cons,hbd,putL,Int.toNat_natCast,Int.toNat_natCast]
    · intro b hb
      rcases List.mem_cons.1 hb with rfl | hb
      · exact h8
      · exact (hbr2 b hb).mono (Imm.le_trans hJ2 hJ4)
end Go.Proofs.YtegdcjnjnoeinaaGreat
namespace Go.Proofs.YtegdcjnjnoeinaaGreat
open Go.RowKit Go.Sl
set_option maxRecDepth 20000
def wCells (ws:List (Int × Bk)):List Value:=ws.flatMap fun w=>[.int .i64 w.1,w.2.cell]
theorem wCells_snoc (ws:List (Int × Bk)) (w:Int × Bk):wCells (ws++[w])=wCells ws++[.int .i64 w.1,w.2.cell]:=by simp [wCells]
def BkOk (J:Imm) (b:Bk):Prop:=Rds J b.a 4096 (bts b.data)
structure DiskAt (J:Imm) (d:DRec) (chS chN chW:List Blk) (safe now:List Bk) (ws:List (Int × Bk)):Prop where
  hS:OwnC chS 1 d.safe.a d.safe.len d.safe.cap (safe.map Bk.cell)
  hN:OwnC chN 1 d.now.a d.now.len d.now.cap (now.map Bk.cell)
  hW:OwnC chW 2 d.writes.a d.writes.len d.writes.cap (wCells ws)
  okS:∀ b ∈ safe,BkOk J b
  okN:∀ b ∈ now,BkOk J b
  okW:∀ w ∈ ws,BkOk J w.2∧4096≤w.2.cap
theorem stop_same (d:DRec):d.stop.1.safe=d.safe∧d.stop.1.now=d.now∧d.stop.1.writes=d.writes∧d.stop.1.count=d.count:=by
  unfold DRec.stop
  cases d.down <;> cases d.arm.step.2 <;> exact ⟨rfl,rfl,rfl,rfl⟩
theorem clone_fixc (I:Imm) (a:Option Addr) (len cap:Nat) (l:List UInt8) (h:Rds I a len (bts l)) (hlen:len≤1000000000) :
    Tri Tryz.prog 86 #[.slice a len cap] I [] fun v J _=>∃ a' cap',v=.slice a' len cap'∧Rds J a' len (bts l)∧len≤cap':=by
  refine Tri.fixed (clone_bytes I [] a len cap (bts l) (by rw [Nat.mul_one]; exact h.slC) (bts_plain l) (by omega)) ?_
  rintro v J S' hJ ⟨a',cap',ch,rfl,hO,rfl,rfl⟩
  refine ⟨0,ch,rfl,fun J' hJ' hm=>⟨a',cap',rfl,?_,hO.le⟩⟩
  refine ⟨by rw [hO.n,Nat.mul_one],?_⟩
  rcases hO.at' with h0 | ⟨b,pre,post,T,ha,hc,hp⟩
  · have:=hO.le; left; omega
  · refine .inr ⟨b,pre.length,_,T,(0,0),ha,hm (b,row (pre++bts l++post) T) (by rw [hc]; simp),?_⟩
    have:=hO.n
    rw [Nat.mul_one] at this
    rw [List.append_assoc,List.drop_left,← this,List.take_left]
set_option maxHeartbeats 2000000 in
theorem disk_Write (b:Nat) (d:DRec) (hd:d.Ok) (hcount:-9223372036854775808≤d.count∧d.count≤9223372036854775806) (hwl:d.writes.len≤1000000) (chS chN chW:List Blk) (safe now:List Bk) (ws:List (Int × Bk)) (I:Imm) (hD:DiskAt I d chS chN chW safe now ws)
    (n:Int) (aB:Option Addr) (len capB:Nat) (data:List UInt8) (hB:Rds I aB len (bts data)) :
    Tri Tryz.prog 45 #[.pointer (some ⟨b,0,none⟩),.int .i64 n,.slice aB len capB] I [dChunk b d,chS,chN,chW] fun v J S' =>
      (wrongE d.now.len n≠0∧v=.int .i64 (wrongE d.now.len n)∧S'=[dChunk b d,chS,chN,chW]) ∨
      (wrongE d.now.len n=0∧len≠4096∧v=.int .i64 2∧S'=[dChunk b d,chS,chN,chW]) ∨
      (wrongE d.now.len n=0∧len=4096∧d.stop.2≠0∧v=.int .i64 d.stop.2∧S'=[dChunk b d.stop.1,chS,chN,chW]) ∨
      (wrongE d.now.len n=0∧len=4096∧d.stop.2=0∧v=.int .i64 0∧∃ (hN hW:Hd) (chN' chW':List Blk) (bk:Bk),bk.data=data∧S'=[dChunk b { d.stop.1 with now:=hN,writes:=hW,count:=d.count+1 },chS,chN',chW']∧hN.len=d.now.len∧hW.len=d.writes.len+1 ∧
        DiskAt J { d.stop.1 with now:=hN,writes:=hW,count:=d.count+1 } chS chN' chW' safe (now.set n.toNat bk) (ws++[(n,bk)])):=by
  refine Tri.drop ?_ (fun _ _ _ _ h=>h)
  refine Tri.of (args:=[.pointer (some ⟨b,0,none⟩),.int .i64 n,.slice aB len capB]) tabOk Tryz.func45 rfl (by kernel_rfl) (by kernel_rfl) ?_
  refine Tri.frame1 0 rfl (disk_wrong b d n I) ?_
  rintro v J S' hJ ⟨rfl,rfl,rfl⟩
  refine ⟨_,rfl,?_⟩
  refine CmpD.split (fun c1=>?_) (fun c1=>?_)
  rotate_left
  · exact Done.mk ⟨_,Drop.refl _,.inl ⟨c1,rfl,rfl⟩⟩
  refine CmpD.split (fun c2=>?_) (fun c2=>?_)
  rotate_left
  · exact Done.mk ⟨_,Drop.refl _,.inr (.inl ⟨c1,by omega,rfl,rfl⟩)⟩
  obtain rfl:len=4096:=by omega
  refine Tri.frame1 0 rfl (disk_stopped b d hd I) ?_
  rintro v J S' hJ ⟨rfl,rfl,rfl⟩
  refine ⟨_,rfl,?_⟩
  refine CmpD.split (fun c3=>?_) (fun c3=>?_)
  rotate_left
  · exact Done.mk ⟨_,Drop.refl _,.inr (.inr (.inl ⟨c1,rfl,c3,rfl,rfl⟩))⟩
  obtain ⟨e1,e2,e3,e4⟩:=stop_same d
  obtain ⟨d',hd'⟩:∃ d',d'=d.stop.1:=⟨_,rfl⟩
  rw [← hd'] at e1 e2 e3 e4 ⊢
  refine Tri.free (clone_fixc I aB 4096 capB data hB (by omega)) ?_
  rintro v J hz hJ ⟨a1,cap1,rfl,h1,hcap1⟩
  clear hz
  conv=>whnf
  intro b9
  refine StoreD.st 4 rfl rfl rfl ?_
  have hn:0≤n∧n < d.now.len:=by
    unfold wrongE at c1
    split at c1
    · cases c1
    · split at c1
      · cases c1
      · omega
  refine CodeF.sched [[],[],[1],[1,2],[1,2,3],[],[5],[1,2,3,4,5,6],[0,1,2,3,4,5,6,7],[0,1,2,3,4,5,6,7,8],[0,1,2,3,4,5,6,7,8,9]] [0,1,2,3,4,5,6,7,8,9,10] (by kernel_rfl) ?_
  refine LoadP.at 0 rfl [d'.writes.v] rfl rfl ?_
  refine LoadP.at 4 rfl [.int .i64 n,.slice a1 4096 cap1] rfl rfl ?_
  conv=>whnf
  intro bN
  refine Chk.mk ⟨rfl,trivial⟩ ?_
  have hWo:OwnC chW 2 d'.writes.a d'.writes.len d'.writes.cap (wCells ws):=by rw [e3]; exact hD.hW
  have hNo:OwnC chN 1 d'.now.a d'.now.len d'.now.cap (now.map Bk.cell):=by rw [e2]; exact hD.hN
  have hSo:OwnC chS 1 d'.safe.a d'.safe.len d'.safe.cap (safe.map Bk.cell):=by rw [e1]; exact hD.hS
  have hwl':d'.writes.len≤1000000:=by rw [e3]; exact hwl
  have hnn:n < d'.now.len:=by rw [e2]; exact hn.2
  rw [← e2,← e3,← e4]
  have hc4:-9223372036854775808≤d'.count∧d'.count≤9223372036854775806:=by rw [e4]; exact hcount
  rw [← e2] at c1
  clear e1 e2 e3 e4 hd'
  obtain ⟨⟨sa,sl,sc⟩,⟨na,nl,nc⟩,⟨wa,wl,wc⟩,count,down,⟨ao,al⟩,⟨fo,fl⟩⟩:=d'
  dsimp only at hWo hNo hSo hwl' hnn hc4
  refine appendD tabOk rfl rfl rfl rfl rfl rfl rfl 3 rfl hWo (SrcOk.slice (n:=1) (news:=[.int .i64 n,.slice a1 4096 cap1]) tabOk rfl ((OwnC.whole (len:=1) (size:=2) rfl).slC 5 rfl) (by intro v hv; simp only [List.mem_cons,List.not_mem_nil,or_false] at hv; rcases hv with rfl | rfl <;> rfl)) rfl (by show (wl+1) * 32≤_; omega) (by show wl+1≤_; omega) ?_
  intro aW capW chW' hW'
  refine StoreD.st 0 rfl rfl rfl ?_
  rcases hNo.at' with q0 | ⟨bX,pre,post,TX,rfl,rfl,hpost⟩
  · have:=hNo.le; omega
  refine CodeF.sched [[],[0],[0,1],[0,1,2],[],[],[5],[0,1,2,3,4,5,6],[0,1,2,3,4,5,6,7]] [0,1,2,3,4,5,6,7,8] (by kernel_rfl) ?_
  refine LoadP.at 0 rfl [.slice (some ⟨bX,pre.length,none⟩) nl nc] rfl rfl ?_
  refine LoadP.at 4 rfl [.slice a1 4096 cap1] rfl rfl ?_
  refine Chk.mk ⟨hn.1,hnn⟩ ?_
  have hnl:now.length=nl:=by have:=hNo.n; simpa using this
  have hsp:splice (pre++now.map Bk.cell++post) (pre.length+n.toNat) [.slice a1 4096 cap1]=pre++(now.set n.toNat ⟨a1,cap1,data⟩).map Bk.cell++post:=by
    rw [splice_mid _ _ _ _ _ (by simp; omega),List.map_set,List.set_eq_take_append_cons_drop,if_pos (by simp; omega)]
    simp
  refine StoreD.to 2 rfl _ hsp (by simp only [List.length_append,List.length_map,List.length_cons,List.length_nil]; show pre.length+n.toNat+1≤_; omega) (.inr (.inr (Nat.le_refl _))) _ rfl ?_
  refine LoadD.own 0 rfl [.int .i64 count] rfl rfl ?_
  refine ToD.to (count+1) (by show IntKind.i64.wrap (count+1)=_; exact wrap_i64 (by omega) (by omega)) ?_
  refine StoreD.st 0 rfl rfl rfl ?_
  refine Done.mk ⟨_,Drop.pick [0,1,2,3] _ rfl,.inr (.inr (.inr ⟨c1,rfl,c3,rfl,⟨_,nl,nc⟩,⟨aW,wl+1,capW⟩,_,chW',⟨a1,cap1,data⟩,rfl,rfl,rfl,rfl,⟨hSo,⟨by simp [hnl],hNo.le,.inr ⟨bX,pre,post,TX,rfl,rfl,hpost⟩⟩,by rw [wCells_snoc]; exact hW',?_,?_,?_⟩⟩))⟩
  · exact fun b hb=>(hD.okS b hb).mono hJ
  · intro b hb
    rcases List.mem_or_eq_of_mem_set hb with hb | rfl
    · exact (hD.okN b hb).mono hJ
    · exact h1
  · intro w hw
    rcases List.mem_append.1 hw with hw | hw
    · exact ⟨(hD.okW w hw).1.mono hJ,(hD.okW w hw).2⟩
    · simp only [List.mem_singleton] at hw
      subst hw
      exact ⟨h1,hcap1⟩
end Go.Proofs.YtegdcjnjnoeinaaGreat
namespace Go.Proofs.YtegdcjnjnoeinaaGreat
open Go.RowKit Go.Sl
set_option maxRecDepth 20000
def blocksOf (l:List UInt8) (n:Nat):List (List UInt8):=(List.range n).map fun (i:Nat)=>(l.drop (i * 4096)).take 4096
theorem blocksOf_succ (l:List UInt8) (n:Nat):blocksOf l (n+1)=blocksOf l n++[(l.drop (n * 4096)).take 4096]:=by simp [blocksOf,List.range_succ]
attribute [irreducible] blocksOf
def freshD (sH nH:Hd):DRec:=⟨sH,nH,⟨none,0,0⟩,0,false,⟨false,0⟩,⟨false,0⟩⟩
theorem Rds_part {I:Imm} {b off n:Nat} {l:List UInt8} (h:Rds I (some ⟨b,off,none⟩) n (bts l)) (i m:Nat) (hm:i+m≤n):Rds I (some ⟨b,off+i,none⟩) m (bts ((l.drop i).take m)):=by
  have hl:l.length=n:=by rw [← bts_length,h.len]
  refine ⟨by rw [bts_length,List.length_take,List.length_drop]; omega,?_⟩
  rcases h.mem with h0 | ⟨b',off',c,T,fr,he,hI,hc⟩
  · left; omega
  · right
    cases he
    refine ⟨_,_,c,T,fr,rfl,hI,?_⟩
    rw [take_part hc hm,bts,← List.map_drop,← List.map_take]; rfl
theorem clone_fix2 (I:Imm) (a:Option Addr) (len cap:Nat) (l:List UInt8) (h:Rds I a len (bts l)) (hlen:len≤100000000) :
    Tri Tryz.prog 86 #[.slice a len cap] I [] fun v J _=>∃ a' cap',v=.slice a' len cap'∧len≤cap'∧Rds J a' len (bts l):=by
  refine Tri.fixed (clone_bytes I [] a len cap (bts l) (by rw [Nat.mul_one]; exact h.slC) (bts_plain l) (by omega)) ?_
  rintro v J S' hJ ⟨a',cap',ch,rfl,hown,rfl,rfl⟩
  exact ⟨0,ch,rfl,fun J' hJ' hm=>⟨a',cap',rfl,hown.le,Rds.of_own hown hm⟩⟩
set_option maxHeartbeats 2000000 in
theorem disk_Load (I:Imm) (a:Option Addr) (n cap:Nat) (l:List UInt8) (hn:1≤n∧n≤512) (h:Rds I a (n * 4096) (bts l)) :
    Tri Tryz.prog 52 #[.slice a (n * 4096:Nat) cap] I [] fun v J S'=>∃ bD sH nH chS chN bkS,v=.tuple #[.pointer (some ⟨bD,0,none⟩),.int .i64 0]∧S'=[dChunk bD (freshD sH nH),chS,chN,[]]∧sH.len=n∧nH.len=n ∧
      bkS.map Bk.data=blocksOf l n∧DiskAt J (freshD sH nH) chS chN [] bkS bkS []:=by
  have hll:l.length=n * 4096:=by rw [← bts_length,h.len]
  refine Tri.drop ?_ (fun _ _ _ _ h=>h)
  refine Tri.of (args:=[.slice a (n * 4096:Nat) cap]) tabOk Tryz.func52 rfl (by kernel_rfl) (by kernel_rfl) ?_
  refine Chk.mk (by omega) ?_
  refine ToD.to (n:Int) (by rw [Int.tdiv_eq_ediv_of_nonneg (by omega),wrap_i64 (by omega) (by omega)]; omega) ?_
  refine CmpD.no (by omega) ?_
  refine CmpD.no (by omega) ?_
  refine Chk.mk (by omega) ?_
  refine ToD.to 0 (by rw [Int.tmod_eq_emod_of_nonneg (by omega)]; omega) ?_
  refine CmpD.yes rfl ?_
  conv=>whnf
  intro bD
  conv=>whnf
  intro b5
  refine StoreD.st 1 rfl rfl rfl ?_
  refine Tri.free (clone_fix2 I a (n * 4096) cap l h (by omega)) ?_
  rintro v J hz hJ ⟨aC,capC,rfl,hcc,hC⟩
  clear hz
  rcases hC.mem with q0 | ⟨bC,oC,cC,TC,fC,rfl,hIC,hcC⟩
  · omega
  refine Tri.frame (chunk_of (some ⟨bC,oC,none⟩) (n * 4096) capC 4096 (by omega) J) [] rfl rfl ?_
  rintro v J2 A' hJ2 ⟨c1,c2,rfl,rfl,rfl⟩
  refine ⟨by simp,?_⟩
  refine CodeF.rangeF rfl [dChunk bD (freshD ⟨none,0,0⟩ ⟨none,0,0⟩),[(b5,row [.pointer (some ⟨bD,0,none⟩)] 22)],[]] (chunkBoxes c1 c2 (some ⟨bC,oC,none⟩) (n * 4096) capC 4096) ⟨[],by simp; rfl⟩ _ _ (chunk_at c1 c2 bC oC (n * 4096) capC 4096 (by omega) hcc (by omega) J)
    (fun i J' S'=>i≤n∧J.le J'∧∃ (aS:Option Addr) (capS:Nat) (chS:List Blk) (bks:List Bk),S'=[dChunk bD (freshD ⟨aS,i,capS⟩ ⟨none,0,0⟩),[(b5,row [.pointer (some ⟨bD,0,none⟩)] 22)],chS]∧OwnC chS 1 aS i capS (bks.map Bk.cell)∧bks.map Bk.data=blocksOf l i∧∀ b ∈ bks,BkOk J' b)
    (fun _ _ _=>False) ⟨by omega,J.le_refl,none,0,[],[],rfl,OwnC.nil _ _,by unfold blocksOf; rfl,by simp⟩ ?round ?done ?stop
  case round =>
    rintro i x J' S' hJ' ⟨hi,rfl⟩ ⟨hi2,hle,aS,capS,chS,bks,rfl,hS,hbd,hbk⟩
    have hmin:min 4096 (n * 4096 - i * 4096)=4096:=by omega
    rw [hmin]
    refine CodeF.sched [[],[],[1],[1,2],[1,2,3],[],[5],[1,2,3,4,5,6],[0,1,2,3,4,5,6,7],[0,1,2,3,4,5,6,7,8],[0,1,2,3,4,5,6,7,8,9]] [0,1,2,3,4,5,6,7,8,9,10] (by kernel_rfl) ?_
    refine LoadP.at 1 rfl _ rfl rfl ?_
    refine LoadP.at 1 rfl _ rfl rfl ?_
    refine LoadP.at 0 rfl _ rfl rfl ?_
    conv=>whnf
    intro bN
    refine Chk.mk ⟨rfl,rfl,rfl,trivial⟩ ?_
    refine appendD tabOk rfl rfl rfl rfl rfl rfl rfl 2 rfl hS (SrcOk.slice (n:=1) (news:=[.slice (some ⟨bC,oC+i * 4096,none⟩) 4096 4096]) tabOk rfl ((OwnC.whole (len:=1) (size:=1) rfl).slC 3 rfl) (by intro v hv; simp only [List.mem_singleton] at hv; subst hv; rfl)) rfl (by show (i+1) * 24≤_; omega) (by show i+1≤_; omega) ?_
    intro aS2 capS2 chS2 hS2
    refine Chk.mk ⟨rfl,trivial⟩ ?_
    refine StoreD.st 0 rfl rfl rfl ?_
    refine ⟨_,Drop.pick [0,1,2] _ rfl,by omega,hle,aS2,capS2,chS2,bks++[⟨some ⟨bC,oC+i * 4096,none⟩,4096,(l.drop (i * 4096)).take 4096⟩],rfl,by rw [List.map_append]; exact hS2,by rw [List.map_append,hbd,blocksOf_succ]; rfl,?_⟩
    intro b hb
    rcases List.mem_append.1 hb with hb | hb
    · exact hbk b hb
    · simp only [List.mem_singleton] at hb
      subst hb
      exact (Rds_part hC (i * 4096) 4096 (by omega)).mono hle
  case done =>
    rintro i J' S' hJ' hf ⟨hi2,hle,aS,capS,chS,bks,rfl,hS,hbd,hbk⟩
    obtain rfl:i=n:=by omega
    refine CodeF.sched [[],[],[1],[1,2],[1,2,3],[1,2,3,4],[0,1,2,3,4,5],[0,1,2,3,4,5,6],[0,1,2,3,4,5,6,7]] [0,1,2,3,4,5,6,7,8] (by kernel_rfl) ?_
    refine LoadP.at 1 rfl _ rfl rfl ?_
    refine LoadP.at 1 rfl _ rfl rfl ?_
    refine LoadP.at 0 rfl _ rfl rfl ?_
    refine (clone_blocks J' _ aS i capS (bks.map Bk.cell) (hS.slC 2 rfl) (by intro v hv; obtain ⟨b,_,rfl⟩:=List.mem_map.1 hv; rfl) (by omega)).mono ?_
    rintro v J3 S3 hJ3 ⟨aN,capN,chN,rfl,hN,rfl,rfl⟩
    refine Chk.mk ⟨rfl,trivial⟩ ?_
    refine StoreD.st 0 rfl rfl rfl ?_
    refine LoadD.own 1 rfl _ rfl rfl ?_
    refine Done.mk ⟨[dChunk bD (freshD ⟨aS,i,capS⟩ ⟨aN,i,capN⟩),chS,chN,[]],Drop.and (Drop.pick [0,2,3] _ rfl),bD,⟨aS,i,capS⟩,⟨aN,i,capN⟩,chS,chN,bks,rfl,rfl,rfl,rfl,hbd,⟨hS,hN,OwnC.nil _ _,hbk,hbk,by simp⟩⟩
  case stop =>
    rintro e J' S' hJ' hs
    exact hs.elim
theorem zeros_bts (n:Nat):rows n [Value.int .u8 0]=bts (List.replicate n 0):=rows_zero n
theorem disk_New (I:Imm) (n:Nat) (hn:1≤n∧n≤512) :
    Tri Tryz.prog 42 #[.int .i64 n] I [] fun v J S'=>∃ bD sH nH chS chN bkS,v=.tuple #[.pointer (some ⟨bD,0,none⟩),.int .i64 0]∧S'=[dChunk bD (freshD sH nH),chS,chN,[]]∧sH.len=n∧nH.len=n ∧
      bkS.map Bk.data=blocksOf (List.replicate (n * 4096) 0) n∧DiskAt J (freshD sH nH) chS chN [] bkS bkS []:=by
  refine Tri.of (args:=[.int .i64 n]) tabOk Tryz.func42 rfl (by kernel_rfl) (by kernel_rfl) ?_
  refine CmpD.no (by omega) ?_
  refine CmpD.no (by omega) ?_
  refine ToD.to ((n * 4096:Nat):Int) (by rw [wrap_i64 (by omega) (by omega)]; omega) ?_
  refine makeD tabOk rfl rfl rfl (n * 4096) (n * 4096) rfl rfl (Nat.le_refl _) (by show 1 * (n * 4096)≤_; omega) (by omega) (by show n * 4096 * 1≤_; omega) rfl (by decide) ?_
  intro b
  refine Tri.fix 0 rfl fun I' hI' hm=>?_
  have hown:OwnB [(b,row (rows (n * 4096) [Value.int .u8 0]) 5)] (some ⟨b,0,none⟩) (n * 4096) (n * 4096) (List.replicate (n * 4096) 0):=by
    rw [zeros_bts]; exact .whole (by rw [bts_length]; simp)
  refine Tri.lay (S2:=[]) rfl ?_
  refine (disk_Load I' _ n (n * 4096) _ hn (Rds.of_own hown hm)).mono ?_
  rintro v J S' hJ ⟨bD,sH,nH,chS,chN,bkS,rfl,rfl,h1,h2,h3,h4⟩
  exact Done.mk ⟨bD,sH,nH,chS,chN,bkS,rfl,rfl,h1,h2,h3,h4⟩
end Go.Proofs.YtegdcjnjnoeinaaGreat
namespace Go.Proofs.YtegdcjnjnoeinaaGreat
open Go.RowKit Go.Sl
set_option maxRecDepth 20000
set_option maxHeartbeats 2000000 in
theorem disk_Flush (b:Nat) (d:DRec) (hd:d.Ok) (hnl:1≤d.now.len∧d.now.len≤1000000) (chS chN chW:List Blk) (safe now:List Bk) (ws:List (Int × Bk)) (I:Imm) (hD:DiskAt I d chS chN chW safe now ws) :
    Tri Tryz.prog 125 #[.pointer (some ⟨b,0,none⟩)] I [dChunk b d,chS,chN,chW] fun v J S' =>
      (d.stop.2≠0∧v=.int .i64 d.stop.2∧I=J∧S'=[dChunk b d.stop.1,chS,chN,chW]) ∨
      (d.stop.2=0∧v=.int .i64 0∧I=J∧∃ (hS:Hd) (chS':List Blk),hS.len=d.now.len∧S'=[dChunk b { d.stop.1 with safe:=hS,writes:=⟨none,0,0⟩ },chS',chN,[]]∧DiskAt J { d.stop.1 with safe:=hS,writes:=⟨none,0,0⟩ } chS' chN [] now now []):=by
  refine Tri.drop ?_ (fun _ _ _ _ h=>h)
  refine Tri.of (args:=[.pointer (some ⟨b,0,none⟩)]) tabOk Tryz.func125 rfl (by kernel_rfl) (by kernel_rfl) ?_
  refine Tri.frame1 0 rfl (disk_none b d I) ?_
  rintro v J S' hJ ⟨rfl,rfl,rfl⟩
  refine ⟨_,rfl,?_⟩
  rw [decide_eq_false (show ¬ d.now.len=0 by omega)]
  refine Tri.frame1 0 rfl (disk_stopped b d hd I) ?_
  rintro v J S' hJ ⟨rfl,rfl,rfl⟩
  refine ⟨_,rfl,?_⟩
  refine CmpD.split (fun c3=>?_) (fun c3=>?_)
  rotate_left
  · exact Done.mk ⟨_,Drop.refl _,.inl ⟨c3,rfl,rfl,rfl⟩⟩
  obtain ⟨e1,e2,e3,e4⟩:=stop_same d
  obtain ⟨d',hd'⟩:∃ d',d'=d.stop.1:=⟨_,rfl⟩
  rw [← hd'] at e1 e2 e3 e4 ⊢
  have hNo:OwnC chN 1 d'.now.a d'.now.len d'.now.cap (now.map Bk.cell):=by rw [e2]; exact hD.hN
  have hnl':d'.now.len≤1000000:=by rw [e2]; exact hnl.2
  rw [← e2]
  clear e1 e2 e3 e4 hd'
  obtain ⟨⟨sa,sl,sc⟩,⟨na,nl,nc⟩,⟨wa,wl,wc⟩,count,down,⟨ao,al⟩,⟨fo,fl⟩⟩:=d'
  dsimp only at hNo hnl'
  refine LoadD.own 0 rfl [.slice na nl nc] rfl rfl ?_
  refine (clone_blocks I _ na nl nc (now.map Bk.cell) (hNo.slC 2 rfl) (by intro v hv; obtain ⟨b,_,rfl⟩:=List.mem_map.1 hv; rfl) (by omega)).mono ?_
  rintro v J3 S3 hJ3 ⟨aS,capS,chS',rfl,hS,rfl,rfl⟩
  refine StoreD.st 0 rfl rfl rfl ?_
  refine StoreD.st 0 rfl rfl rfl ?_
  refine Done.mk ⟨[dChunk b ⟨⟨aS,nl,capS⟩,⟨na,nl,nc⟩,⟨none,0,0⟩,count,down,⟨ao,al⟩,⟨fo,fl⟩⟩,chS',chN,[]],Drop.and (Drop.pick [0,4,2] _ rfl),.inr ⟨c3,rfl,rfl,⟨aS,nl,capS⟩,chS',rfl,rfl,⟨hS,hNo,OwnC.nil _ _,hD.okN,hD.okN,by simp⟩⟩⟩
theorem wCells_length (ws:List (Int × Bk)):(wCells ws).length=ws.length * 2:=by
  unfold wCells
  induction ws with
  | nil=>rfl
  | cons g l ih=>rw [List.flatMap_cons,List.length_append,ih]; simp; omega
end Go.Proofs.YtegdcjnjnoeinaaGreat
namespace Go.Proofs.YtegdcjnjnoeinaaGreat
open Go.RowKit Go.Sl
set_option maxRecDepth 20000
abbrev Dat:=List UInt8
structure DSt where
  safe:List Dat
  now:List Dat
  writes:List (Int × Dat)
  count:Int
  down:Bool
  arm:Gate
  fault:Gate
def DSt.stop (d:DSt):DSt × Int:=match d.down with
  | true=>(d,6)
  | false=>match d.arm.step.2 with
    | true=>({ d with fault:=d.fault.step.1,arm:=d.arm.step.1,down:=true },6)
    | false=>({ d with fault:=d.fault.step.1,arm:=d.arm.step.1 },match d.fault.step.2 with | true=>4 | false=>0)
def DSt.write (d:DSt) (n:Int) (b:Dat):DSt × Int :=
  if wrongE d.now.length n≠0 then (d,wrongE d.now.length n) else if b.length≠4096 then (d,2) else if d.stop.2≠0 then d.stop else
  ({ d.stop.1 with now:=d.now.set n.toNat b,writes:=d.writes++[(n,b)],count:=d.count+1 },0)
def DSt.flush (d:DSt):DSt × Int:=if d.stop.2≠0 then d.stop else ({ d.stop.1 with safe:=d.now,writes:=[] },0)
def DSt.read (d:DSt) (n:Int):Dat × Int:=if wrongE d.now.length n≠0 then ([],wrongE d.now.length n) else if d.down then ([],6) else (d.now.getD n.toNat [],0)
structure DSt.Wf (d:DSt):Prop where
  len:d.safe.length=d.now.length
  range:1≤d.now.length∧d.now.length≤512
  safe:∀ b ∈ d.safe,b.length=4096
  now:∀ b ∈ d.now,b.length=4096
  writes:∀ w ∈ d.writes,0≤w.1∧w.1 < d.now.length∧w.2.length=4096
  arm:d.arm.Ok
  fault:d.fault.Ok
def DSt.Few (d:DSt) (k:Nat):Prop:=d.writes.length≤k∧0≤d.count∧d.count≤k
theorem DSt.stop_same (d:DSt):d.stop.1.safe=d.safe∧d.stop.1.now=d.now∧d.stop.1.writes=d.writes∧d.stop.1.count=d.count:=by
  unfold DSt.stop
  cases d.down <;> cases d.arm.step.2 <;> exact ⟨rfl,rfl,rfl,rfl⟩
theorem DSt.stop_gates (d:DSt) (h:d.Wf):d.stop.1.arm.Ok∧d.stop.1.fault.Ok:=by
  unfold DSt.stop
  cases d.down <;> cases d.arm.step.2 <;> first
    | exact ⟨h.arm,h.fault⟩
    | exact ⟨Gate.step_ok h.arm,Gate.step_ok h.fault⟩
theorem DSt.Wf.stop {d:DSt} (h:d.Wf):d.stop.1.Wf:=by
  obtain ⟨e1,e2,e3,e4⟩:=d.stop_same
  obtain ⟨g1,g2⟩:=d.stop_gates h
  exact ⟨by rw [e1,e2]; exact h.len,by rw [e2]; exact h.range,by rw [e1]; exact h.safe,by rw [e2]; exact h.now,by rw [e2,e3]; exact h.writes,g1,g2⟩
theorem DSt.Wf.write {d:DSt} (h:d.Wf) (n:Int) (b:Dat):(d.write n b).1.Wf:=by
  unfold DSt.write
  split
  · exact h
  rename_i h1
  split
  · exact h
  rename_i h2
  split
  · exact h.stop
  obtain ⟨e1,e2,e3,e4⟩:=d.stop_same
  obtain ⟨g1,g2⟩:=d.stop_gates h
  have hn:0≤n∧n < d.now.length:=by
    have h1:wrongE d.now.length n=0:=by omega
    have:=h.range
    unfold wrongE at h1
    rw [if_neg (by omega)] at h1
    split at h1 <;> omega
  refine ⟨by rw [e1,List.length_set]; exact h.len,by rw [List.length_set]; exact h.range,by rw [e1]; exact h.safe,?_,?_,g1,g2⟩
  · intro x hx
    rcases List.mem_or_eq_of_mem_set hx with hx | rfl
    · exact h.now x hx
    · omega
  · intro w hw
    simp only [List.length_set]
    rcases List.mem_append.1 hw with hw | hw
    · exact h.writes w hw
    · simp only [List.mem_singleton] at hw
      subst hw
      exact ⟨hn.1,hn.2,by show b.length=4096; omega⟩
theorem DSt.Wf.flush {d:DSt} (h:d.Wf):d.flush.1.Wf:=by
  unfold DSt.flush
  split
  · exact h.stop
  obtain ⟨e1,e2,e3,e4⟩:=d.stop_same
  obtain ⟨g1,g2⟩:=d.stop_gates h
  exact ⟨by rw [e2],by rw [e2]; exact h.range,h.now,by rw [e2]; exact h.now,by simp,g1,g2⟩
theorem DSt.Few.mono {d:DSt} {k m:Nat} (h:d.Few k) (hm:k≤m):d.Few m:=by
  obtain ⟨h1,h2,h3⟩:=h; exact ⟨by omega,h2,by omega⟩
theorem DSt.Few.stop {d:DSt} {k:Nat} (h:d.Few k):d.stop.1.Few k:=by
  obtain ⟨e1,e2,e3,e4⟩:=d.stop_same
  unfold DSt.Few; rw [e3,e4]; exact h
theorem DSt.Few.write {d:DSt} {k:Nat} (h:d.Few k) (n:Int) (b:Dat):(d.write n b).1.Few (k+1):=by
  unfold DSt.write
  split
  · exact h.mono (by omega)
  split
  · exact h.mono (by omega)
  split
  · exact h.stop.mono (by omega)
  · obtain ⟨h1,h2,h3⟩:=h
    exact ⟨by show (d.writes++[(n,b)]).length≤_; simp; omega,by show 0≤d.count+1; omega,by show d.count+1≤_; omega⟩
theorem DSt.Few.flush {d:DSt} {k:Nat} (h:d.Few k):d.flush.1.Few k:=by
  unfold DSt.flush
  split
  · exact h.stop
  · exact ⟨by simp,h.stop.2⟩
structure Dk (J:Imm) (bD:Nat) (st:DSt) (ch:List Blk):Prop where
  wf:st.Wf
  ex:∃ (d:DRec) (chS chN chW:List Blk) (bS bN:List Bk) (bW:List (Int × Bk)),ch=dChunk bD d++(chS++(chN++chW))∧DiskAt J d chS chN chW bS bN bW∧bS.map Bk.data=st.safe∧bN.map Bk.data=st.now ∧
    bW.map (fun w=>(w.1,w.2.data))=st.writes∧d.count=st.count∧d.down=st.down∧d.arm=st.arm∧d.fault=st.fault
theorem BkOk.mono {I J:Imm} {b:Bk} (h:BkOk I b) (hJ:I.le J):BkOk J b:=Rds.mono h hJ
theorem DiskAt.mono {I J:Imm} {d:DRec} {chS chN chW:List Blk} {bS bN:List Bk} {bW:List (Int × Bk)} (h:DiskAt I d chS chN chW bS bN bW) (hJ:I.le J):DiskAt J d chS chN chW bS bN bW :=
  ⟨h.hS,h.hN,h.hW,fun b hb=>(h.okS b hb).mono hJ,fun b hb=>(h.okN b hb).mono hJ,fun w hw=>⟨(h.okW w hw).1.mono hJ,(h.okW w hw).2⟩⟩
theorem Dk.mono {I J:Imm} {bD:Nat} {st:DSt} {ch:List Blk} (h:Dk I bD st ch) (hJ:I.le J):Dk J bD st ch:=by
  obtain ⟨hw,d,chS,chN,chW,bS,bN,bW,h1,h2,h3⟩:=h
  exact ⟨hw,d,chS,chN,chW,bS,bN,bW,h1,h2.mono hJ,h3⟩
theorem stop_eq (d:DRec) (st:DSt) (h1:d.down=st.down) (h2:d.arm=st.arm) (h3:d.fault=st.fault) :
    d.stop.2=st.stop.2∧d.stop.1.down=st.stop.1.down∧d.stop.1.arm=st.stop.1.arm∧d.stop.1.fault=st.stop.1.fault:=by
  unfold DRec.stop DSt.stop
  rw [h1,h2,h3]
  cases st.down <;> cases st.arm.step.2 <;> refine ⟨rfl,?_,?_,?_⟩ <;> first
    | rfl
    | exact h1
    | exact h2
    | exact h3
theorem dk_Size {I:Imm} {bD:Nat} {st:DSt} {ch:List Blk} (h:Dk I bD st ch):Tri Tryz.prog 104 #[.pointer (some ⟨bD,0,none⟩)] I [ch] fun v J S'=>v=.int .i64 st.now.length∧I=J∧S'=[ch]:=by
  obtain ⟨hw,d,chS,chN,chW,bS,bN,bW,rfl,hD,q1,q2,q3,q4,q5,q6,q7⟩:=h
  have hl:=hD.hN.len1
  have:st.now.length=d.now.len:=by rw [← q2]; simpa using hl
  rw [this]
  exact Tri.abs1 (disk_Size bD d I) fun v J S' hJ h=>⟨_,h.2.2,h.1,h.2.1,rfl⟩
theorem wrongE_dec (n:Nat) (h:1≤n) (x:Int):wrongE n x=0↔0≤x∧x < n:=by
  unfold wrongE; rw [if_neg (by omega)]; split <;> omega
theorem dk_Write {I:Imm} {bD:Nat} {st:DSt} {ch:List Blk} (h:Dk I bD st ch) (hf:st.Few 1000000) (n:Int) (aB:Option Addr) (len capB:Nat) (data:Dat) (hB:Rds I aB len (bts data)) :
    Tri Tryz.prog 45 #[.pointer (some ⟨bD,0,none⟩),.int .i64 n,.slice aB len capB] I [ch] fun v J S'=>v=.int .i64 (st.write n data).2∧∃ ch',Dk J bD (st.write n data).1 ch'∧S'=[ch']:=by
  have hwf:=h.wf.write n data
  obtain ⟨hw,d,chS,chN,chW,bS,bN,bW,rfl,hD,q1,q2,q3,q4,q5,q6,q7⟩:=h
  have hl:=hD.hN.len1
  have hl':st.now.length=d.now.len:=by rw [← q2]; simpa using hl
  have hW:=hD.hW.n
  rw [wCells_length] at hW
  have hW':st.writes.length=d.writes.len:=by rw [← q3,List.length_map]; omega
  have hdl:data.length=len:=by rw [← bts_length,hB.len]
  obtain ⟨s1,s2,s3,s4⟩:=stop_eq d st q5 q6 q7
  obtain ⟨t1,t2,t3,t4⟩:=Go.Proofs.YtegdcjnjnoeinaaGreat.stop_same d
  obtain ⟨u1,u2,u3,u4⟩:=st.stop_same
  have hstop:DiskAt I d.stop.1 chS chN chW bS bN bW:=⟨by rw [t1]; exact hD.hS,by rw [t2]; exact hD.hN,by rw [t3]; exact hD.hW,hD.okS,hD.okN,hD.okW⟩
  obtain ⟨f1,f2,f3⟩:=hf
  refine Tri.abs (S2:=[dChunk bD d,chS,chN,chW]) (by simp) (disk_Write bD d ⟨by rw [q6]; exact hw.arm,by rw [q7]; exact hw.fault⟩ (by omega) (by omega) chS chN chW bS bN bW I hD n aB len capB data hB) ?_
  unfold DSt.write at hwf ⊢
  rw [hl',hdl] at hwf ⊢
  rintro v J S' hJ (⟨c1,rfl,rfl⟩ | ⟨c1,c2,rfl,rfl⟩ | ⟨c1,c2,c3,rfl,rfl⟩ | ⟨c1,c2,c3,rfl,hN,hW,chN',chW',bk,c4,rfl,c5,c6,c7⟩)
  · rw [if_pos c1]
    exact ⟨[_],Drop.flat (by simp),rfl,_,(Dk.mk hw ⟨d,chS,chN,chW,bS,bN,bW,rfl,hD,q1,q2,q3,q4,q5,q6,q7⟩).mono hJ,rfl⟩
  · rw [if_neg (by omega),if_pos c2]
    exact ⟨[_],Drop.flat (by simp),rfl,_,(Dk.mk hw ⟨d,chS,chN,chW,bS,bN,bW,rfl,hD,q1,q2,q3,q4,q5,q6,q7⟩).mono hJ,rfl⟩
  · rw [if_neg (by omega),if_neg (by omega),← s1,if_pos c3]
    exact ⟨[dChunk bD d.stop.1++(chS++(chN++chW))],Drop.flat (by simp),by rw [← s1],_,(Dk.mk hw.stop ⟨d.stop.1,chS,chN,chW,bS,bN,bW,rfl,hstop,by rw [u1,q1],by rw [u2,q2],by rw [u3,q3],by rw [t4,u4,q4],s2,s3,s4⟩).mono hJ,rfl⟩
  · rw [if_neg (by omega),if_neg (by omega),← s1,if_neg (by omega)] at hwf ⊢
    refine ⟨[dChunk bD { d.stop.1 with now:=hN,writes:=hW,count:=d.count+1 }++(chS++(chN'++chW'))],Drop.flat (by simp),rfl,_,⟨hwf,_,chS,chN',chW',bS,bN.set n.toNat bk,bW++[(n,bk)],rfl,c7,?_,?_,?_,?_,s2,s3,s4⟩,rfl⟩
    · rw [u1,q1]
    · rw [List.map_set,q2,c4]
    · rw [List.map_append,q3,List.map_singleton,c4]
    · show d.count+1=st.count+1; rw [q4]
theorem dk_Flush {I:Imm} {bD:Nat} {st:DSt} {ch:List Blk} (h:Dk I bD st ch) :
    Tri Tryz.prog 125 #[.pointer (some ⟨bD,0,none⟩)] I [ch] fun v J S'=>v=.int .i64 st.flush.2∧∃ ch',Dk J bD st.flush.1 ch'∧S'=[ch']:=by
  have hwf:=h.wf.flush
  obtain ⟨hw,d,chS,chN,chW,bS,bN,bW,rfl,hD,q1,q2,q3,q4,q5,q6,q7⟩:=h
  have hl:=hD.hN.len1
  have hl':st.now.length=d.now.len:=by rw [← q2]; simpa using hl
  have:=hw.range
  obtain ⟨s1,s2,s3,s4⟩:=stop_eq d st q5 q6 q7
  obtain ⟨t1,t2,t3,t4⟩:=Go.Proofs.YtegdcjnjnoeinaaGreat.stop_same d
  obtain ⟨u1,u2,u3,u4⟩:=st.stop_same
  have hstop:DiskAt I d.stop.1 chS chN chW bS bN bW:=⟨by rw [t1]; exact hD.hS,by rw [t2]; exact hD.hN,by rw [t3]; exact hD.hW,hD.okS,hD.okN,hD.okW⟩
  refine Tri.abs (S2:=[dChunk bD d,chS,chN,chW]) (by simp) (disk_Flush bD d ⟨by rw [q6]; exact hw.arm,by rw [q7]; exact hw.fault⟩ (by omega) chS chN chW bS bN bW I hD) ?_
  unfold DSt.flush at hwf ⊢
  rintro v J S' hJ (⟨c1,rfl,rfl,rfl⟩ | ⟨c1,rfl,rfl,hS,chS',c2,rfl,c3⟩)
  · rw [← s1,if_pos c1]
    exact ⟨[dChunk bD d.stop.1++(chS++(chN++chW))],Drop.flat (by simp),by rw [← s1],_,⟨hw.stop,d.stop.1,chS,chN,chW,bS,bN,bW,rfl,hstop,by rw [u1,q1],by rw [u2,q2],by rw [u3,q3],by rw [t4,u4,q4],s2,s3,s4⟩,rfl⟩
  · rw [← s1,if_neg (by omega)] at hwf ⊢
    exact ⟨[dChunk bD { d.stop.1 with safe:=hS,writes:=⟨none,0,0⟩ }++(chS'++(chN++[]))],Drop.flat (by simp),rfl,_,⟨hwf,_,chS',chN,[],bN,bN,[],rfl,c3,q2,by rw [u2,q2],rfl,by rw [u4,← q4]; exact t4,s2,s3,s4⟩,rfl⟩
end Go.Proofs.YtegdcjnjnoeinaaGreat
namespace Go.Proofs.YtegdcjnjnoeinaaGreat
open Go.RowKit Go.Sl
set_option maxRecDepth 20000
theorem dk_Read {I:Imm} {bD:Nat} {st:DSt} {ch:List Blk} (h:Dk I bD st ch) (n:Int) :
    Tri Tryz.prog 39 #[.pointer (some ⟨bD,0,none⟩),.int .i64 n] I [ch] fun v J S'=>∃ a cap chB,v=.tuple #[.slice a (st.read n).1.length cap,.int .i64 (st.read n).2]∧OwnB chB a (st.read n).1.length cap (st.read n).1∧I=J∧S'=[ch,chB]:=by
  obtain ⟨hw,d,chS,chN,chW,bS,bN,bW,rfl,hD,q1,q2,q3,q4,q5,q6,q7⟩:=h
  have hl:=hD.hN.len1
  have hl':st.now.length=d.now.len:=by rw [← q2]; simpa using hl
  have hr:=hw.range
  refine Tri.lay (S2:=[dChunk bD d,chS,chN,chW]) (by simp) ?_
  refine Tri.drop ?_ (fun _ _ _ _ h=>h)
  refine Tri.of (args:=[.pointer (some ⟨bD,0,none⟩),.int .i64 n]) tabOk Tryz.func39 rfl (by kernel_rfl) (by kernel_rfl) ?_
  refine Tri.frame1 0 rfl (disk_wrong bD d n I) ?_
  rintro v J S' hJ ⟨rfl,rfl,rfl⟩
  refine ⟨_,rfl,?_⟩
  unfold DSt.read
  rw [hl']
  refine CmpD.split (fun c1=>?_) (fun c1=>?_)
  rotate_left
  · rw [if_pos c1]
    exact Done.mk ⟨[dChunk bD d++(chS++(chN++chW)),[]],Drop.flat (by simp),none,0,[],rfl,OwnC.nil _ _,rfl,rfl⟩
  rw [if_neg (by omega)]
  have hn:=(wrongE_dec d.now.len (by omega) n).1 c1
  refine LoadD.own 0 rfl [.bool d.down] rfl rfl ?_
  rw [q5]
  cases hdn:st.down
  rotate_left
  · exact Done.mk ⟨[dChunk bD d++(chS++(chN++chW)),[]],Drop.flat (by simp),none,0,[],rfl,OwnC.nil _ _,rfl,rfl⟩
  rw [if_neg (by simp)]
  obtain ⟨i,rfl⟩:∃ i:Nat,n=i:=⟨n.toNat,by omega⟩
  have hi : i < bN.length := by have : bN.length = d.now.len := by simpa using hl
                                omega
  have hbk:=hD.okN _ (List.getElem_mem hi)
  have hcell:(bN.map Bk.cell)[i]?=some bN[i].cell:=by rw [List.getElem?_map,List.getElem?_eq_getElem hi]; rfl
  have hdat:st.now.getD i []=bN[i].data:=by rw [← q2,List.getD_eq_getElem?_getD,List.getElem?_map,List.getElem?_eq_getElem hi]; rfl
  have hdl:bN[i].data.length=4096:=by have:=hbk.len; rwa [bts_length] at this
  obtain ⟨bk,hbk'⟩:∃ bk,bk=bN[i]:=⟨_,rfl⟩
  rw [← hbk'] at hbk hcell hdat hdl
  rw [show ((i:Int)).toNat=i from rfl,hdat,hdl]
  clear hbk'
  have hslc:=hD.hN.slC (I:=I) (S:=[dChunk bD d,chS,chN,chW]) 2 rfl
  rcases hslc.mem with h0 | ⟨b,off,ha,hc⟩
  · omega
  obtain ⟨⟨sa,sl,sc⟩,⟨na,nl,nc⟩,⟨wa,wl,wc⟩,count,down,⟨ao,al⟩,⟨fo,fl⟩⟩:=d
  dsimp only at ha hl hl' hn hc
  subst ha
  refine LoadD.own 0 rfl [.slice (some ⟨b,off,none⟩) nl nc] rfl rfl ?_
  refine Chk.mk (by omega) ?_
  refine LoadD.mk [bk.cell] (hc.at (i:=i) hcell) ?_
  refine (clone_bytes I _ bk.a 4096 bk.cap (bts bk.data) (Rds.slC (by exact hbk)) (bts_plain _) (by omega)).mono ?_
  rintro v J S' hJ ⟨a',cap',chB,rfl,hB,rfl,rfl⟩
  exact Done.mk ⟨[_++(chS++(chN++chW)),chB],Drop.flat (by simp),a',cap',chB,rfl,hB,rfl,rfl⟩
def DSt.armed (d:DSt) (n:Int):DSt × Int:=if n < 0 then (d,2) else ({ d with arm:=⟨true,n⟩ },0)
theorem dk_Arm {I:Imm} {bD:Nat} {st:DSt} {ch:List Blk} (h:Dk I bD st ch) (n:Int) (hn:In64 n) :
    Tri Tryz.prog 31 #[.pointer (some ⟨bD,0,none⟩),.int .i64 n] I [ch] fun v J S'=>v=.int .i64 (st.armed n).2∧∃ ch',Dk J bD (st.armed n).1 ch'∧S'=[ch']:=by
  obtain ⟨hw,d,chS,chN,chW,bS,bN,bW,rfl,hD,q1,q2,q3,q4,q5,q6,q7⟩:=h
  have hl:=hD.hN.len1
  have hl':st.now.length=d.now.len:=by rw [← q2]; simpa using hl
  have hr:=hw.range
  unfold In64 at hn
  refine Tri.abs1 (Q:=fun v J S'=>I=J∧((n < 0∧v=.int .i64 2∧S'=[dChunk bD d])∨(0≤n∧v=.int .i64 0∧S'=[dChunk bD { d with arm:=⟨true,n⟩ }]))) ?_ ?_
  · refine Tri.of (args:=[.pointer (some ⟨bD,0,none⟩),.int .i64 n]) tabOk Tryz.func31 rfl (by kernel_rfl) (by kernel_rfl) ?_
    refine (disk_none bD d I).mono ?_
    rintro v J S' hJ ⟨rfl,rfl,rfl⟩
    rw [decide_eq_false (show ¬ d.now.len=0 by omega)]
    refine (?_:Tri Tryz.prog 99 #[.pointer (some ⟨bD,0,none⟩),.pointer (some ⟨bD,5,none⟩),.int .i64 n] I [dChunk bD d] fun v J S'=>I=J∧((n < 0∧v=.int .i64 2∧S'=[dChunk bD d])∨(0≤n∧v=.int .i64 0∧S'=[dChunk bD { d with arm:=⟨true,n⟩ }]))).mono ?_
    · refine Tri.of (args:=[.pointer (some ⟨bD,0,none⟩),.pointer (some ⟨bD,5,none⟩),.int .i64 n]) tabOk Tryz.func99 rfl (by kernel_rfl) (by kernel_rfl) ?_
      refine CmpD.split (fun c1=>?_) (fun c1=>?_)
      · exact Done.mk ⟨rfl,.inl ⟨c1,rfl,rfl⟩⟩
      · obtain ⟨⟨sa,sl,sc⟩,⟨na,nl,nc⟩,⟨wa,wl,wc⟩,count,down,⟨ao,al⟩,⟨fo,fl⟩⟩:=d
        refine StoreD.st 0 rfl rfl rfl ?_
        exact Done.mk ⟨rfl,.inr ⟨by omega,rfl,rfl⟩⟩
    · rintro v J S' hJ ⟨rfl,⟨c1,rfl,rfl⟩ | ⟨c1,rfl,rfl⟩⟩
      · exact Done.mk ⟨rfl,.inl ⟨c1,rfl,rfl⟩⟩
      · exact Done.mk ⟨rfl,.inr ⟨c1,rfl,rfl⟩⟩
  · unfold DSt.armed
    rintro v J S' hJ ⟨rfl,⟨c1,rfl,rfl⟩ | ⟨c1,rfl,rfl⟩⟩
    · rw [if_pos c1]
      exact ⟨_,rfl,rfl,_,⟨hw,d,chS,chN,chW,bS,bN,bW,rfl,hD,q1,q2,q3,q4,q5,q6,q7⟩,rfl⟩
    · rw [if_neg (by omega)]
      exact ⟨_,rfl,rfl,_,⟨⟨hw.len,hw.range,hw.safe,hw.now,hw.writes,fun _=>⟨c1,hn.2⟩,hw.fault⟩,{ d with arm:=⟨true,n⟩ },chS,chN,chW,bS,bN,bW,rfl,⟨hD.hS,hD.hN,hD.hW,hD.okS,hD.okN,hD.okW⟩,q1,q2,q3,q4,q5,rfl,q7⟩,rfl⟩
def DSt.of (l:List Dat):DSt:=⟨l,l,[],0,false,⟨false,0⟩,⟨false,0⟩⟩
theorem DSt.of_few (l:List Dat):(DSt.of l).Few 0:=⟨Nat.le_refl _,Int.le_refl _,Int.le_refl _⟩
theorem blocksOf_length (l:Dat) (n:Nat):(blocksOf l n).length=n:=by simp [blocksOf]
theorem dk_fresh {J:Imm} {bD:Nat} {sH nH:Hd} {chS chN:List Blk} {bkS:List Bk} {l:List Dat} {n:Nat} (hn:1≤n∧n≤512) (h1:sH.len=n) (h3:bkS.map Bk.data=l) (hl:∀ b ∈ l,b.length=4096) (h4:DiskAt J (freshD sH nH) chS chN [] bkS bkS []) :
    Dk J bD (DSt.of l) (dChunk bD (freshD sH nH)++(chS++(chN++[]))):=by
  have hS:=h4.hS.len1
  rw [List.length_map] at hS
  have:l.length=n:=by rw [← h3,List.length_map,hS]; exact h1
  exact ⟨⟨rfl,by show 1≤l.length∧l.length≤512; omega,hl,hl,fun w hw=>(List.not_mem_nil hw).elim,fun h=>(Bool.false_ne_true h).elim,fun h=>(Bool.false_ne_true h).elim⟩,freshD sH nH,chS,chN,[],bkS,bkS,[],rfl,h4,h3,h3,rfl,rfl,rfl,rfl,rfl⟩
def noughts:Dat:=List.replicate 4096 0
theorem dk_New (I:Imm) (n:Nat) (hn:1≤n∧n≤512) :
    Tri Tryz.prog 42 #[.int .i64 n] I [] fun v J S'=>∃ bD ch,v=.tuple #[.pointer (some ⟨bD,0,none⟩),.int .i64 0]∧Dk J bD (DSt.of (List.replicate n noughts)) ch∧S'=[ch]:=by
  refine Tri.drop (disk_New I n hn) ?_
  rintro v J S' hJ ⟨bD,sH,nH,chS,chN,bkS,rfl,rfl,h1,h2,h3,h4⟩
  have e:blocksOf (List.replicate (n * 4096) 0) n=List.replicate n noughts:=by
    unfold blocksOf noughts
    apply List.ext_getElem
    · simp
    · intro i hi _
      simp only [List.length_map,List.length_range] at hi
      simp only [List.getElem_map,List.getElem_range,List.drop_replicate,List.take_replicate,List.getElem_replicate]
      congr 1
      omega
  rw [e] at h3
  refine ⟨[_],Drop.flat (by simp),bD,_,rfl,dk_fresh hn h1 h3 ?_ h4,rfl⟩
  intro b hb
  rw [(List.mem_replicate.1 hb).2]
  exact List.length_replicate
end Go.Proofs.YtegdcjnjnoeinaaGreat
namespace Go.Proofs.YtegdcjnjnoeinaaGreat
open Go.RowKit Go.Sl
def hidP (l:List PImg):Dat:=l.flatMap fun g=>be g.1.toNat 2++hidK g.2 8
def listP (l:List PImg):Dat:=hidP l++List.replicate (4026 - 66 * l.length) 0
def headP (l:List PImg):Dat:=be l.length 2++be (crcMore 0 (listP l)) 4++listP l
def putP (e s:Nat) (l:List PImg):List Dat:=sprK (stampB e s) (headP l) 8 :: l.map fun g=>markK (stampB e s) g.2 8
theorem hidAll_pr (gs:List Img):hidAll gs=hidP (gs.map Img.pr):=by unfold hidAll hidP; rw [List.flatMap_map]
theorem putL_pr (e s:Nat) (gs:List Img):putL e s gs=putP e s (gs.map Img.pr):=by
  unfold putL putP headL headP listL listP
  rw [hidAll_pr,List.length_map,List.map_map]; rfl
theorem putP_length (e s:Nat) (l:List PImg):(putP e s l).length=l.length+1:=by simp [putP]
def RightP (e s:Int) (l:List PImg):Prop:=1≤e∧e≤8388608∧1≤s∧s≤549755813888∧1≤l.length∧l.length≤32∧(∀ g ∈ l,0≤g.1∧g.1 < 512∧g.2.length=4096)∧(l.map Prod.fst).Nodup
instance (e s:Int) (l:List PImg):Decidable (RightP e s l):=by unfold RightP; infer_instance
theorem ImgsOk.len {J:Imm} {a:Option Addr} {gs:List Img} (h:ImgsOk J a gs) {g:Img} (hg:g ∈ gs):g.data.length=g.len:=by
  have:=(h.2 g hg).2.len; rwa [bts_length] at this
theorem right_pr {J:Imm} {a:Option Addr} {gs:List Img} (h:ImgsOk J a gs) (e s:Int):RightG e s gs↔RightP e s (gs.map Img.pr):=by
  unfold RightG RightP
  rw [List.length_map,List.map_map]
  have:(∀ g ∈ gs,0≤g.blk∧g.blk < 512∧g.len=4096)↔(∀ g ∈ gs.map Img.pr,0≤g.1∧g.1 < 512∧g.2.length=4096):=by
    constructor
    · intro k g hg
      obtain ⟨x,hx,rfl⟩:=List.mem_map.1 hg
      have:=k x hx
      exact ⟨this.1,this.2.1,by show x.data.length=_; rw [h.len hx]; exact this.2.2⟩
    · intro k g hg
      have:=k g.pr (List.mem_map_of_mem hg)
      exact ⟨this.1,this.2.1,by rw [← h.len hg]; exact this.2.2⟩
  rw [this]; rfl
theorem ImgsOk.mono {I J:Imm} {a:Option Addr} {gs:List Img} (h:ImgsOk I a gs) (hJ:I.le J):ImgsOk J a gs:=⟨h.1.mono hJ,fun g hg=>(h.2 g hg).mono hJ⟩
theorem put_of (e s:Int) (hes:In64 e∧In64 s) (a:Option Addr) (cap:Nat) (gs:List Img) (I:Imm) (hi:ImgsOk I a gs) (hlen:gs.length≤9223372036854775806) :
    Tri Tryz.prog 79 #[.agg #[.int .i64 e,.int .i64 s,.slice a gs.length cap]] I [] fun v J _ =>
      (¬ RightP e s (gs.map Img.pr)∧v=.tuple #[.slice none 0 0,.int .i64 80]) ∨
      (RightP e s (gs.map Img.pr)∧∃ aO capO,∃ bs:List Bk,v=.tuple #[.slice aO (gs.length+1) capO,.int .i64 0]∧Rds J aO (gs.length+1) (bs.map Bk.cell)∧bs.map Bk.data=putP e.toNat s.toNat (gs.map Img.pr)∧(∀ b ∈ bs,BkOk J b)):=by
  have hp:=record_Put e s hes a cap gs I hi hlen
  rw [right_pr hi] at hp
  by_cases hR:RightP e s (gs.map Img.pr)
  · refine Tri.fixed hp ?_
    rintro v J S' hJ (⟨h,_⟩ | ⟨h,aO,capO,chO,bs,rfl,h1,h2,h3,rfl⟩)
    · exact absurd hR h
    · refine ⟨0,chO,rfl,fun J' hJ' hm=>.inr ⟨h,aO,capO,bs,rfl,Rds.of_own h1 hm,by rw [h2,putL_pr],fun b hb=>(h3 b hb).mono hJ'⟩⟩
  · refine hp.mono ?_
    rintro v J S' hJ (⟨h,rfl,rfl⟩ | ⟨h,_⟩)
    · exact .inl ⟨h,rfl⟩
    · exact absurd h hR
end Go.Proofs.YtegdcjnjnoeinaaGreat
namespace Go.Proofs.YtegdcjnjnoeinaaGreat
open Go.RowKit Go.Sl
@[reducible] def layV (b l lb bi i ib d:Int):Value:=.agg #[.int .i64 b,.int .i64 l,.int .i64 lb,.int .i64 bi,.int .i64 i,.int .i64 ib,.int .i64 d]
def layL (n:Int):Int:=if n / 8 < 16 then 16 else n / 8
def layA (n:Int):Value:=if n < 64∨512 < n then .tuple #[layV 0 0 0 0 0 0 0,.int .i64 2] else .tuple #[layV n 2 (layL n) (2+layL n) (3+layL n) (n / 16) (3+layL n+n / 16),.int .i64 0]
theorem layL_range {n:Int} (h:64≤n∧n≤512):16≤layL n∧layL n≤64:=by unfold layL; split <;> omega
theorem layout_Of (n:Int) (I:Imm):Tri Tryz.prog 105 #[.int .i64 n] I [] fun v J _=>v=layA n∧I=J:=by
  refine Tri.of (args:=[.int .i64 n]) tabOk Tryz.func105 rfl (by kernel_rfl) (by kernel_rfl) ?_
  conv=>whnf
  intro b0
  refine CmpD.split (fun c1=>?_) (fun c1=>?_)
  · refine StoreD.st 0 rfl rfl rfl ?_
    refine LoadD.own 0 rfl _ rfl rfl ?_
    refine Done.mk ⟨?_,rfl⟩
    rw [layA,if_pos (by omega)]; rfl
  refine CmpD.split (fun c2=>?_) (fun c2=>?_)
  · refine StoreD.st 0 rfl rfl rfl ?_
    refine LoadD.own 0 rfl _ rfl rfl ?_
    refine Done.mk ⟨?_,rfl⟩
    rw [layA,if_pos (by omega)]; rfl
  have hL:=layL_range (n:=n) (by omega)
  refine Chk.mk (by omega) ?_
  refine ToD.quo (by omega) (by omega) (by omega) ?_
  refine ToD.to (layL n) (by unfold layL; split <;> split <;> omega) ?_
  refine Chk.mk (by omega) ?_
  refine ToD.quo (by omega) (by omega) (by omega) ?_
  conv=>whnf
  intro b1
  refine StoreD.st 1 rfl rfl rfl ?_
  refine LoadD.own 1 rfl _ rfl rfl ?_
  refine LoadD.own 1 rfl _ rfl rfl ?_
  refine ToD.i64 (by omega) (by omega) ?_
  refine StoreD.st 1 rfl rfl rfl ?_
  refine LoadD.own 1 rfl _ rfl rfl ?_
  refine ToD.to (3+layL n) (by rw [wrap_i64 (by omega) (by omega)]; omega) ?_
  refine StoreD.st 1 rfl rfl rfl ?_
  refine LoadD.own 1 rfl _ rfl rfl ?_
  refine LoadD.own 1 rfl _ rfl rfl ?_
  refine ToD.i64 (by omega) (by omega) ?_
  refine StoreD.st 1 rfl rfl rfl ?_
  refine LoadD.own 1 rfl _ rfl rfl ?_
  refine StoreD.st 0 rfl rfl rfl ?_
  refine LoadD.own 0 rfl _ rfl rfl ?_
  refine Done.mk ⟨?_,rfl⟩
  rw [layA,if_neg (by omega)]; rfl
set_option maxHeartbeats 2000000 in
theorem ref_Of (n:Int) (I:Imm):Tri Tryz.prog 114 #[.int .i64 n] I [] fun v J _=>v=layA n∧I=J:=by
  refine Tri.of (args:=[.int .i64 n]) tabOk Tryz.func114 rfl (by kernel_rfl) (by kernel_rfl) ?_
  conv=>whnf
  intro b0
  refine CmpD.split (fun c1=>?_) (fun c1=>?_)
  · refine StoreD.st 0 rfl rfl rfl ?_
    refine LoadD.own 0 rfl _ rfl rfl ?_
    refine Done.mk ⟨?_,rfl⟩
    rw [layA,if_pos (by omega)]; rfl
  refine CmpD.split (fun c2=>?_) (fun c2=>?_)
  · refine StoreD.st 0 rfl rfl rfl ?_
    refine LoadD.own 0 rfl _ rfl rfl ?_
    refine Done.mk ⟨?_,rfl⟩
    rw [layA,if_pos (by omega)]; rfl
  have hL:=layL_range (n:=n) (by omega)
  refine Chk.mk (by omega) ?_
  refine ToD.quo (by omega) (by omega) (by omega) ?_
  refine CmpD.split (fun c3=>?_) (fun c3=>?_)
  · have hl:layL n=16:=by unfold layL; rw [if_pos c3]
    conv=>whnf
    intro b1
    refine StoreD.st 1 rfl rfl rfl ?_
    refine StoreD.st 1 rfl rfl rfl ?_
    refine StoreD.st 1 rfl rfl rfl ?_
    refine ToD.to (2+layL n) (by rw [hl,wrap_i64 (by omega) (by omega)]) ?_
    refine StoreD.st 1 rfl rfl rfl ?_
    refine ToD.to (3+layL n) (by rw [wrap_i64 (by omega) (by omega)]; omega) ?_
    refine StoreD.st 1 rfl rfl rfl ?_
    refine Chk.mk (by omega) ?_
    refine ToD.quo (by omega) (by omega) (by omega) ?_
    refine StoreD.st 1 rfl rfl rfl ?_
    refine Chk.mk (by omega) ?_
    refine ToD.quo (by omega) (by omega) (by omega) ?_
    refine ToD.i64 (by omega) (by omega) ?_
    refine StoreD.st 1 rfl rfl rfl ?_
    refine LoadD.own 1 rfl _ rfl rfl ?_
    refine StoreD.st 0 rfl rfl rfl ?_
    refine LoadD.own 0 rfl _ rfl rfl ?_
    refine Done.mk ⟨?_,rfl⟩
    rw [layA,if_neg (by omega),hl]; rfl
  · have hl:layL n=n / 8:=by unfold layL; rw [if_neg c3]
    conv=>whnf
    intro b1
    refine StoreD.st 1 rfl rfl rfl ?_
    refine StoreD.st 1 rfl rfl rfl ?_
    refine StoreD.st 1 rfl rfl rfl ?_
    refine ToD.to (2+layL n) (by rw [hl,wrap_i64 (by omega) (by omega)]) ?_
    refine StoreD.st 1 rfl rfl rfl ?_
    refine ToD.to (3+layL n) (by rw [wrap_i64 (by omega) (by omega)]; omega) ?_
    refine StoreD.st 1 rfl rfl rfl ?_
    refine Chk.mk (by omega) ?_
    refine ToD.quo (by omega) (by omega) (by omega) ?_
    refine StoreD.st 1 rfl rfl rfl ?_
    refine Chk.mk (by omega) ?_
    refine ToD.quo (by omega) (by omega) (by omega) ?_
    refine ToD.i64 (by omega) (by omega) ?_
    refine StoreD.st 1 rfl rfl rfl ?_
    refine LoadD.own 1 rfl _ rfl rfl ?_
    refine StoreD.st 0 rfl rfl rfl ?_
    refine LoadD.own 0 rfl _ rfl rfl ?_
    refine Done.mk ⟨?_,rfl⟩
    rw [layA,if_neg (by omega),hl]; rfl
end Go.Proofs.YtegdcjnjnoeinaaGreat
namespace Go.Proofs.YtegdcjnjnoeinaaGreat
open Go.RowKit Go.Sl
@[reducible] def rg (s t u h:Int):Value:=.agg #[.int .i64 s,.int .i64 t,.int .i64 u,.int .i64 h]
def Ok (s t u h:Int):Prop:=1≤s∧s≤512∧0≤t∧t < s∧0≤u∧0≤h∧u+h≤s
instance (s t u h:Int):Decidable (Ok s t u h):=by unfold Ok; infer_instance
theorem ring_within (n h:Int) (I:Imm) (S:St):Tri Tryz.prog 193 #[.int .i64 n,.int .i64 h] I S fun v J S'=>∃ b,v=.bool b∧(b=true↔0≤n∧n≤h)∧I=J∧S'=S:=by
  refine Tri.of (args:=[.int .i64 n,.int .i64 h]) tabOk Tryz.func193 rfl (by kernel_rfl) (by kernel_rfl) ?_
  refine CmpD.split (fun h0=>?_) (fun h0=>?_)
  · refine CmpD.keep ?_
    refine Done.mk ⟨_,rfl,?_,rfl,rfl⟩
    simp [h0]
  · refine Done.mk ⟨_,rfl,?_,rfl,rfl⟩
    simp [h0]
theorem ring_Right (s t u h:Int) (I:Imm) (hs:In64 s) (ht:In64 t) (hu:In64 u) (hh:In64 h):Tri Tryz.prog 155 #[rg s t u h] I [] fun v J _=>∃ b,v=.bool b∧(b=true↔Ok s t u h)∧I=J:=by
  unfold In64 at *
  by_cases hmin:s=-9223372036854775808
  · subst hmin
    refine Tri.of (args:=[rg _ t u h]) tabOk Tryz.func155 rfl (by kernel_rfl) (by kernel_rfl) ?_
    conv=>whnf
    intro b
    refine LoadD.own 0 rfl _ rfl rfl ?_
    refine ToD.to 9223372036854775807 (by decide) ?_
    refine (ring_within _ _ I _).mono ?_
    rintro v J S' hJ ⟨b1,rfl,h1,rfl,rfl⟩
    cases b1
    · refine Done.mk ⟨_,rfl,by simp [Ok],rfl⟩
    · have:=h1.1 rfl; omega
  refine Tri.of (args:=[rg s t u h]) tabOk Tryz.func155 rfl (by kernel_rfl) (by kernel_rfl) ?_
  conv=>whnf
  intro b
  refine LoadD.own 0 rfl _ rfl rfl ?_
  refine ToD.i64 (by omega) (by omega) ?_
  refine (ring_within _ _ I _).mono ?_
  rintro v J S' hJ ⟨b1,rfl,h1,rfl,rfl⟩
  cases b1
  · refine Done.mk ⟨_,rfl,?_,rfl⟩
    simp [Ok]; simp at h1; omega
  replace h1:=h1.1 rfl
  refine LoadD.own 0 rfl _ rfl rfl ?_
  refine LoadD.own 0 rfl _ rfl rfl ?_
  refine ToD.i64 (by omega) (by omega) ?_
  refine (ring_within _ _ _ _).mono ?_
  rintro v J S' hJ2 ⟨b2,rfl,h2,rfl,rfl⟩
  cases b2
  · refine Done.mk ⟨_,rfl,?_,rfl⟩
    simp [Ok]; simp at h2; omega
  replace h2:=h2.1 rfl
  refine LoadD.own 0 rfl _ rfl rfl ?_
  refine LoadD.own 0 rfl _ rfl rfl ?_
  refine (ring_within _ _ _ _).mono ?_
  rintro v J S' hJ3 ⟨b3,rfl,h3,rfl,rfl⟩
  cases b3
  · refine Done.mk ⟨_,rfl,?_,rfl⟩
    simp [Ok]; simp at h3; omega
  replace h3:=h3.1 rfl
  refine LoadD.own 0 rfl _ rfl rfl ?_
  refine LoadD.own 0 rfl _ rfl rfl ?_
  refine LoadD.own 0 rfl _ rfl rfl ?_
  refine ToD.i64 (by omega) (by omega) ?_
  refine (ring_within _ _ _ _).mono ?_
  rintro v J S' hJ4 ⟨b4,rfl,h4,rfl,rfl⟩
  refine Done.mk ⟨_,rfl,?_,rfl⟩
  rw [h4]; unfold Ok; omega
theorem ring_Free (s t u h:Int) (I:Imm) (hs:In64 s) (ht:In64 t) (hu:In64 u) (hh:In64 h):Tri Tryz.prog 81 #[rg s t u h] I [] fun v J _=>v=.int .i64 (if Ok s t u h then s - u - h else 0)∧I=J:=by
  have hR:=ring_Right s t u h I hs ht hu hh
  unfold In64 at *
  refine Tri.of (args:=[rg s t u h]) tabOk Tryz.func81 rfl (by kernel_rfl) (by kernel_rfl) ?_
  conv=>whnf
  intro b
  refine LoadD.own 0 rfl _ rfl rfl ?_
  refine Tri.free hR ?_
  rintro v J _ hJ ⟨b1,rfl,h1,rfl⟩
  cases b1
  · refine Done.mk ⟨?_,rfl⟩
    rw [if_neg (by simpa using h1)]; rfl
  replace h1:=h1.1 rfl
  have h1':=h1
  unfold Ok at h1'
  repeat (first | refine LoadD.own 0 rfl _ rfl rfl ?_ | refine ToD.i64 (by omega) (by omega) ?_)
  refine Done.mk ⟨?_,rfl⟩
  rw [if_pos h1]; rfl
abbrev R5:=Int × Int × Int × Int × Int
def dropS (s t u h n:Int):R5:=if ¬ Ok s t u h∨n < 0∨u < n then (0,0,0,0,2) else (s,(t+n) % s,u - n,h,0)
def putS (s t u h n k:Int):R5 × Int:=if ¬ Ok s t u h∨n < 0∨k < 0∨n < k∨h < k then ((0,0,0,0,2),0) else if s - u - h < n - k then ((0,0,0,0,5),0) else ((s,t,u+n,h - k,0),(t+u) % s)
def Is5 (v:Value) (r:R5):Prop:=∃ a b c d e,v=.tuple #[rg a b c d,.int .i64 e]∧r=(a,b,c,d,e)
theorem Is5.mk (a b c d e:Int) {r:R5} (h:r=(a,b,c,d,e)):Is5 (.tuple #[rg a b c d,.int .i64 e]) r:=⟨a,b,c,d,e,rfl,h⟩
section
variable (s t u h n:Int) (I:Imm) (hs:In64 s) (ht:In64 t) (hu:In64 u) (hh:In64 h) (hn:In64 n)
include hs ht hu hh hn
theorem ring_Drop:Tri Tryz.prog 166 #[rg s t u h,.int .i64 n] I [] fun v J _=>Is5 v (dropS s t u h n)∧I=J:=by
  have hR:=ring_Right s t u h I hs ht hu hh
  unfold In64 at *
  refine Tri.of (args:=[rg s t u h,.int .i64 n]) tabOk Tryz.func166 rfl (by kernel_rfl) (by kernel_rfl) ?_
  conv=>whnf
  intro b
  conv=>whnf
  intro b2
  refine LoadD.own 0 rfl _ rfl rfl ?_
  refine Tri.free hR ?_
  rintro v J _ hJ ⟨b1,rfl,h1,rfl⟩
  cases b1
  · refine StoreD.st 1 rfl rfl rfl ?_
    refine LoadD.own 1 rfl _ rfl rfl ?_
    refine Done.mk ⟨Is5.mk 0 0 0 0 2 ?_,rfl⟩
    rw [dropS,if_pos (.inl (by simpa using h1))]
  replace h1:=h1.1 rfl
  have h1':=h1
  unfold Ok at h1'
  refine CmpD.split (fun c=>?_) (fun c=>?_)
  · refine StoreD.st 1 rfl rfl rfl ?_
    refine LoadD.own 1 rfl _ rfl rfl ?_
    refine Done.mk ⟨Is5.mk 0 0 0 0 2 ?_,rfl⟩
    rw [dropS,if_pos (.inr (.inl c))]
  refine LoadD.own 0 rfl _ rfl rfl ?_
  refine CmpD.split (fun c2=>?_) (fun c2=>?_)
  · refine StoreD.st 1 rfl rfl rfl ?_
    refine LoadD.own 1 rfl _ rfl rfl ?_
    refine Done.mk ⟨Is5.mk 0 0 0 0 2 ?_,rfl⟩
    rw [dropS,if_pos (.inr (.inr c2))]
  refine LoadD.own 0 rfl _ rfl rfl ?_
  refine ToD.i64 (by omega) (by omega) ?_
  refine LoadD.own 0 rfl _ rfl rfl ?_
  refine Chk.mk (by omega) ?_
  refine ToD.rem (by omega) ?_
  refine StoreD.st 0 rfl rfl rfl ?_
  refine LoadD.own 0 rfl _ rfl rfl ?_
  refine ToD.i64 (by omega) (by omega) ?_
  refine StoreD.st 0 rfl rfl rfl ?_
  refine LoadD.own 0 rfl _ rfl rfl ?_
  refine StoreD.st 1 rfl rfl rfl ?_
  refine LoadD.own 1 rfl _ rfl rfl ?_
  refine Done.mk ⟨Is5.mk s ((t+n) % s) (u - n) h 0 ?_,rfl⟩
  rw [dropS,if_neg (by unfold Ok; omega)]
theorem ring_Put (k:Int) (hk:In64 k):Tri Tryz.prog 158 #[rg s t u h,.int .i64 n,.int .i64 k] I [] fun v J _ =>
    (∃ a b c d x e,v=.tuple #[rg a b c d,.int .i64 x,.int .i64 e]∧putS s t u h n k=((a,b,c,d,e),x))∧I=J:=by
  have hR:=ring_Right s t u h I hs ht hu hh
  have hF:=ring_Free s t u h I hs ht hu hh
  unfold In64 at *
  refine Tri.of (args:=[rg s t u h,.int .i64 n,.int .i64 k]) tabOk Tryz.func158 rfl (by kernel_rfl) (by kernel_rfl) ?_
  conv=>whnf
  intro b
  conv=>whnf
  intro b2
  refine LoadD.own 0 rfl _ rfl rfl ?_
  refine Tri.free hR ?_
  rintro v J _ hJ ⟨b1,rfl,h1,rfl⟩
  cases b1
  · refine StoreD.st 1 rfl rfl rfl ?_
    refine LoadD.own 1 rfl _ rfl rfl ?_
    refine Done.mk ⟨⟨_,_,_,_,_,_,rfl,?_⟩,rfl⟩
    rw [putS,if_pos (.inl (by simpa using h1))]
  replace h1:=h1.1 rfl
  have h1':=h1
  unfold Ok at h1'
  refine CmpD.split (fun c=>?_) (fun c=>?_)
  · refine StoreD.st 1 rfl rfl rfl ?_
    refine LoadD.own 1 rfl _ rfl rfl ?_
    refine Done.mk ⟨⟨_,_,_,_,_,_,rfl,?_⟩,rfl⟩
    rw [putS,if_pos (.inr (.inl c))]
  refine CmpD.split (fun c1=>?_) (fun c1=>?_)
  · refine StoreD.st 1 rfl rfl rfl ?_
    refine LoadD.own 1 rfl _ rfl rfl ?_
    refine Done.mk ⟨⟨_,_,_,_,_,_,rfl,?_⟩,rfl⟩
    rw [putS,if_pos (.inr (.inr (.inl c1)))]
  refine LoadD.own 0 rfl _ rfl rfl ?_
  refine ToD.to (min n h) (by omega) ?_
  refine CmpD.split (fun c2=>?_) (fun c2=>?_)
  · refine StoreD.st 1 rfl rfl rfl ?_
    refine LoadD.own 1 rfl _ rfl rfl ?_
    refine Done.mk ⟨⟨_,_,_,_,_,_,rfl,?_⟩,rfl⟩
    rw [putS,if_pos (by omega)]
  refine ToD.i64 (by omega) (by omega) ?_
  refine LoadD.own 0 rfl _ rfl rfl ?_
  refine Tri.free hF ?_
  rintro v J _ hJ ⟨rfl,rfl⟩
  rw [if_pos h1]
  refine CmpD.split (fun c3=>?_) (fun c3=>?_)
  · refine StoreD.st 1 rfl rfl rfl ?_
    refine LoadD.own 1 rfl _ rfl rfl ?_
    refine Done.mk ⟨⟨_,_,_,_,_,_,rfl,?_⟩,rfl⟩
    rw [putS,if_neg (by unfold Ok; omega),if_pos c3]
  refine LoadD.own 0 rfl _ rfl rfl ?_
  refine LoadD.own 0 rfl _ rfl rfl ?_
  refine ToD.i64 (by omega) (by omega) ?_
  refine LoadD.own 0 rfl _ rfl rfl ?_
  refine Chk.mk (by omega) ?_
  refine ToD.rem (by omega) ?_
  refine LoadD.own 0 rfl _ rfl rfl ?_
  refine ToD.i64 (by omega) (by omega) ?_
  refine StoreD.st 0 rfl rfl rfl ?_
  refine LoadD.own 0 rfl _ rfl rfl ?_
  refine ToD.i64 (by omega) (by omega) ?_
  refine StoreD.st 0 rfl rfl rfl ?_
  refine LoadD.own 0 rfl _ rfl rfl ?_
  refine StoreD.st 1 rfl rfl rfl ?_
  refine LoadD.own 1 rfl _ rfl rfl ?_
  refine Done.mk ⟨⟨_,_,_,_,_,_,rfl,?_⟩,rfl⟩
  rw [putS,if_neg (by unfold Ok; omega),if_neg (by omega)]
end
end Go.Proofs.YtegdcjnjnoeinaaGreat
namespace Go.Proofs.YtegdcjnjnoeinaaGreat
open Go.RowKit Go.Sl
set_option maxRecDepth 20000
structure Lay where
  b:Int
  l:Int
  lb:Int
  bi:Int
  i:Int
  ib:Int
  d:Int
@[reducible] def Lay.vals (x:Lay):List Value:=[.int .i64 x.b,.int .i64 x.l,.int .i64 x.lb,.int .i64 x.bi,.int .i64 x.i,.int .i64 x.ib,.int .i64 x.d]
@[reducible] def Lay.v (x:Lay):Value:=layV x.b x.l x.lb x.bi x.i x.ib x.d
def layOf (n:Int):Lay:=⟨n,2,layL n,2+layL n,3+layL n,n / 16,3+layL n+n / 16⟩
structure JRec where
  disk:Nat
  lay:Lay
  s:Int
  t:Int
  u:Int
  h:Int
  epoch:Int
  next:Int
  synced:Int
  groups:Hd
  broken:Bool
@[reducible] def JRec.cells (j:JRec):List Value:=.pointer (some ⟨j.disk,0,none⟩) :: j.lay.vals++[.int .i64 j.s,.int .i64 j.t,.int .i64 j.u,.int .i64 j.h,.int .i64 j.epoch,.int .i64 j.next,.int .i64 j.synced,j.groups.v,.bool j.broken]
@[reducible] def jChunk (b:Nat) (j:JRec):List Blk:=[(b,row j.cells 211)]
theorem jr_turned (b:Nat) (j:JRec) (s t u h e:Int) (I:Imm):Tri Tryz.prog 159 #[.pointer (some ⟨b,0,none⟩),rg s t u h,.int .i64 e] I [jChunk b j] fun v J S' =>
    v=.int .i64 e∧I=J∧S'=[jChunk b (if e=0 then { j with s:=s,t:=t,u:=u,h:=h } else j)]:=by
  refine Tri.drop ?_ (fun _ _ _ _ h=>h)
  obtain ⟨disk,⟨l1,l2,l3,l4,l5,l6,l7⟩,rs,rt,ru,rh,ep,nx,sy,⟨ga,gl,gc⟩,br⟩:=j
  refine Tri.of (args:=[.pointer (some ⟨b,0,none⟩),rg s t u h,.int .i64 e]) tabOk Tryz.func159 rfl (by kernel_rfl) (by kernel_rfl) ?_
  conv=>whnf
  intro b4
  refine CmpD.split (fun c=>?_) (fun c=>?_)
  · refine LoadD.own 1 rfl _ rfl rfl ?_
    refine StoreD.st 0 rfl rfl rfl ?_
    refine Done.mk ⟨_,Drop.pick [0] _ rfl,rfl,rfl,?_⟩
    rw [if_pos c]; rfl
  · refine Done.mk ⟨_,Drop.pick [0] _ rfl,rfl,rfl,?_⟩
    rw [if_neg c]; rfl
theorem jr_did (b:Nat) (j:JRec) (e:Int) (I:Imm):Tri Tryz.prog 160 #[.pointer (some ⟨b,0,none⟩),.int .i64 e] I [jChunk b j] fun v J S' =>
    v=.int .i64 e∧I=J∧S'=[jChunk b { j with broken:=j.broken || !decide (e=0) }]:=by
  obtain ⟨disk,⟨l1,l2,l3,l4,l5,l6,l7⟩,rs,rt,ru,rh,ep,nx,sy,⟨ga,gl,gc⟩,br⟩:=j
  refine Tri.of (args:=[.pointer (some ⟨b,0,none⟩),.int .i64 e]) tabOk Tryz.func160 rfl (by kernel_rfl) (by kernel_rfl) ?_
  cases br
  · refine LoadD.own 0 rfl [.bool false] rfl rfl ?_
    refine CmpD.split (fun c=>?_) (fun c=>?_)
    · refine StoreD.st 0 rfl rfl rfl ?_
      refine Done.mk ⟨rfl,rfl,?_⟩
      rw [decide_eq_true c]; rfl
    · refine StoreD.st 0 rfl rfl rfl ?_
      refine Done.mk ⟨rfl,rfl,?_⟩
      rw [decide_eq_false c]; rfl
  · refine LoadD.own 0 rfl [.bool true] rfl rfl ?_
    refine StoreD.st 0 rfl rfl rfl ?_
    exact Done.mk ⟨rfl,rfl,rfl⟩
theorem lay_cmp {o:Oper} {ρ:Env} {op:BinOp} {yt:TypeId} {x y:Operand} {K:Value→Prop} (p q:Lay) (ho:o.op=.binOp op 45 x y yt) (hop:op=.eql∨op=.neq)
    (hx:ρ.ev x=p.v) (hy:ρ.ev y=q.v) (h:CmpD ([p.b,p.l,p.lb,p.bi,p.i,p.ib,p.d]=[q.b,q.l,q.lb,q.bi,q.i,q.ib,q.d]) fun t=>boolF (xor (op == .neq) t) fun t=>K (.bool t)):PureD Tryz.prog o ρ K :=
  eq_ints (k:=.i64) tabOk [p.b,p.l,p.lb,p.bi,p.i,p.ib,p.d] [q.b,q.l,q.lb,q.bi,q.i,q.ib,q.d] ho hop rfl hx hy (by kernel_rfl) (by kernel_rfl) (by kernel_rfl) rfl rfl h
set_option maxHeartbeats 2000000 in
theorem jr_Open (bD:Nat) (d:DRec) (n:Nat) (hn:64≤n∧n≤512) (hd:d.now.len=n) (x:Lay) (epoch seq tail:Int) (_hseq:In64 seq) (I:Imm) :
    Tri Tryz.prog 109 #[.pointer (some ⟨bD,0,none⟩),x.v,.int .i64 epoch,.int .i64 seq,.int .i64 tail] I [dChunk bD d] fun v J S' =>
      (¬ (x=layOf n∧1≤epoch∧epoch≤8388608∧1≤seq∧seq≤549755813888∧0≤tail∧tail < layL n)∧v=.tuple #[.pointer none,.int .i64 2]∧I=J∧S'=[dChunk bD d]) ∨
      (x=layOf n∧1≤epoch∧epoch≤8388608∧1≤seq∧seq≤549755813888∧0≤tail∧tail < layL n∧I=J∧∃ b,v=.tuple #[.pointer (some ⟨b,0,none⟩),.int .i64 0]∧S'=[dChunk bD d,jChunk b ⟨bD,x,layL n,tail,0,0,epoch,seq,seq - 1,⟨none,0,0⟩,false⟩]):=by
  refine Tri.drop ?_ (fun _ _ _ _ h=>h)
  obtain ⟨x1,x2,x3,x4,x5,x6,x7⟩:=x
  refine Tri.of (args:=[.pointer (some ⟨bD,0,none⟩),layV x1 x2 x3 x4 x5 x6 x7,.int .i64 epoch,.int .i64 seq,.int .i64 tail]) tabOk Tryz.func109 rfl (by kernel_rfl) (by kernel_rfl) ?_
  conv=>whnf
  intro b6
  refine Tri.frame1 0 rfl (disk_Size bD d I) ?_
  rintro v J S' hJ ⟨rfl,rfl,rfl⟩
  refine ⟨_,rfl,?_⟩
  rw [hd]
  refine CmpD.no (by omega) ?_
  refine Tri.frame1 0 rfl (disk_Size bD d I) ?_
  rintro v J S' hJ ⟨rfl,rfl,rfl⟩
  refine ⟨_,rfl,?_⟩
  rw [hd]
  refine Tri.free (layout_Of n I) ?_
  rintro v J _ hJ ⟨rfl,rfl⟩
  rw [layA,if_neg (by omega)]
  have hL:=layL_range (n:=(n:Int)) (by omega)
  have hlay:∀ {p:Prop},¬ p→¬ (((⟨x1,x2,x3,x4,x5,x6,x7⟩:Lay)=layOf n)∧p):=fun h h'=>h h'.2
  conv=>whnf
  intro b12
  refine StoreD.st 2 rfl rfl rfl ?_
  refine CmpD.yes rfl ?_
  refine LoadD.own 2 rfl _ rfl rfl ?_
  refine LoadD.own 1 rfl _ rfl rfl ?_
  refine lay_cmp (layOf n) ⟨x1,x2,x3,x4,x5,x6,x7⟩ rfl (.inr rfl) rfl rfl ?_
  refine CmpD.split (fun c1=>?_) (fun c1=>?_)
  rotate_left
  · refine Done.mk ⟨_,Drop.pick [0] _ rfl,.inl ⟨fun h=>c1 ?_,rfl,rfl,rfl⟩⟩
    have:=h.1
    unfold layOf at this
    injection this with q1 q2 q3 q4 q5 q6 q7
    subst q1 q2 q3 q4 q5 q6 q7
    rfl
  have hx:(⟨x1,x2,x3,x4,x5,x6,x7⟩:Lay)=layOf n:=by
    simp only [List.cons.injEq,and_true] at c1
    obtain ⟨q1,q2,q3,q4,q5,q6,q7⟩:=c1
    rw [← q1,← q2,← q3,← q4,← q5,← q6,← q7]
  have hx3:x3=layL n:=by
    unfold layOf at hx
    injection hx
  refine CmpD.split (fun c2=>?_) (fun c2=>?_)
  · exact Done.mk ⟨_,Drop.pick [0] _ rfl,.inl ⟨hlay (by omega),rfl,rfl,rfl⟩⟩
  refine CmpD.split (fun c3=>?_) (fun c3=>?_)
  · exact Done.mk ⟨_,Drop.pick [0] _ rfl,.inl ⟨hlay (by omega),rfl,rfl,rfl⟩⟩
  refine CmpD.split (fun c4=>?_) (fun c4=>?_)
  · exact Done.mk ⟨_,Drop.pick [0] _ rfl,.inl ⟨hlay (by omega),rfl,rfl,rfl⟩⟩
  refine CmpD.split (fun c5=>?_) (fun c5=>?_)
  · exact Done.mk ⟨_,Drop.pick [0] _ rfl,.inl ⟨hlay (by omega),rfl,rfl,rfl⟩⟩
  refine CmpD.split (fun c6=>?_) (fun c6=>?_)
  · exact Done.mk ⟨_,Drop.pick [0] _ rfl,.inl ⟨hlay (by omega),rfl,rfl,rfl⟩⟩
  refine LoadD.own 1 rfl [.int .i64 x3] rfl rfl ?_
  refine CmpD.split (fun c7=>?_) (fun c7=>?_)
  · exact Done.mk ⟨_,Drop.pick [0] _ rfl,.inl ⟨hlay (by omega),rfl,rfl,rfl⟩⟩
  refine LoadD.own 1 rfl _ rfl rfl ?_
  refine LoadD.own 1 rfl [.int .i64 x3] rfl rfl ?_
  refine ToD.i64 (by omega) (by omega) ?_
  conv=>whnf
  intro bJ
  refine Done.mk ⟨_,Drop.pick [0,3] _ rfl,.inr ⟨hx,by omega,by omega,by omega,by omega,by omega,by omega,rfl,bJ,rfl,?_⟩⟩
  rw [← hx3]; rfl
end Go.Proofs.YtegdcjnjnoeinaaGreat
namespace Go.Proofs.YtegdcjnjnoeinaaGreat
open Go.RowKit Go.Sl
theorem jr_may1 (b:Nat) (j:JRec) (g:FuncId) (p0:Nat) (I:Imm) (S:St) (k:Nat) (hk:S[k]?=some (jChunk b j)) {Q:Value→Imm→St→Prop} (hg:j.broken=false→Tri Tryz.prog g #[.pointer (some ⟨p0,0,none⟩)] I S Q) :
    Tri Tryz.prog 156 #[.pointer (some ⟨b,0,none⟩),.func (.func g) #[] #[.pointer (some ⟨p0,0,none⟩)]] I S fun v J S'=>(j.broken=true∧v=.int .i64 4∧I=J∧S'=S)∨(j.broken=false∧Q v J S'):=by
  obtain ⟨disk,⟨l1,l2,l3,l4,l5,l6,l7⟩,rs,rt,ru,rh,ep,nx,sy,⟨ga,gl,gc⟩,br⟩:=j
  refine Tri.of (args:=[.pointer (some ⟨b,0,none⟩),.func (.func g) #[] #[.pointer (some ⟨p0,0,none⟩)]]) tabOk Tryz.func156 rfl (by kernel_rfl) (by kernel_rfl) ?_
  refine LoadD.own k hk [.pointer (some ⟨disk,0,none⟩)] rfl rfl ?_
  refine LoadD.own k hk [.bool br] rfl rfl ?_
  cases br
  · refine (hg rfl).mono ?_
    intro v J S' hJ hq
    cases v <;> exact Done.mk (.inr ⟨rfl,hq⟩)
  · exact Done.mk (.inl ⟨rfl,rfl,rfl,rfl⟩)
theorem jr_may2 (b:Nat) (j:JRec) (g:FuncId) (p0 p1:Nat) (I:Imm) (S:St) (k:Nat) (hk:S[k]?=some (jChunk b j)) {Q:Value→Imm→St→Prop} (hg:j.broken=false→Tri Tryz.prog g #[.pointer (some ⟨p0,0,none⟩),.pointer (some ⟨p1,0,none⟩)] I S Q) :
    Tri Tryz.prog 156 #[.pointer (some ⟨b,0,none⟩),.func (.func g) #[] #[.pointer (some ⟨p0,0,none⟩),.pointer (some ⟨p1,0,none⟩)]] I S fun v J S'=>(j.broken=true∧v=.int .i64 4∧I=J∧S'=S)∨(j.broken=false∧Q v J S'):=by
  obtain ⟨disk,⟨l1,l2,l3,l4,l5,l6,l7⟩,rs,rt,ru,rh,ep,nx,sy,⟨ga,gl,gc⟩,br⟩:=j
  refine Tri.of (args:=[.pointer (some ⟨b,0,none⟩),.func (.func g) #[] #[.pointer (some ⟨p0,0,none⟩),.pointer (some ⟨p1,0,none⟩)]]) tabOk Tryz.func156 rfl (by kernel_rfl) (by kernel_rfl) ?_
  refine LoadD.own k hk [.pointer (some ⟨disk,0,none⟩)] rfl rfl ?_
  refine LoadD.own k hk [.bool br] rfl rfl ?_
  cases br
  · refine (hg rfl).mono ?_
    intro v J S' hJ hq
    cases v <;> exact Done.mk (.inr ⟨rfl,hq⟩)
  · exact Done.mk (.inl ⟨rfl,rfl,rfl,rfl⟩)
theorem jr_may4 (b:Nat) (j:JRec) (g:FuncId) (p0 p1 p2 p3:Nat) (I:Imm) (S:St) (k:Nat) (hk:S[k]?=some (jChunk b j)) {Q:Value→Imm→St→Prop} (hg:j.broken=false→Tri Tryz.prog g #[.pointer (some ⟨p0,0,none⟩),.pointer (some ⟨p1,0,none⟩),.pointer (some ⟨p2,0,none⟩),.pointer (some ⟨p3,0,none⟩)] I S Q) :
    Tri Tryz.prog 156 #[.pointer (some ⟨b,0,none⟩),.func (.func g) #[] #[.pointer (some ⟨p0,0,none⟩),.pointer (some ⟨p1,0,none⟩),.pointer (some ⟨p2,0,none⟩),.pointer (some ⟨p3,0,none⟩)]] I S fun v J S'=>(j.broken=true∧v=.int .i64 4∧I=J∧S'=S)∨(j.broken=false∧Q v J S'):=by
  obtain ⟨disk,⟨l1,l2,l3,l4,l5,l6,l7⟩,rs,rt,ru,rh,ep,nx,sy,⟨ga,gl,gc⟩,br⟩:=j
  refine Tri.of (args:=[.pointer (some ⟨b,0,none⟩),.func (.func g) #[] #[.pointer (some ⟨p0,0,none⟩),.pointer (some ⟨p1,0,none⟩),.pointer (some ⟨p2,0,none⟩),.pointer (some ⟨p3,0,none⟩)]]) tabOk Tryz.func156 rfl (by kernel_rfl) (by kernel_rfl) ?_
  refine LoadD.own k hk [.pointer (some ⟨disk,0,none⟩)] rfl rfl ?_
  refine LoadD.own k hk [.bool br] rfl rfl ?_
  cases br
  · refine (hg rfl).mono ?_
    intro v J S' hJ hq
    cases v <;> exact Done.mk (.inr ⟨rfl,hq⟩)
  · exact Done.mk (.inl ⟨rfl,rfl,rfl,rfl⟩)
end Go.Proofs.YtegdcjnjnoeinaaGreat
namespace Go.Proofs.YtegdcjnjnoeinaaGreat
open Go.RowKit Go.Sl
set_option maxRecDepth 20000
def gCells (gs:List (Int × Int)):List Value:=gs.flatMap fun g=>[.int .i64 g.1,.int .i64 g.2]
theorem gCells_length (gs:List (Int × Int)):(gCells gs).length=gs.length * 2:=by
  unfold gCells
  induction gs with
  | nil=>rfl
  | cons g l ih=>rw [List.flatMap_cons,List.length_append,ih]; simp; omega
theorem gCells_snoc (gs:List (Int × Int)) (g:Int × Int):gCells (gs++[g])=gCells gs++[.int .i64 g.1,.int .i64 g.2]:=by simp [gCells]
theorem jr_none (bJ:Nat) (j:JRec) (I:Imm):Tri Tryz.prog 154 #[.pointer (some ⟨bJ,0,none⟩)] I [jChunk bJ j] fun v J S'=>v=.bool false∧I=J∧S'=[jChunk bJ j]:=by
  refine Tri.of (args:=[.pointer (some ⟨bJ,0,none⟩)]) tabOk Tryz.func154 rfl (by kernel_rfl) (by kernel_rfl) ?_
  refine LoadD.own 0 rfl [.pointer (some ⟨j.disk,0,none⟩)] rfl rfl ?_
  exact Done.mk ⟨rfl,rfl,rfl⟩
end Go.Proofs.YtegdcjnjnoeinaaGreat
namespace Go.Proofs.YtegdcjnjnoeinaaGreat
open Go.RowKit Go.Sl
set_option maxRecDepth 20000
structure JSt where
  lay:Lay
  s:Int
  t:Int
  u:Int
  h:Int
  epoch:Int
  next:Int
  synced:Int
  groups:List (Int × Int)
  broken:Bool
structure JSt.Wf (j:JSt):Prop where
  log:j.lay.l=2
  ring:Ok j.s j.t j.u j.h
  epoch:In64 j.epoch
  next:1≤j.next∧j.next≤549755813889
  synced:0≤j.synced∧j.synced < j.next
  few:j.groups.length≤1000000
  groups:∀ g ∈ j.groups,In64 g.1∧In64 g.2
@[reducible] def JSt.at (j:JSt) (bD:Nat) (g:Hd):JRec:=⟨bD,j.lay,j.s,j.t,j.u,j.h,j.epoch,j.next,j.synced,g,j.broken⟩
def Jk (bJ bD:Nat) (j:JSt) (ch:List Blk):Prop:=∃ (g:Hd) (chG:List Blk),ch=jChunk bJ (j.at bD g)++chG∧OwnC chG 2 g.a g.len g.cap (gCells j.groups)
def wrAll (f:Nat→Int):List Dat→Nat→DSt→DSt × Int
  | [],_,d=>(d,0)
  | b :: bs,i,d=>if (d.write (f i) b).2≠0 then d.write (f i) b else wrAll f bs (i+1) (d.write (f i) b).1
def JSt.append (j:JSt) (d:DSt) (l:List PImg) (held:Bool):JSt × DSt × Int × Int :=
  if ¬ RightP j.epoch j.next l then (j,d,0,80) else
  if j.s < l.length+1 then (j,d,0,232) else
  match putS j.s j.t j.u j.h (l.length+1) (if held then l.length+1 else 0) with
  | ((s,t,u,h,e),at_)=>if e≠0 then (j,d,0,e) else
    match wrAll (fun i=>j.lay.l+(at_+i) % s) (putP j.epoch.toNat j.next.toNat l) 0 d with
    | (d',e')=>if e'≠0 then ({ j with s:=s,t:=t,u:=u,h:=h,broken:=true },d',0,e') else
      ({ j with s:=s,t:=t,u:=u,h:=h,groups:=j.groups++[(j.next,(l.length+1:Int))],next:=j.next+1 },d',j.next,0)
theorem putS_mid {s t u h n k:Int} (hr:Ok s t u h) {s' t' u' h' e a:Int} (hp:putS s t u h n k=((s',t',u',h',e),a)) (he:e=0):s'=s∧t'=t∧Ok s' t' u' h'∧0≤a∧a < s:=by
  unfold putS at hp
  subst he
  split at hp
  · simp at hp
  · split at hp
    · simp at hp
    · rename_i h1 h2
      simp only [Prod.mk.injEq] at hp
      obtain ⟨⟨rfl,rfl,rfl,rfl,_⟩,rfl⟩:=hp
      unfold Ok at hr h1 ⊢
      have:=Int.emod_nonneg (t+u) (b:=s) (by omega)
      have:=Int.emod_lt_of_pos (t+u) (b:=s) (by omega)
      refine ⟨rfl,rfl,?_,by omega,by omega⟩
      omega
@[reducible] def pBox (b:Nat) (v:Value) (T:TypeId):List Blk:=[(b,row [v] T)]
set_option maxHeartbeats 4000000 in
theorem jk_Append1 (bj bl br bs bJ bD:Nat) (j:JSt) (hj:j.Wf) (hb:j.broken=false) (g:Hd) (chG:List Blk) (hG:OwnC chG 2 g.a g.len g.cap (gCells j.groups)) (d:DSt) (chD:List Blk) (I:Imm) (hD:Dk I bD d chD) (k:Nat) (hd:d.Few k) (hk:k≤900000)
    (aL:Option Addr) (capL:Nat) (gs:List Img) (hi:ImgsOk I aL gs) (hgl:gs.length≤9223372036854775806) (hg6:j.groups.length≤900000) (held:Bool) :
    Tri Tryz.prog 157 #[.pointer (some ⟨bj,0,none⟩),.pointer (some ⟨bl,0,none⟩),.pointer (some ⟨br,0,none⟩),.pointer (some ⟨bs,0,none⟩)] I
      [pBox bj (.pointer (some ⟨bJ,0,none⟩)) 46,pBox bl (.slice aL gs.length capL) 26,pBox br (.bool held) 4,pBox bs (.int .i64 0) 3,jChunk bJ (j.at bD g),chG,chD] fun v J S' =>
      v=.int .i64 (j.append d (gs.map Img.pr) held).2.2.2∧∃ chJ chD',Jk bJ bD (j.append d (gs.map Img.pr) held).1 chJ∧Dk J bD (j.append d (gs.map Img.pr) held).2.1 chD'∧S'=[pBox bs (.int .i64 (j.append d (gs.map Img.pr) held).2.2.1) 3,chJ,chD']:=by
  have hrg:=hj.ring
  unfold Ok at hrg
  refine Tri.drop ?_ (fun _ _ _ _ h=>h)
  refine Tri.of (args:=[.pointer (some ⟨bj,0,none⟩),.pointer (some ⟨bl,0,none⟩),.pointer (some ⟨br,0,none⟩),.pointer (some ⟨bs,0,none⟩)]) tabOk Tryz.func157 rfl (by kernel_rfl) (by kernel_rfl) ?_
  refine CodeF.sched [[],[0],[0,1],[0,1,2],[],[4],[4,5],[4,5,6],[],[0,1,2,3,4,5,6,7,8],[0,1,2,3,4,5,6,7,8,9],[0,1,2,3,4,5,6,7,8,9,10],[0,1,2,3,4,5,6,7,8,9,10,11],[0,1,2,3,4,5,6,7,8,9,10,11],[0,1,2,3,4,5,6,7,8,9,10,11,12],[0,1,2,3,4,5,6,7,8,9,10,11,12,13,14]] [0,1,2,3,4,5,6,7,8,9,10,11,12,13,14,15] (by kernel_rfl) ?_
  repeat (first | refine LoadP.at 0 rfl _ rfl rfl ?_ | refine LoadP.at 1 rfl _ rfl rfl ?_ | refine LoadP.at 4 rfl _ rfl rfl ?_)
  refine Tri.free (put_of j.epoch j.next ⟨hj.epoch,by have:=hj.next; unfold In64; omega⟩ aL capL gs I hi hgl) ?_
  unfold JSt.append
  rw [List.length_map]
  rintro v J _ hJ (⟨c1,rfl⟩ | ⟨c1,aO,capO,bs2,rfl,hO,hbd,hbk⟩)
  · repeat (first | refine CmpD.no (by decide) ?_)
    refine Done.mk ?_
    rw [if_pos c1]
    exact ⟨[pBox bs (.int .i64 0) 3,jChunk bJ (j.at bD g)++chG,chD],(Drop.pick [3,4,5,6] _ rfl).trans (Drop.flat (by simp [St.at])),rfl,_,_,⟨g,chG,rfl,hG⟩,hD.mono hJ,rfl⟩
  rw [if_neg (by simpa using c1)]
  have hbl:bs2.length=gs.length+1:=by have:=congrArg List.length hbd; rw [putP_length,List.length_map,List.length_map] at this; exact this
  have hgl2:gs.length≤32:=by have:=c1.2.2.2.2.2.1; rwa [List.length_map] at this
  have hnx:j.next≤549755813888:=c1.2.2.2.1
  have hDJ:=hD.mono hJ
  repeat (first | refine LoadD.own 0 rfl _ rfl rfl ?_ | refine LoadD.own 4 rfl _ rfl rfl ?_ | refine CmpD.yes rfl ?_)
  refine CmpD.split (fun c2=>?_) (fun c2=>?_) <;> replace c2:=id (α:=_) c2 <;> dsimp only [JSt.at] at c2
  · skip
    refine Done.mk ?_
    rw [if_pos (by omega)]
    exact ⟨[pBox bs (.int .i64 0) 3,jChunk bJ (j.at bD g)++chG,chD],(Drop.pick [3,4,5,6] _ rfl).trans (Drop.flat (by simp [St.at])),rfl,_,_,⟨g,chG,rfl,hG⟩,hDJ,rfl⟩
  rw [if_neg (by omega)]
  repeat (first | refine LoadD.own 2 rfl _ rfl rfl ?_)
  have hrgk:=hj.ring
  cases held
  all_goals
    repeat (first | refine LoadD.own 0 rfl _ rfl rfl ?_ | refine LoadD.own 4 rfl _ rfl rfl ?_)
    refine Tri.free (ring_Put _ _ _ _ _ _ ?_ ?_ ?_ ?_ ?_ _ ?_) ?_
    iterate 6 (unfold In64; (try dsimp only [JSt.at]); omega)
    rintro v J2 _ hJ2 ⟨⟨s',t',u',h',at_,e',rfl,hput⟩,rfl⟩
    first | rw [if_pos rfl] | rw [if_neg Bool.false_ne_true]
    first | rw [show putS j.s j.t j.u j.h ((gs.length:Int)+1) 0=_ from hput] | rw [show putS j.s j.t j.u j.h ((gs.length:Int)+1) ((gs.length:Int)+1)=_ from hput]
    dsimp only
    conv=>whnf
    intro b8
    repeat (first | refine LoadD.own 0 rfl _ rfl rfl ?_ | refine LoadD.own 7 rfl _ rfl rfl ?_ | refine StoreD.st 7 rfl rfl rfl ?_)
    refine Tri.frame1 4 rfl (jr_turned bJ (j.at bD g) s' t' u' h' e' J) ?_
    rintro v J3 S' hJ3 ⟨rfl,rfl,rfl⟩
    refine ⟨_,rfl,?_⟩
    refine CmpD.split (fun c3=>?_) (fun c3=>?_)
    rotate_left
    · skip
      refine Done.mk ?_
      rw [if_pos c3,if_neg c3]
      exact ⟨[pBox bs (.int .i64 0) 3,jChunk bJ (j.at bD g)++chG,chD],(Drop.pick [3,4,5,6] _ rfl).trans (Drop.flat (by simp [St.at])),rfl,_,_,⟨g,chG,rfl,hG⟩,hDJ,rfl⟩
    rw [if_neg (by simpa using c3),if_pos c3]
    subst c3
    obtain ⟨es,et,hr',ha1,ha2⟩:=putS_mid hrgk hput rfl
    have hr2:=hr'
    unfold Ok at hr2
    skip
    have hP:=putP_length j.epoch.toNat j.next.toNat (gs.map Img.pr)
    obtain ⟨B,hB⟩:∃ B,B=putP j.epoch.toNat j.next.toNat (gs.map Img.pr):=⟨_,rfl⟩
    rw [List.length_map,← hB] at hP
    rw [← hB] at hbd ⊢
    obtain ⟨W,hW⟩:∃ W,W=wrAll (fun i=>j.lay.l+(at_+i) % s') B 0 d:=⟨_,rfl⟩
    rw [← hW]
    rcases hO.mem with q0 | ⟨bO,oO,cO,TO,fO,rfl,hIO,ht1⟩
    · omega
    refine CodeF.loopD [0,3,5,9,61,62,63] (fun vs J' S'=>∃ (i:Nat) (d':DSt) (chD' chR:List Blk),i≤gs.length+1∧W=wrAll (fun i=>j.lay.l+(at_+i) % s') (B.drop i) i d'∧d'.Few (k+i)∧Dk J' bD d' chD'∧J.le J' ∧
        vs=[.pointer (some ⟨bj,0,none⟩),.pointer (some ⟨bs,0,none⟩),.slice (some ⟨bO,oO,none⟩) (gs.length+1) capO,.int .i64 at_,.slice (some ⟨bO,oO,none⟩) (gs.length+1) capO,.int .i64 (gs.length+1:Nat),.int .i64 i] ∧
        S'=[pBox bj (.pointer (some ⟨bJ,0,none⟩)) 46,pBox bl (.slice aL gs.length capL) 26,chR,pBox bs (.int .i64 0) 3,jChunk bJ ({ j with s:=s',t:=t',u:=u',h:=h' }.at bD g),chG,chD'])
      (fun vs _ _=>match vs with | [_,_,_,_,_,_,.int _ i]=>((gs.length+1:Int) - i).toNat | _=>0) ?_ ?_
    · exact ⟨_,(Drop.pick [0,1,2,3,4,5,6] _ rfl),0,d,chD,_,by omega,by rw [hW]; rfl,hd,hDJ,J.le_refl,rfl,rfl⟩
    rintro vs gE J' S' hJ' ⟨i,d',chD',chR,hi1,hWi,hdi,hDi,hle,rfl,rfl⟩
    refine CmpD.split (fun c4=>?_) (fun c4=>?_)
    · have hib:i < bs2.length:=by omega
      have hcell:(bs2.map Bk.cell)[i]?=some bs2[i].cell:=by rw [List.getElem?_map,List.getElem?_eq_getElem hib]; rfl
      have hbki:=hbk _ (List.getElem_mem hib)
      have hBi:B.drop i=bs2[i].data :: B.drop (i+1):=by
        have hiB:i < B.length:=by omega
        rw [List.drop_eq_getElem_cons hiB]
        congr 1
        simp only [← hbd,List.getElem_map]
      obtain ⟨bk,hbke⟩:∃ bk,bk=bs2[i]:=⟨_,rfl⟩
      rw [← hbke] at hcell hbki hBi
      refine Chk.mk (by omega) ?_
      refine LoadD.imm (hle _ _ hIO) _ (take_get ht1 hcell) rfl ?_
      refine CodeF.sched [[],[],[1],[1,2],[1,2,3],[],[5],[5,6],[5,6,7],[5,6,7,8],[],[],[10,11],[],[13],[13,14],[13,14,15],[13,14,15,16],[10,11,12,13,14,15,16,17],[5,6,7,8,9,10,11,12,13,14,15,16,17,18],[],[1,2,3,4,5,6,7,8,9,10,11,12,13,14,15,16,17,18,19,20],[0,1,2,3,4,5,6,7,8,9,10,11,12,13,14,15,16,17,18,19,20,21],[0,1,2,3,4,5,6,7,8,9,10,11,12,13,14,15,16,17,18,19,20,21,22]] [0,1,2,3,4,5,6,7,8,9,10,11,12,13,14,15,16,17,18,19,20,21,22,23] (by kernel_rfl) ?_
      have hm1:=Int.emod_nonneg (at_+i) (b:=s') (by omega)
      have hm2:=Int.emod_lt_of_pos (at_+i) (b:=s') (by omega)
      have hlog:=hj.log
      repeat (first | refine LoadP.at 0 rfl _ rfl rfl ?_ | refine LoadP.at 4 rfl _ rfl rfl ?_)
      refine ToD.i64 (by omega) (by omega) ?_
      repeat (first | refine LoadP.at 0 rfl _ rfl rfl ?_ | refine LoadP.at 4 rfl _ rfl rfl ?_)
      refine Chk.mk (show s'≠0 by omega) ?_
      refine ToD.rem (by omega) ?_
      refine ToD.i64 (show -9223372036854775808≤j.lay.l+(at_+i) % s' by omega) (show j.lay.l+(at_+i) % s'≤9223372036854775807 by omega) ?_
      refine Tri.frame1 6 rfl (dk_Write hDi (hdi.mono (by omega)) (j.lay.l+(at_+i) % s') bk.a 4096 bk.cap bk.data (BkOk.mono hbki hle)) ?_
      rintro v J4 S4 hJ4 ⟨rfl,chD2,hD2,rfl⟩
      refine ⟨_,rfl,?_⟩
      repeat (first | refine Chk.mk ⟨rfl,trivial⟩ ?_)
      refine Tri.frame1 4 rfl (jr_did bJ ({ j with s:=s',t:=t',u:=u',h:=h' }.at bD g) _ J4) ?_
      rintro v J5 S5 hJ5 ⟨rfl,rfl,rfl⟩
      refine ⟨_,rfl,?_⟩
      rw [hBi,wrAll] at hWi
      refine CmpD.split (fun c5=>?_) (fun c5=>?_)
      · rw [if_neg (by simpa using c5)] at hWi
        skip
        refine ToD.i64 (by omega) (by omega) ?_
        refine ⟨_,Drop.pick [0,1,2,3,4,5,6] _ rfl,⟨i+1,_,chD2,chR,by omega,hWi,hdi.write _ _,hD2,Imm.le_trans hle hJ4,rfl,?_⟩,?_⟩
        · rw [decide_eq_true c5]
          show [_,_,_,_,jChunk bJ { ({ j with s:=s',t:=t',u:=u',h:=h' }:JSt).at bD g with broken:=j.broken || !true },_,_]=_
          rw [hb]; rfl
        · show ((gs.length+1:Int) - ((i:Int)+1)).toNat < ((gs.length+1:Int) - (i:Int)).toNat
          omega
      · rw [if_pos c5] at hWi
        skip
        refine Done.mk ?_
        rw [hWi,if_pos c5]
        refine ⟨[pBox bs (.int .i64 0) 3,jChunk bJ ({ j with s:=s',t:=t',u:=u',h:=h',broken:=true }.at bD g)++chG,chD2],?_,rfl,_,_,⟨g,chG,rfl,hG⟩,hD2,rfl⟩
        rw [decide_eq_false c5]
        refine (Drop.pick [3,4,5,6] _ rfl).trans (Drop.flat ?_)
        show List.flatten [_,jChunk bJ { ({ j with s:=s',t:=t',u:=u',h:=h' }:JSt).at bD g with broken:=j.broken || !false },_,_]=_
        rw [hb]; simp
    · obtain rfl:i=gs.length+1:=by omega
      rw [List.drop_of_length_le (by omega),wrAll] at hWi
      rw [hWi,if_neg (by simp)]
      repeat (first | refine LoadD.own 0 rfl _ rfl rfl ?_ | refine LoadD.own 4 rfl _ rfl rfl ?_ | refine StoreD.st 3 rfl rfl rfl ?_)
      refine CodeF.sched [[],[],[1],[1,2],[1,2,3],[],[],[6],[5,6,7],[5,6,7,8],[1,2,3,4,5,6,7,8,9],[0,1,2,3,4,5,6,7,8,9,10],[0,1,2,3,4,5,6,7,8,9,10,11],[0,1,2,3,4,5,6,7,8,9,10,11,12]] [0,1,2,3,4,5,6,7,8,9,10,11,12,13] (by kernel_rfl) ?_
      repeat (first | refine LoadP.at 0 rfl _ rfl rfl ?_ | refine LoadP.at 3 rfl _ rfl rfl ?_ | refine LoadP.at 4 rfl _ rfl rfl ?_)
      conv=>whnf
      intro bN
      repeat (first | refine Chk.mk ⟨rfl,rfl,rfl,trivial⟩ ?_)
      refine appendD tabOk rfl rfl rfl rfl rfl rfl rfl 5 rfl hG (SrcOk.slice (n:=1) (news:=[.int .i64 j.next,.int .i64 (gs.length+1:Nat)]) tabOk rfl ((OwnC.whole (len:=1) (size:=2) rfl).slC 7 rfl) (by intro v hv; simp only [List.mem_cons,List.not_mem_nil,or_false] at hv; rcases hv with rfl | rfl <;> rfl)) rfl ?_ ?_ ?_
      · have:=hG.n; rw [gCells_length] at this
        show (g.len+1) * 16≤_
        omega
      · have:=hG.n; rw [gCells_length] at this
        show g.len+1≤_
        omega
      have hn0:=hj.next
      intro a2 cap2 ch2 hG2
      repeat (first | refine LoadD.own 0 rfl _ rfl rfl ?_ | refine LoadD.own 4 rfl _ rfl rfl ?_ | refine StoreD.st 4 rfl rfl rfl ?_ | refine Chk.mk ⟨rfl,trivial⟩ ?_)
      refine ToD.i64 (show -9223372036854775808≤j.next+1 by omega) (show j.next+1≤_ by omega) ?_
      repeat (first | refine StoreD.st 4 rfl rfl rfl ?_)
      refine Done.mk ?_
      refine ⟨[pBox bs (.int .i64 j.next) 3,jChunk bJ ({ j with s:=s',t:=t',u:=u',h:=h',groups:=j.groups++[(j.next,(gs.length+1:Int))],next:=j.next+1 }.at bD ⟨a2,g.len+1,cap2⟩)++ch2,chD'],?_,rfl,_,_,⟨⟨a2,g.len+1,cap2⟩,ch2,rfl,?_⟩,hDi,rfl⟩
      · refine (Drop.pick [3,4,5,6] _ rfl).trans (Drop.flat ?_)
        simp [St.at]
        exact ⟨rfl,rfl⟩
      · rw [gCells_snoc]; exact hG2
end Go.Proofs.YtegdcjnjnoeinaaGreat
namespace Go.Proofs.YtegdcjnjnoeinaaGreat
open Go.RowKit Go.Sl
set_option maxRecDepth 20000
def JSt.appendB (j:JSt) (d:DSt) (l:List PImg) (held:Bool):JSt × DSt × Int × Int:=if j.broken then (j,d,0,4) else j.append d l held
set_option maxHeartbeats 1000000 in
theorem jk_Append {bJ bD:Nat} {j:JSt} {ch:List Blk} (hJ0:Jk bJ bD j ch) (hj:j.Wf) {I:Imm} {d:DSt} {chD:List Blk} (hD:Dk I bD d chD) (hd:d.Few 900000) (hg6:j.groups.length≤900000)
    (aL:Option Addr) (capL:Nat) (gs:List Img) (hi:ImgsOk I aL gs) (hgl:gs.length≤9223372036854775806) (held:Bool) :
    Tri Tryz.prog 84 #[.pointer (some ⟨bJ,0,none⟩),.slice aL gs.length capL,.bool held] I [ch,chD] fun v J S' =>
      v=.tuple #[.int .i64 (j.appendB d (gs.map Img.pr) held).2.2.1,.int .i64 (j.appendB d (gs.map Img.pr) held).2.2.2]∧∃ chJ chD',Jk bJ bD (j.appendB d (gs.map Img.pr) held).1 chJ∧Dk J bD (j.appendB d (gs.map Img.pr) held).2.1 chD'∧S'=[chJ,chD']:=by
  obtain ⟨g,chG,rfl,hG⟩:=hJ0
  have hm:=fun bj bl br bs=>jr_may4 bJ (j.at bD g) 157 bj bl br bs I [pBox bj (.pointer (some ⟨bJ,0,none⟩)) 46,pBox bl (.slice aL gs.length capL) 26,pBox br (.bool held) 4,pBox bs (.int .i64 0) 3,jChunk bJ (j.at bD g),chG,chD] 4 rfl
    (fun hb=>jk_Append1 bj bl br bs bJ bD j hj hb g chG hG d chD I hD 900000 hd (Nat.le_refl _) aL capL gs hi hgl hg6 held)
  refine Tri.lay (S2:=[jChunk bJ (j.at bD g),chG,chD]) (by simp) ?_
  refine Tri.drop ?_ (fun _ _ _ _ h=>h)
  refine Tri.of (args:=[.pointer (some ⟨bJ,0,none⟩),.slice aL gs.length capL,.bool held]) tabOk Tryz.func84 rfl (by kernel_rfl) (by kernel_rfl) ?_
  conv=>whnf
  intro b3
  conv=>whnf
  intro b4
  conv=>whnf
  intro b5
  conv=>whnf
  intro b8
  repeat (first | refine LoadD.own 3 rfl _ rfl rfl ?_ | refine StoreD.st 6 rfl rfl rfl ?_)
  refine Tri.frameX (hm b3 b4 b5 b8) [3,4,5,6,0,1,2] rfl rfl ?_
  unfold JSt.appendB
  rintro v J A' hJ (⟨hb,rfl,rfl,rfl⟩ | ⟨hb,rfl,chJ,chD',h1,h2,rfl⟩)
  · refine LoadD.own 10 rfl [.int .i64 0] rfl rfl ?_
    rw [if_pos hb]
    exact Done.mk ⟨[jChunk bJ (j.at bD g)++chG,chD],(Drop.pick [11,12,13] _ rfl).trans (Drop.flat (by simp [St.at])),rfl,_,_,⟨g,chG,rfl,hG⟩,hD,rfl⟩
  · rw [if_neg (by have hb:j.broken=false:=hb; rw [hb]; simp)]
    refine LoadD.own 7 rfl [.int .i64 _] rfl rfl ?_
    exact Done.mk ⟨[chJ,chD'],(Drop.pick [8,9] _ rfl).trans (Drop.flat (by simp [St.at])),rfl,_,_,h1,h2,rfl⟩
end Go.Proofs.YtegdcjnjnoeinaaGreat
namespace Go.Proofs.YtegdcjnjnoeinaaGreat
open Go.RowKit Go.Sl
set_option maxRecDepth 20000
def JSt.flush (j:JSt) (d:DSt):JSt × DSt × Int:=if j.broken then (j,d,4) else if d.flush.2≠0 then ({ j with broken:=true },d.flush.1,d.flush.2) else ({ j with synced:=j.next - 1 },d.flush.1,0)
theorem jk_Flush1 (bx bJ bD:Nat) (j:JSt) (hj:j.Wf) (hb:j.broken=false) (g:Hd) (chG:List Blk) (hG:OwnC chG 2 g.a g.len g.cap (gCells j.groups)) (d:DSt) (chD:List Blk) (I:Imm) (hD:Dk I bD d chD) :
    Tri Tryz.prog 161 #[.pointer (some ⟨bx,0,none⟩)] I [pBox bx (.pointer (some ⟨bJ,0,none⟩)) 46,jChunk bJ (j.at bD g),chG,chD] fun v J S' =>
      v=.int .i64 (j.flush d).2.2∧∃ chJ chD',Jk bJ bD (j.flush d).1 chJ∧Dk J bD (j.flush d).2.1 chD'∧S'=[chJ,chD']:=by
  have hn:=hj.next
  unfold JSt.flush
  rw [if_neg (by rw [hb]; simp)]
  refine Tri.drop ?_ (fun _ _ _ _ h=>h)
  refine Tri.of (args:=[.pointer (some ⟨bx,0,none⟩)]) tabOk Tryz.func161 rfl (by kernel_rfl) (by kernel_rfl) ?_
  refine CodeF.sched [[],[],[1],[1,2],[1,2,3],[1,2,3,4],[0,1,2,3,4,5],[0,1,2,3,4,5,6]] [0,1,2,3,4,5,6,7] (by kernel_rfl) ?_
  repeat (first | refine LoadP.at 0 rfl _ rfl rfl ?_ | refine LoadP.at 1 rfl _ rfl rfl ?_)
  refine Tri.frame1 3 rfl (dk_Flush hD) ?_
  rintro v J S' hJ ⟨rfl,chD',hD',rfl⟩
  refine ⟨_,rfl,?_⟩
  repeat (first | refine Chk.mk ⟨rfl,trivial⟩ ?_)
  refine Tri.frame1 1 rfl (jr_did bJ (j.at bD g) _ J) ?_
  rintro v J S' hJ2 ⟨rfl,rfl,rfl⟩
  refine ⟨_,rfl,?_⟩
  refine CmpD.split (fun c1=>?_) (fun c1=>?_)
  · rw [if_neg (by simpa using c1)]
    refine CodeF.sched [[],[],[1],[1,2],[1,2,3],[1,2,3,4],[0,1,2,3,4,5],[0,1,2,3,4,5,6],[0,1,2,3,4,5,6,7]] [0,1,2,3,4,5,6,7,8] (by kernel_rfl) ?_
    repeat (first | refine LoadP.at 0 rfl _ rfl rfl ?_ | refine LoadP.at 1 rfl _ rfl rfl ?_)
    refine ToD.i64 (show -9223372036854775808≤j.next - 1 by omega) (show j.next - 1≤_ by omega) ?_
    repeat (first | refine StoreD.st 1 rfl rfl rfl ?_)
    refine Done.mk ⟨[jChunk bJ ({ j with synced:=j.next - 1 }.at bD g)++chG,chD'],(Drop.pick [1,2,3] _ rfl).trans (Drop.flat ?_),rfl,_,_,⟨g,chG,rfl,hG⟩,hD',rfl⟩
    rw [decide_eq_true c1]
    simp [St.at,hb]
    rfl
  · rw [if_pos c1]
    skip
    refine Done.mk ⟨[jChunk bJ ({ j with broken:=true }.at bD g)++chG,chD'],(Drop.pick [1,2,3] _ rfl).trans (Drop.flat ?_),rfl,_,_,⟨g,chG,rfl,hG⟩,hD',rfl⟩
    rw [decide_eq_false c1]
    simp [St.at,hb]
theorem jk_Flush {bJ bD:Nat} {j:JSt} {ch:List Blk} (hJ0:Jk bJ bD j ch) (hj:j.Wf) {I:Imm} {d:DSt} {chD:List Blk} (hD:Dk I bD d chD) :
    Tri Tryz.prog 88 #[.pointer (some ⟨bJ,0,none⟩)] I [ch,chD] fun v J S' =>
      v=.int .i64 (j.flush d).2.2∧∃ chJ chD',Jk bJ bD (j.flush d).1 chJ∧Dk J bD (j.flush d).2.1 chD'∧S'=[chJ,chD']:=by
  obtain ⟨g,chG,rfl,hG⟩:=hJ0
  have hm:=fun bx=>jr_may1 bJ (j.at bD g) 161 bx I [pBox bx (.pointer (some ⟨bJ,0,none⟩)) 46,jChunk bJ (j.at bD g),chG,chD] 1 rfl (fun hb=>jk_Flush1 bx bJ bD j hj hb g chG hG d chD I hD)
  refine Tri.lay (S2:=[jChunk bJ (j.at bD g),chG,chD]) (by simp) ?_
  refine Tri.drop ?_ (fun _ _ _ _ h=>h)
  refine Tri.of (args:=[.pointer (some ⟨bJ,0,none⟩)]) tabOk Tryz.func88 rfl (by kernel_rfl) (by kernel_rfl) ?_
  conv=>whnf
  intro b3
  repeat (first | refine LoadD.own 3 rfl _ rfl rfl ?_)
  refine Tri.frameX (hm b3) [3,0,1,2] rfl rfl ?_
  rintro v J A' hJ (⟨hb,rfl,rfl,rfl⟩ | ⟨hb,rfl,chJ,chD',h1,h2,rfl⟩)
  · unfold JSt.flush
    rw [if_pos hb]
    exact Done.mk ⟨[jChunk bJ (j.at bD g)++chG,chD],(Drop.pick [5,6,7] _ rfl).trans (Drop.flat (by simp [St.at])),rfl,_,_,⟨g,chG,rfl,hG⟩,hD,rfl⟩
  · exact Done.mk ⟨[chJ,chD'],(Drop.pick [4,5] _ rfl).trans (Drop.flat (by simp [St.at])),rfl,_,_,h1,h2,rfl⟩
def relAll (seq:Int):List (Int × Int)→Int→Int→Int→Int→List (Int × Int) × R5
  | [],s,t,u,h=>([],(s,t,u,h,0))
  | g :: gs,s,t,u,h=>if g.1≤seq then (match dropS s t u h g.2 with
    | (s',t',u',h',e)=>if e=0 then relAll seq gs s' t' u' h' else (g :: gs,(s,t,u,h,e))) else (g :: gs,(s,t,u,h,0))
def JSt.release (j:JSt) (seq:Int):JSt × Int:=if j.broken then (j,4) else if j.synced < seq then (j,2) else match relAll seq j.groups j.s j.t j.u j.h with
  | (gs,(s,t,u,h,e))=>({ j with s:=s,t:=t,u:=u,h:=h,groups:=gs },e)
theorem dropS_mid {s t u h n:Int} (hr:Ok s t u h) {s' t' u' h' e:Int} (hp:dropS s t u h n=(s',t',u',h',e)) (he:e=0):Ok s' t' u' h':=by
  unfold dropS at hp
  subst he
  split at hp
  · simp at hp
  · rename_i h1
    simp only [Prod.mk.injEq] at hp
    obtain ⟨rfl,rfl,rfl,rfl,_⟩:=hp
    unfold Ok at hr h1 ⊢
    have:=Int.emod_nonneg (t+n) (b:=s) (by omega)
    have:=Int.emod_lt_of_pos (t+n) (b:=s) (by omega)
    omega
set_option maxHeartbeats 2000000 in
theorem jk_Release1 (bn bx bJ bD:Nat) (seq:Int) (j:JSt) (hj:j.Wf) (hb:j.broken=false) (g:Hd) (chG:List Blk) (hG:OwnC chG 2 g.a g.len g.cap (gCells j.groups)) (I:Imm) :
    Tri Tryz.prog 165 #[.pointer (some ⟨bn,0,none⟩),.pointer (some ⟨bx,0,none⟩)] I [pBox bn (.int .i64 seq) 3,pBox bx (.pointer (some ⟨bJ,0,none⟩)) 46,jChunk bJ (j.at bD g),chG] fun v J S' =>
      I=J∧v=.int .i64 (j.release seq).2∧∃ chJ,Jk bJ bD (j.release seq).1 chJ∧S'=[chJ]:=by
  unfold JSt.release
  rw [if_neg (by rw [hb]; simp)]
  refine Tri.drop ?_ (fun _ _ _ _ h=>h)
  refine Tri.of (args:=[.pointer (some ⟨bn,0,none⟩),.pointer (some ⟨bx,0,none⟩)]) tabOk Tryz.func165 rfl (by kernel_rfl) (by kernel_rfl) ?_
  refine CodeF.sched [[],[],[1],[1,2],[1,2,3],[0,1,2,3,4]] [0,1,2,3,4,5] (by kernel_rfl) ?_
  repeat (first | refine LoadP.at 0 rfl _ rfl rfl ?_ | refine LoadP.at 1 rfl _ rfl rfl ?_ | refine LoadP.at 2 rfl _ rfl rfl ?_)
  refine CmpD.split (fun c1=>?_) (fun c1=>?_)
  · replace c1:j.synced < seq:=c1
    rw [if_pos c1]
    exact Done.mk ⟨[jChunk bJ (j.at bD g)++chG],(Drop.pick [2,3] _ rfl).trans (Drop.flat (by simp [St.at])),rfl,rfl,_,⟨g,chG,rfl,hG⟩,rfl⟩
  replace c1:¬ j.synced < seq:=c1
  rw [if_neg c1]
  obtain ⟨W,hW⟩:∃ W,W=relAll seq j.groups j.s j.t j.u j.h:=⟨_,rfl⟩
  rw [← hW]
  refine CodeF.loopD [0,1] (fun vs J' S'=>∃ (gs:List (Int × Int)) (g':Hd) (chG':List Blk) (s t u h:Int),gs.length≤1000000∧(∀ x ∈ gs,In64 x.1∧In64 x.2)∧W=relAll seq gs s t u h∧Ok s t u h∧OwnC chG' 2 g'.a g'.len g'.cap (gCells gs)∧J'=I ∧
      vs=[.pointer (some ⟨bn,0,none⟩),.pointer (some ⟨bx,0,none⟩)] ∧
      S'=[pBox bn (.int .i64 seq) 3,pBox bx (.pointer (some ⟨bJ,0,none⟩)) 46,jChunk bJ ({ j with s:=s,t:=t,u:=u,h:=h,groups:=gs }.at bD g'),chG'])
    (fun _ _ S'=>match S' with | [_,_,[(_,.cells c _ _)],_]=>(match c[15]? with | some (Value.slice _ l _)=>l | _=>0) | _=>0) ?_ ?_
  · exact ⟨_,Drop.refl _,j.groups,g,chG,j.s,j.t,j.u,j.h,hj.few,hj.groups,hW,hj.ring,hG,rfl,rfl,rfl⟩
  rintro vs gE J' S' hJ' ⟨gs,⟨ga,gl,gc⟩,chG',s,t,u,h,hfew,hin,hWi,hr,hG',rfl,rfl,rfl⟩
  dsimp only at hG'
  have hr2:=hr
  unfold Ok at hr2
  have hgl:gs.length=gl:=by have:=hG'.n; rw [gCells_length] at this; omega
  refine CodeF.sched [[],[0],[0,1],[0,1,2],[0,1,2,3],[0,1,2,3,4],[0,1,2,3,4,5],[0,1,2,3,4,5,6],[0,1,2,3,4,5,6,7],[0,1,2,3,4,5,6,7,8],[0,1,2,3,4,5,6,7,8,9],[0,1,2,3,4,5,6,7,8,9,10],[0,1,2,3,4,5,6,7,8,9,10,11],[0,1,2,3,4,5,6,7,8,9,10,11,12],[0,1,2,3,4,5,6],[0,1,2,3,4,5,6,7,8,9,10,11,12,13,14],[0,1,2,3,4,5,6,7,8,9,10,11,12,13,14,15]] [0,1,2,3,4,5,6,7,8,9,10,11,12,13,14,15,16] (by kernel_rfl) ?_
  repeat (first | refine LoadP.at 1 rfl _ rfl rfl ?_ | refine LoadP.at 2 rfl _ rfl rfl ?_)
  match gs,hgl,hG',hWi,hin,hfew with
  | [],hgl,hG',hWi,_,_ =>
    obtain rfl:gl=0:=by simpa using hgl.symm
    refine CmpD.no (by show ¬ (0:Int) < ((0:Nat):Int); decide) ?_
    refine Done.mk ?_
    rw [hWi,relAll]
    exact ⟨[jChunk bJ ({ j with s:=s,t:=t,u:=u,h:=h,groups:=[] }.at bD ⟨ga,0,gc⟩)++chG'],(Drop.pick [2,3] _ rfl).trans (Drop.flat (by simp [St.at])),rfl,rfl,_,⟨⟨ga,0,gc⟩,chG',rfl,hG'⟩,rfl⟩
  | (gq,gb) :: gs,hgl,hG',hWi,hin,hfew =>
    simp only [List.length_cons] at hgl hfew
    have hi:=hin (gq,gb) (by simp)
    rcases hG'.at' with q0 | ⟨bG,pre,post,TG,rfl,rfl,hpost⟩
    · have:=hG'.le; omega
    have ht:((pre++gCells ((gq,gb) :: gs)++post).drop pre.length).take 1=[.int .i64 gq]:=by
      rw [List.append_assoc,List.drop_left]; simp [gCells]
    have ht2:((pre++gCells ((gq,gb) :: gs)++post).drop (pre.length+1)).take 1=[.int .i64 gb]:=by
      rw [List.append_assoc,← List.drop_drop,List.drop_left]; simp [gCells]
    refine CmpD.yes (by show (0:Int) < (gl:Int); omega) ?_
    repeat (first | refine LoadP.at 1 rfl _ rfl rfl ?_ | refine LoadP.at 2 rfl _ rfl rfl ?_)
    refine Chk.mk (by show (0:Int)≤0∧(0:Int) < (gl:Int); omega) ?_
    refine LoadP.at 3 rfl [.int .i64 gq] ht rfl ?_
    repeat (first | refine LoadP.at 0 rfl _ rfl rfl ?_)
    refine CmpD.split (fun c2=>?_) (fun c2=>?_)
    rotate_left
    · refine Done.mk ?_
      rw [hWi,relAll,if_neg (by exact c2)]
      exact ⟨[jChunk bJ ({ j with s:=s,t:=t,u:=u,h:=h,groups:=(gq,gb) :: gs }.at bD ⟨_,gl,gc⟩)++_],(Drop.pick [2,3] _ rfl).trans (Drop.flat (by simp [St.at])),rfl,rfl,_,⟨⟨_,gl,gc⟩,_,rfl,hG'⟩,rfl⟩
    refine CodeF.sched [[],[],[1],[1,2],[1,2,3],[],[5],[5,6],[5,6,7],[5,6,7,8],[5,6,7,8,9],[5,6,7,8,9,10],[1,2,3,4,5,6,7,8,9,10,11],[1,2,3,4,5,6,7,8,9,10,11,12],[1,2,3,4,5,6,7,8,9,10,11,12],[0,1,2,3,4,5,6,7,8,9,10,11,12,13,14],[0,1,2,3,4,5,6,7,8,9,10,11,12,13,14,15]] [0,1,2,3,4,5,6,7,8,9,10,11,12,13,14,15,16] (by kernel_rfl) ?_
    repeat (first | refine LoadP.at 1 rfl _ rfl rfl ?_ | refine LoadP.at 2 rfl _ rfl rfl ?_)
    refine Chk.mk (by show (0:Int)≤0∧(0:Int) < (gl:Int); omega) ?_
    refine LoadP.at 3 rfl [.int .i64 gb] ht2 rfl ?_
    refine Tri.free (ring_Drop s t u h gb J' (by unfold In64; omega) (by unfold In64; omega) (by unfold In64; omega) (by unfold In64; omega) hi.2) ?_
    rintro v J2 _ hJ2 ⟨⟨s',t',u',h',e',rfl,hd⟩,rfl⟩
    repeat (first | refine Chk.mk ⟨rfl,trivial⟩ ?_)
    refine Tri.frame1 2 rfl (jr_turned bJ ({ j with s:=s,t:=t,u:=u,h:=h,groups:=(gq,gb) :: gs }.at bD ⟨some ⟨bG,pre.length,none⟩,gl,gc⟩) s' t' u' h' e' J') ?_
    rintro v J3 S' hJ3 ⟨rfl,rfl,rfl⟩
    refine ⟨_,rfl,?_⟩
    rw [relAll,if_pos (by exact c2),hd] at hWi
    dsimp only at hWi
    refine CmpD.split (fun c3=>?_) (fun c3=>?_)
    rotate_left
    · skip
      refine Done.mk ?_
      rw [hWi,if_neg c3,if_neg c3]
      exact ⟨[jChunk bJ ({ j with s:=s,t:=t,u:=u,h:=h,groups:=(gq,gb) :: gs }.at bD ⟨_,gl,gc⟩)++_],(Drop.pick [2,3] _ rfl).trans (Drop.flat (by simp [St.at])),rfl,rfl,_,⟨⟨_,gl,gc⟩,_,rfl,hG'⟩,rfl⟩
    rw [if_pos c3] at hWi ⊢
    have hr3:=dropS_mid hr hd c3
    refine CodeF.sched [[],[],[1],[1,2],[1,2,3],[1,2,3,4],[0,1,2,3,4,5],[0,1,2,3,4,5,6],[0,1,2,3,4,5,6,7]] [0,1,2,3,4,5,6,7,8] (by kernel_rfl) ?_
    repeat (first | refine LoadP.at 1 rfl _ rfl rfl ?_ | refine LoadP.at 2 rfl _ rfl rfl ?_)
    refine sliceD tabOk rfl rfl rfl rfl 1 gl gc ⟨_,rfl⟩ rfl rfl (.inl rfl) ⟨by omega,hG'.le,Nat.le_refl _⟩ ?_
    have hp:=hG'.part 1 gl (by omega) (Nat.le_refl _)
    have e2:((gCells ((gq,gb) :: gs)).drop (1 * 2)).take ((gl - 1) * 2)=gCells gs:=by
      have e:gCells ((gq,gb) :: gs)=[.int .i64 gq,.int .i64 gb]++gCells gs:=by simp [gCells]
      rw [e]
      show (gCells gs).take _=_
      exact List.take_of_length_le (by rw [gCells_length]; omega)
    rw [e2] at hp
    repeat (first | refine StoreD.st 2 rfl rfl rfl ?_ | refine Chk.mk ⟨rfl,trivial⟩ ?_)
    refine ⟨[pBox bn (.int .i64 seq) 3,pBox bx (.pointer (some ⟨bJ,0,none⟩)) 46,jChunk bJ ({ j with s:=s',t:=t',u:=u',h:=h',groups:=gs }.at bD ⟨slAddr (some ⟨bG,pre.length,none⟩) 1 gc 2,gl - 1,gc - 1⟩),[(bG,row (pre++gCells ((gq,gb) :: gs)++post) TG)]],Drop.refl _,⟨gs,⟨_,_,_⟩,_,s',t',u',h',by omega,fun x hx=>hin x (by simp [hx]),hWi,hr3,hp,rfl,rfl,rfl⟩,?_⟩
    show gl - 1 < gl
    omega
theorem jk_Release {bJ bD:Nat} {j:JSt} {ch:List Blk} (hJ0:Jk bJ bD j ch) (hj:j.Wf) (seq:Int) (I:Imm) :
    Tri Tryz.prog 95 #[.pointer (some ⟨bJ,0,none⟩),.int .i64 seq] I [ch] fun v J S' =>
      I=J∧v=.int .i64 (j.release seq).2∧∃ chJ,Jk bJ bD (j.release seq).1 chJ∧S'=[chJ]:=by
  obtain ⟨g,chG,rfl,hG⟩:=hJ0
  have hm:=fun bn bx=>jr_may2 bJ (j.at bD g) 165 bn bx I [pBox bn (.int .i64 seq) 3,pBox bx (.pointer (some ⟨bJ,0,none⟩)) 46,jChunk bJ (j.at bD g),chG] 2 rfl (fun hb=>jk_Release1 bn bx bJ bD seq j hj hb g chG hG I)
  refine Tri.lay (S2:=[jChunk bJ (j.at bD g),chG]) (by simp) ?_
  refine Tri.drop ?_ (fun _ _ _ _ h=>h)
  refine Tri.of (args:=[.pointer (some ⟨bJ,0,none⟩),.int .i64 seq]) tabOk Tryz.func95 rfl (by kernel_rfl) (by kernel_rfl) ?_
  conv=>whnf
  intro bx
  conv=>whnf
  intro bn
  repeat (first | refine LoadD.own 2 rfl _ rfl rfl ?_)
  refine Tri.frameX (hm bn bx) [3,2,0,1] rfl rfl ?_
  rintro v J A' hJ (⟨hb,rfl,rfl,rfl⟩ | ⟨hb,rfl,rfl,chJ,h1,rfl⟩)
  · unfold JSt.release
    rw [if_pos hb]
    exact Done.mk ⟨[jChunk bJ (j.at bD g)++chG],(Drop.pick [6,7] _ rfl).trans (Drop.flat (by simp [St.at])),rfl,rfl,_,⟨g,chG,rfl,hG⟩,rfl⟩
  · exact Done.mk ⟨[chJ],(Drop.pick [4] _ rfl).trans (Drop.flat (by simp [St.at])),rfl,rfl,_,h1,rfl⟩
end Go.Proofs.YtegdcjnjnoeinaaGreat
namespace Go.Proofs.YtegdcjnjnoeinaaGreat
open Go.RowKit Go.Sl
set_option maxRecDepth 20000
def openJ (n:Nat) (epoch seq tail:Int):JSt:=⟨layOf n,layL n,tail,0,0,epoch,seq,seq - 1,[],false⟩
def OpenOk (n:Nat) (x:Lay) (epoch seq tail:Int):Prop:=x=layOf n∧1≤epoch∧epoch≤8388608∧1≤seq∧seq≤549755813888∧0≤tail∧tail < layL n
theorem jk_Open {I:Imm} {bD:Nat} {st:DSt} {ch:List Blk} (h:Dk I bD st ch) (n:Nat) (hn:st.now.length=n) (hn2:64≤n) (x:Lay) (epoch seq tail:Int) (hseq:In64 seq) :
    Tri Tryz.prog 109 #[.pointer (some ⟨bD,0,none⟩),x.v,.int .i64 epoch,.int .i64 seq,.int .i64 tail] I [ch] fun v J S' =>
      (¬ OpenOk n x epoch seq tail∧v=.tuple #[.pointer none,.int .i64 2]∧I=J∧S'=[ch]) ∨
      (OpenOk n x epoch seq tail∧I=J∧∃ bJ chJ,v=.tuple #[.pointer (some ⟨bJ,0,none⟩),.int .i64 0]∧Jk bJ bD (openJ n epoch seq tail) chJ∧S'=[ch,chJ]):=by
  obtain ⟨hw,d,chS,chN,chW,bS,bN,bW,rfl,hD,q1,q2,q3,q4,q5,q6,q7⟩:=h
  have hl:=hD.hN.len1
  have hl':st.now.length=d.now.len:=by rw [← q2]; simpa using hl
  have hr:=hw.range
  refine Tri.abs (S2:=[dChunk bD d,chS++(chN++chW)]) (by simp) (Tri.frameX (jr_Open bD d n (by omega) (by omega) x epoch seq tail hseq I) [0] rfl rfl (K:=fun v J S'=>(¬ OpenOk n x epoch seq tail∧v=.tuple #[.pointer none,.int .i64 2]∧I=J∧Drop S' [dChunk bD d++(chS++(chN++chW))]) ∨
      (OpenOk n x epoch seq tail∧I=J∧∃ bJ chJ,v=.tuple #[.pointer (some ⟨bJ,0,none⟩),.int .i64 0]∧Jk bJ bD (openJ n epoch seq tail) chJ∧Drop S' [dChunk bD d++(chS++(chN++chW)),chJ])) ?_) ?_
  · rintro v J S' hJ (⟨c,rfl,rfl,rfl⟩ | ⟨c1,c2,c3,c4,c5,c6,c7,rfl,bJ,rfl,rfl⟩)
    · exact .inl ⟨c,rfl,rfl,(Drop.pick [2,1] _ rfl).trans (Drop.flat (by simp [St.at]))⟩
    · refine .inr ⟨⟨c1,c2,c3,c4,c5,c6,c7⟩,rfl,bJ,_,rfl,⟨⟨none,0,0⟩,[],?_,OwnC.nil _ _⟩,(Drop.pick [2,1,3] _ rfl).trans (Drop.flat (by simp [St.at]; rfl))⟩
      rw [List.append_nil,c1]; rfl
  · rintro v J S' hJ (⟨c,rfl,rfl,hd⟩ | ⟨c,rfl,bJ,chJ,rfl,hj,hd⟩)
    · exact ⟨_,hd,.inl ⟨c,rfl,rfl,rfl⟩⟩
    · exact ⟨_,hd,.inr ⟨c,rfl,bJ,chJ,rfl,hj,rfl⟩⟩
theorem layL_64':layL ((64:Nat):Int)=16:=by decide
theorem openJ_wf (n:Nat) (hn:64≤n∧n≤512) {epoch seq tail:Int} (h:OpenOk n (layOf n) epoch seq tail):(openJ n epoch seq tail).Wf:=by
  obtain ⟨_,h1,h2,h3,h4,h5,h6⟩:=h
  have:=layL_range (n:=(n:Int)) (by omega)
  refine ⟨rfl,?_,?_,?_,?_,by simp [openJ],by simp [openJ]⟩
  · unfold Ok; show 1≤layL n∧layL n≤512∧0≤tail∧tail < layL n∧(0:Int)≤0∧(0:Int)≤0∧(0:Int)+0≤layL n; omega
  · show In64 epoch; unfold In64; omega
  · show 1≤seq∧seq≤549755813889; omega
  · show 0≤seq - 1∧seq - 1 < seq; omega
def DSt.Calm (d:DSt):Prop:=d.down=false∧d.arm.on=false∧d.fault.on=false
theorem DSt.stop_calm {d:DSt} (h:d.Calm):d.stop=(d,0):=by
  obtain ⟨safe,now,ws,c,dn,⟨a1,a2⟩,⟨f1,f2⟩⟩:=d
  obtain ⟨h1,h2,h3⟩:=h
  simp only at h1 h2 h3
  subst h1 h2 h3
  rfl
def DSt.put (d:DSt) (n:Int) (b:Dat):DSt:={ d with now:=d.now.set n.toNat b,writes:=d.writes++[(n,b)],count:=d.count+1 }
theorem DSt.write_calm {d:DSt} (h:d.Calm) {n:Int} {b:Dat} (hn:0≤n∧n < d.now.length) (hb:b.length=4096):d.write n b=(d.put n b,0):=by
  unfold DSt.write
  have hw:wrongE d.now.length n=0:=(wrongE_dec _ (by omega) n).2 hn
  rw [if_neg (by omega),if_neg (by omega),DSt.stop_calm h,if_neg (by simp)]
  rfl
theorem DSt.Calm.put {d:DSt} (h:d.Calm) (n:Int) (b:Dat):(d.put n b).Calm:=h
theorem DSt.put_len (d:DSt) (n:Int) (b:Dat):(d.put n b).now.length=d.now.length:=by simp [DSt.put]
def wrD (f:Nat→Int):List Dat→Nat→DSt→DSt
  | [],_,d=>d
  | b :: bs,i,d=>wrD f bs (i+1) (d.put (f i) b)
theorem wrAll_calm (f:Nat→Int):∀ (bs:List Dat) (i:Nat) (d:DSt),d.Calm→(∀ b ∈ bs,b.length=4096)→(∀ k,0≤f k∧f k < d.now.length)→wrAll f bs i d=(wrD f bs i d,0)
  | [],_,_,_,_,_=>rfl
  | b :: bs,i,d,hc,hb,hf=>by
    rw [wrAll,DSt.write_calm hc (hf i) (hb b (by simp)),if_neg (by simp),wrD]
    exact wrAll_calm f bs (i+1) _ (hc.put _ _) (fun x hx=>hb x (by simp [hx])) (by rw [DSt.put_len]; exact hf)
theorem wrD_calm (f:Nat→Int):∀ (bs:List Dat) (i:Nat) (d:DSt),d.Calm→(wrD f bs i d).Calm
  | [],_,_,h=>h
  | _ :: bs,i,_,h=>wrD_calm f bs (i+1) _ (h.put _ _)
theorem wrD_len (f:Nat→Int):∀ (bs:List Dat) (i:Nat) (d:DSt),(wrD f bs i d).now.length=d.now.length
  | [],_,_=>rfl
  | b :: bs,i,d=>by rw [wrD,wrD_len f bs,DSt.put_len]
theorem wrD_few (f:Nat→Int):∀ (bs:List Dat) (i:Nat) (d:DSt) (k:Nat),d.Few k→(wrD f bs i d).Few (k+bs.length)
  | [],_,_,_,h=>h
  | b :: bs,i,d,k,h=>by
    have:(d.put (f i) b).Few (k+1):=by
      obtain ⟨h1,h2,h3⟩:=h
      exact ⟨by show (d.writes++[_]).length≤_; simp; omega,by show 0≤d.count+1; omega,by show d.count+1≤_; omega⟩
    have:=wrD_few f bs (i+1) _ _ this
    rw [wrD,List.length_cons]
    exact this.mono (by omega)
theorem sprK_length {m l:List UInt8} (hm:m.length=8):∀ k,k * 504≤l.length→(sprK m l k).length=512 * k
  | 0,_=>by rw [sprK_zero]; rfl
  | k+1,h=>by
    rw [sprK_succ,List.length_append,List.length_append,sprK_length hm k (by omega),List.length_take,List.length_drop,hm]
    omega
theorem hidP_length:∀ (l:List PImg),(∀ g ∈ l,g.2.length=4096)→(hidP l).length=66 * l.length
  | [],_=>rfl
  | g :: l,h=>by
    have e:hidP (g :: l)=be g.1.toNat 2++hidK g.2 8++hidP l:=by simp [hidP]
    have:=h g (by simp)
    rw [e,List.length_append,List.length_append,be_length,hidK_length _ _ (by omega) (by omega),hidP_length l (fun x hx=>h x (by simp [hx])),List.length_cons]
    omega
theorem putP_len {e s:Nat} {l:List PImg} (hl:l.length≤32) (h:∀ g ∈ l,g.2.length=4096):∀ b ∈ putP e s l,b.length=4096:=by
  have hlist:(listP l).length=4026:=by
    rw [listP,List.length_append,hidP_length l h,List.length_replicate]; omega
  have hhead:(headP l).length=4032:=by rw [headP,List.length_append,List.length_append,be_length,be_length,hlist]
  intro b hb
  rcases List.mem_cons.1 hb with rfl | hb
  · rw [sprK_length (stampB_length _ _) 8 (by omega)]
  · obtain ⟨g,hg,rfl⟩:=List.mem_map.1 hb
    have:=h g hg
    rw [markK_length (stampB_length _ _) 8 (by omega) (by omega)]; exact this
theorem JSt.append_calm {j:JSt} {d:DSt} {l:List PImg} {held:Bool} (hb:j.broken=false) (hR:RightP j.epoch j.next l) (hs:(l.length:Int)+1≤j.s) (hlog:j.lay.l=2) (hd:d.Calm) (hlen:j.s+2≤d.now.length)
    {t u h at_:Int} (hp:putS j.s j.t j.u j.h (l.length+1) (if held then l.length+1 else 0)=((j.s,t,u,h,0),at_)) :
    j.appendB d l held=({ j with t:=t,u:=u,h:=h,groups:=j.groups++[(j.next,(l.length+1:Int))],next:=j.next+1 },wrD (fun i=>2+(at_+i) % j.s) (putP j.epoch.toNat j.next.toNat l) 0 d,j.next,0):=by
  unfold JSt.appendB JSt.append
  rw [if_neg (by simp [hb]),if_neg (by simpa using hR),if_neg (by omega),hp]
  dsimp only
  rw [if_neg (by simp),hlog,wrAll_calm _ _ _ _ hd (putP_len hR.2.2.2.2.2.1 fun g hg=>(hR.2.2.2.2.2.2.1 g hg).2.2)]
  · dsimp only
    rw [if_neg (by simp)]
  · intro k
    have:=Int.emod_nonneg (at_+k) (b:=j.s) (by omega)
    have:=Int.emod_lt_of_pos (at_+k) (b:=j.s) (by omega)
    omega
theorem Rds.of_ownS {ch:List Blk} {a:Option Addr} {len cap size:Nat} {vs:List Value} (h:OwnC ch size a len cap vs) {J:Imm} (hJ:∀ x ∈ ch,J x.1=some x.2):Rds J a (len * size) vs:=by
  refine ⟨h.n,?_⟩
  rcases h.at' with h0 | ⟨b,pre,post,T,ha,hc,hp⟩
  · left; have:=h.le; rw [show len=0 by omega]; simp
  · right
    refine ⟨b,_,_,T,(0,0),ha,hJ (b,_) (by rw [hc]; exact List.mem_singleton.2 rfl),?_⟩
    have:=own_take pre vs post
    rw [h.n] at this
    exact this
end Go.Proofs.YtegdcjnjnoeinaaGreat
namespace Go.Proofs.YtegdcjnjnoeinaaGreat
open Go.RowKit Go.Sl
set_option maxRecDepth 20000
def blocksN (n:Int):Int:=if n < 1∨32 < n then 0 else n+1
theorem record_Blocks (n:Int) (I:Imm) (S:St):Tri Tryz.prog 83 #[.int .i64 n] I S fun v J S'=>v=.int .i64 (blocksN n)∧I=J∧S'=S:=by
  refine Tri.of (args:=[.int .i64 n]) tabOk Tryz.func83 rfl (by kernel_rfl) (by kernel_rfl) ?_
  unfold blocksN
  refine CmpD.split (fun c1=>?_) (fun c1=>?_)
  · rw [if_pos (.inl c1)]; exact Done.mk ⟨rfl,rfl,rfl⟩
  refine CmpD.split (fun c2=>?_) (fun c2=>?_)
  · rw [if_pos (.inr c2)]; exact Done.mk ⟨rfl,rfl,rfl⟩
  rw [if_neg (by omega)]
  refine ToD.i64 (by omega) (by omega) ?_
  exact Done.mk ⟨rfl,rfl,rfl⟩
theorem jk_Next {bJ bD:Nat} {j:JSt} {ch:List Blk} (hJ0:Jk bJ bD j ch) (I:Imm):Tri Tryz.prog 80 #[.pointer (some ⟨bJ,0,none⟩)] I [ch] fun v J S'=>v=.int .i64 j.next∧I=J∧S'=[ch]:=by
  obtain ⟨g,chG,rfl,hG⟩:=hJ0
  refine Tri.abs1 (Q:=fun v J S'=>v=.int .i64 j.next∧I=J∧S'=[jChunk bJ (j.at bD g)]) ?_ (fun v J S' hJ h=>⟨_,h.2.2,h.1,h.2.1,rfl⟩)
  refine Tri.of (args:=[.pointer (some ⟨bJ,0,none⟩)]) tabOk Tryz.func80 rfl (by kernel_rfl) (by kernel_rfl) ?_
  refine Tri.nf (jr_none bJ (j.at bD g) I) ?_
  rintro _ _ _ _ ⟨rfl,rfl,rfl⟩
  refine LoadD.own 0 rfl [.int .i64 j.next] rfl rfl ?_
  exact Done.mk ⟨rfl,rfl,rfl⟩
theorem jk_Synced {bJ bD:Nat} {j:JSt} {ch:List Blk} (hJ0:Jk bJ bD j ch) (I:Imm):Tri Tryz.prog 96 #[.pointer (some ⟨bJ,0,none⟩)] I [ch] fun v J S'=>v=.int .i64 j.synced∧I=J∧S'=[ch]:=by
  obtain ⟨g,chG,rfl,hG⟩:=hJ0
  refine Tri.abs1 (Q:=fun v J S'=>v=.int .i64 j.synced∧I=J∧S'=[jChunk bJ (j.at bD g)]) ?_ (fun v J S' hJ h=>⟨_,h.2.2,h.1,h.2.1,rfl⟩)
  refine Tri.of (args:=[.pointer (some ⟨bJ,0,none⟩)]) tabOk Tryz.func96 rfl (by kernel_rfl) (by kernel_rfl) ?_
  refine Tri.nf (jr_none bJ (j.at bD g) I) ?_
  rintro _ _ _ _ ⟨rfl,rfl,rfl⟩
  refine LoadD.own 0 rfl [.int .i64 j.synced] rfl rfl ?_
  exact Done.mk ⟨rfl,rfl,rfl⟩
theorem jk_Ring {bJ bD:Nat} {j:JSt} {ch:List Blk} (hJ0:Jk bJ bD j ch) (I:Imm):Tri Tryz.prog 82 #[.pointer (some ⟨bJ,0,none⟩)] I [ch] fun v J S'=>v=rg j.s j.t j.u j.h∧I=J∧S'=[ch]:=by
  obtain ⟨g,chG,rfl,hG⟩:=hJ0
  refine Tri.abs1 (Q:=fun v J S'=>v=rg j.s j.t j.u j.h∧I=J∧S'=[jChunk bJ (j.at bD g)]) ?_ (fun v J S' hJ h=>⟨_,h.2.2,h.1,h.2.1,rfl⟩)
  refine Tri.drop ?_ (fun _ _ _ _ h=>h)
  refine Tri.of (args:=[.pointer (some ⟨bJ,0,none⟩)]) tabOk Tryz.func82 rfl (by kernel_rfl) (by kernel_rfl) ?_
  conv=>whnf
  intro b2
  refine Tri.frame1 0 rfl (jr_none bJ (j.at bD g) I) ?_
  rintro _ _ _ _ ⟨rfl,rfl,rfl⟩
  refine ⟨_,rfl,?_⟩
  repeat (first | refine LoadD.own 0 rfl _ rfl rfl ?_ | refine LoadD.own 1 rfl _ rfl rfl ?_ | refine StoreD.st 1 rfl rfl rfl ?_)
  exact Done.mk ⟨_,Drop.pick [0] _ rfl,rfl,rfl,rfl⟩
end Go.Proofs.YtegdcjnjnoeinaaGreat
namespace Go.Proofs.YtegdcjnjnoeinaaGreat
open Go.RowKit Go.Sl
set_option maxRecDepth 20000
theorem same_bytes {I:Imm} {S:St} {a1 a2:Option Addr} {n1 n2 c1 c2:Nat} {l1 l2:List UInt8} (h1:SlC I S a1 n1 (bts l1)) (h2:SlC I S a2 n2 (bts l2)) :
    Tri Tryz.prog 18 #[.slice a1 n1 c1,.slice a2 n2 c2] I S fun v J S'=>v=.bool (decide (l1=l2))∧I=J∧S'=S:=by
  refine Tri.of (args:=[.slice a1 n1 c1,.slice a2 n2 c2]) tabOk Tryz.func18 rfl (by kernel_rfl) (by kernel_rfl) ?_
  refine convStrD tabOk rfl rfl rfl rfl rfl h1 ?_
  refine convStrD tabOk rfl rfl rfl rfl rfl h2 ?_
  refine CmpD.keep ?_
  refine Done.mk ⟨?_,rfl,rfl⟩
  rw [bytes_toList,bytes_toList]; rfl
theorem bytes_Equal {I:Imm} {S:St} {a1 a2:Option Addr} {n1 n2 c1 c2:Nat} {l1 l2:List UInt8} (h1:SlC I S a1 n1 (bts l1)) (h2:SlC I S a2 n2 (bts l2)) :
    Tri Tryz.prog 226 #[.slice a1 n1 c1,.slice a2 n2 c2] I S fun v J S'=>v=.bool (decide (l1=l2))∧I=J∧S'=S:=by
  refine Tri.of (args:=[.slice a1 n1 c1,.slice a2 n2 c2]) tabOk Tryz.func226 rfl (by kernel_rfl) (by kernel_rfl) ?_
  refine convStrD tabOk rfl rfl rfl rfl rfl h1 ?_
  refine convStrD tabOk rfl rfl rfl rfl rfl h2 ?_
  refine CmpD.keep ?_
  refine Done.mk ⟨?_,rfl,rfl⟩
  rw [bytes_toList,bytes_toList]; rfl
end Go.Proofs.YtegdcjnjnoeinaaGreat
namespace Go.Proofs.YtegdcjnjnoeinaaGreat
open Go.RowKit Go.Sl
set_option maxRecDepth 20000
theorem snoc_ind {α:Type} {p:List α→Prop} (h0:p []) (h1:∀ l a,p l→p (l++[a])) (l:List α):p l:=by
  have:∀ n (l:List α),l.length=n→p l:=by
    intro n
    induction n with
    | zero=>intro l hl; rw [List.length_eq_zero_iff.1 hl]; exact h0
    | succ n ih =>
      intro l hl
      have hne:l≠[]:=by rintro rfl; simp at hl
      rw [← List.dropLast_concat_getLast hne]
      exact h1 _ _ (ih _ (by rw [List.length_dropLast]; omega))
  exact this _ l rfl
def nb (l:List UInt8):Nat:=l.foldl (fun v b=>v * 256 ||| b.toNat) 0
theorem nb_snoc (l:List UInt8) (b:UInt8):nb (l++[b])=nb l * 256 ||| b.toNat:=by simp [nb]
theorem nb_lt (l:List UInt8):nb l < 2 ^ (8 * l.length):=by
  refine snoc_ind (p:=fun l=>nb l < 2 ^ (8 * l.length)) (by simp [nb]) ?_ l
  · intro l b ih
    rw [nb_snoc,List.length_append,List.length_singleton]
    have hb:b.toNat < 2 ^ (8 * (l.length+1)):=Nat.lt_of_lt_of_le b.toNat_lt (Nat.pow_le_pow_right (by omega) (by omega))
    refine Nat.or_lt_two_pow ?_ hb
    rw [show 8 * (l.length+1)=8 * l.length+8 by omega,Nat.pow_add]
    omega
def numV (l:List UInt8) (at_:Int) (n:Nat):Nat × Bool:=if at_ < 0∨(l.length:Int) - n < at_ then (0,false) else (nb ((l.drop at_.toNat).take n),true)
theorem octets_number {I:Imm} {S:St} {a:Option Addr} {len cap:Nat} {l:List UInt8} (h:SlC I S a len (bts l)) (hlen:len≤1000000000) (at_:Int) (hat:In64 at_) (n:Nat) (hn:n≤8) :
    Tri Tryz.prog 251 #[.slice a len cap,.int .i64 at_,.int .i64 n] I S fun v J S'=>v=.tuple #[.int .u64 (numV l at_ n).1,.bool (numV l at_ n).2]∧I=J∧S'=S:=by
  have hl:l.length=len:=by rw [← bts_length,h.len]
  unfold In64 at hat
  unfold numV
  refine Tri.of (args:=[.slice a len cap,.int .i64 at_,.int .i64 n]) tabOk Tryz.func251 rfl (by kernel_rfl) (by kernel_rfl) ?_
  refine CmpD.split (fun c1=>?_) (fun c1=>?_)
  · rw [if_pos (.inl c1)]; exact Done.mk ⟨rfl,rfl,rfl⟩
  refine ToD.i64 (by omega) (by omega) ?_
  refine CmpD.split (fun c2=>?_) (fun c2=>?_)
  · rw [if_pos (.inr (by rw [hl]; exact c2))]; exact Done.mk ⟨rfl,rfl,rfl⟩
  rw [if_neg (by rw [hl]; omega)]
  obtain ⟨k,rfl⟩:∃ k:Nat,at_=k:=⟨at_.toNat,by omega⟩
  rw [show ((k:Int)).toNat=k from rfl]
  refine CodeF.loopD [0,1,8,20,21] (fun vs J' S'=>∃ (i:Nat),i≤n∧vs=[.slice a len cap,.int .i64 k,.int .u64 (nb ((l.drop k).take i):Nat),.int .i64 n,.int .i64 i]∧I=J'∧S'=S)
    (fun vs _ _=>match vs with | [_,_,_,_,.int _ i]=>((n:Int) - i).toNat | _=>0) ?_ ?_
  · exact ⟨_,Drop.refl _,0,by omega,rfl,rfl,rfl⟩
  rintro vs g J' S' hJ' ⟨i,hi,rfl,rfl,rfl⟩
  refine CmpD.split (fun c3=>?_) (fun c3=>?_)
  · have hin:k+i < l.length:=by omega
    rcases h.mem with h0 | ⟨b,off,rfl,hc⟩
    · omega
    have hv:=nb_lt ((l.drop k).take i)
    have hvl:((l.drop k).take i).length≤7:=by rw [List.length_take]; omega
    have hv2:nb ((l.drop k).take i) < 2 ^ 56:=Nat.lt_of_lt_of_le hv (Nat.pow_le_pow_right (by omega) (by omega))
    have htk:(l.drop k).take (i+1)=(l.drop k).take i++[l[k+i]]:=by
      rw [List.take_add_one,List.getElem?_drop,List.getElem?_eq_getElem hin]; rfl
    refine Chk.mk (by omega) ?_
    refine ToD.to ((nb ((l.drop k).take i) * 256:Nat):Int) ?_ ?_
    · rw [wrap_u rfl (by show 0≤(nb ((l.drop k).take i):Int) * 2 ^ 8; omega) (by show (nb ((l.drop k).take i):Int) * 2 ^ 8 < 2 ^ 64; omega)]
      show (nb ((l.drop k).take i):Int) * 2 ^ 8=_; omega
    refine ToD.i64 (by omega) (by omega) ?_
    refine Chk.mk (by omega) ?_
    refine LoadD.mk [byte l[k+i]] (hc.at (i:=k+i) (bts_get (List.getElem?_eq_getElem hin))) ?_
    have hb:=l[k+i].toNat_lt
    refine ToD.to ((l[k+i].toNat:Nat):Int) (wrap_u rfl (by omega) (by show (l[k+i].toNat:Int) < 2 ^ 64; omega)) ?_
    refine ToD.to ((nb ((l.drop k).take i) * 256 ||| l[k+i].toNat:Nat):Int) (u64_or_nat _ _ (by omega) (by omega)) ?_
    refine ToD.i64 (by omega) (by omega) ?_
    refine ⟨_,Drop.refl _,⟨i+1,by omega,by rw [htk,nb_snoc]; rfl,rfl,rfl⟩,?_⟩
    show ((n:Int) - ((i:Int)+1)).toNat < ((n:Int) - (i:Int)).toNat
    omega
  · obtain rfl:i=n:=by omega
    exact Done.mk ⟨rfl,rfl,rfl⟩
theorem octets_U64 {I:Imm} {S:St} {a:Option Addr} {len cap:Nat} {l:List UInt8} (h:SlC I S a len (bts l)) (hlen:len≤1000000000) (at_:Int) (hat:In64 at_) :
    Tri Tryz.prog 225 #[.slice a len cap,.int .i64 at_] I S fun v J S'=>v=.tuple #[.int .u64 (numV l at_ 8).1,.bool (numV l at_ 8).2]∧I=J∧S'=S:=by
  refine Tri.of (args:=[.slice a len cap,.int .i64 at_]) tabOk Tryz.func225 rfl (by kernel_rfl) (by kernel_rfl) ?_
  refine Tri.mono (octets_number h hlen at_ hat 8 (by omega)) ?_
  rintro v J S' hJ ⟨rfl,rfl,rfl⟩
  exact Done.mk ⟨rfl,rfl,rfl⟩
end Go.Proofs.YtegdcjnjnoeinaaGreat
