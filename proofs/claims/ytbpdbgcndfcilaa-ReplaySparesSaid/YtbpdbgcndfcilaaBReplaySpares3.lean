/- Texts of this claim laid together: Tab, Bytes, SameInts, Made, MarkB, Images, Right, Chunk, Stamps, Clone, Marked, Spread, Sums, Fixed, Put, Same, Gate, Stopped, Write, Load, Gather, Flush, Dk, Dk2, Pure, Layout, Ring, Journal, May, JTail, Jk, Jk2, Jk3, Jk4, Oct, Super, Get, Pos, HdP, R6g, Apart, ApartP, ApartA, Choose, Ref01, Ref02, Ref03, Shelf, Keys, Sort, Sorted, Home. -/
import Derived.Test.YtbpdbgcndfcilaaBReplaySpares1
import Derived.Test.YtbpdbgcndfcilaaProg
import Derived.KernelRfl
import Derived.Test.YtbpdbgcndfcilaaBReplaySpares2
import Derived.Laws.BitsAllLaws
import Derived.Shelf.Sort.Plain
import Derived.Shelf.Slices.In.SortNone
namespace Go.Proofs.Ytbpdbgcndfcilaa
open Go.Sl
noncomputable def tab : Tab := [
  (0, ⟨Try.t0.desc, Try.t0.size, (Try.t0.zero).getD undef, Try.t0.bytes⟩),
  (1, ⟨Try.t1.desc, Try.t1.size, (Try.t1.zero).getD undef, Try.t1.bytes⟩),
  (2, ⟨Try.t2.desc, Try.t2.size, (Try.t2.zero).getD undef, Try.t2.bytes⟩),
  (3, ⟨Try.t3.desc, Try.t3.size, (Try.t3.zero).getD undef, Try.t3.bytes⟩),
  (4, ⟨Try.t4.desc, Try.t4.size, (Try.t4.zero).getD undef, Try.t4.bytes⟩),
  (5, ⟨Try.t5.desc, Try.t5.size, (Try.t5.zero).getD undef, Try.t5.bytes⟩),
  (6, ⟨Try.t5.desc, Try.t6.size, (Try.t6.zero).getD undef, Try.t6.bytes⟩),
  (7, ⟨Try.t7.desc, Try.t7.size, (Try.t7.zero).getD undef, Try.t7.bytes⟩),
  (8, ⟨Try.t7.desc, Try.t8.size, (Try.t8.zero).getD undef, Try.t8.bytes⟩),
  (9, ⟨Try.t9.desc, Try.t9.size, (Try.t9.zero).getD undef, Try.t9.bytes⟩),
  (10, ⟨Try.t9.desc, Try.t10.size, (Try.t10.zero).getD undef, Try.t10.bytes⟩),
  (11, ⟨Try.t9.desc, Try.t11.size, (Try.t11.zero).getD undef, Try.t11.bytes⟩),
  (12, ⟨Try.t12.desc, Try.t12.size, (Try.t12.zero).getD undef, Try.t12.bytes⟩),
  (13, ⟨Try.t13.desc, Try.t13.size, (Try.t13.zero).getD undef, Try.t13.bytes⟩),
  (14, ⟨Try.t13.desc, Try.t14.size, (Try.t14.zero).getD undef, Try.t14.bytes⟩),
  (15, ⟨Try.t15.desc, Try.t15.size, (Try.t15.zero).getD undef, Try.t15.bytes⟩),
  (16, ⟨Try.t16.desc, Try.t16.size, (Try.t16.zero).getD undef, Try.t16.bytes⟩),
  (17, ⟨Try.t17.desc, Try.t17.size, (Try.t17.zero).getD undef, Try.t17.bytes⟩),
  (18, ⟨Try.t18.desc, Try.t18.size, (Try.t18.zero).getD undef, Try.t18.bytes⟩),
  (19, ⟨Try.t18.desc, Try.t19.size, (Try.t19.zero).getD undef, Try.t19.bytes⟩),
  (20, ⟨Try.t20.desc, Try.t20.size, (Try.t20.zero).getD undef, Try.t20.bytes⟩),
  (21, ⟨Try.t21.desc, Try.t21.size, (Try.t21.zero).getD undef, Try.t21.bytes⟩),
  (22, ⟨Try.t22.desc, Try.t22.size, (Try.t22.zero).getD undef, Try.t22.bytes⟩),
  (23, ⟨Try.t23.desc, Try.t23.size, (Try.t23.zero).getD undef, Try.t23.bytes⟩),
  (24, ⟨Try.t24.desc, Try.t24.size, (Try.t24.zero).getD undef, Try.t24.bytes⟩),
  (25, ⟨Try.t24.desc, Try.t25.size, (Try.t25.zero).getD undef, Try.t25.bytes⟩),
  (26, ⟨Try.t26.desc, Try.t26.size, (Try.t26.zero).getD undef, Try.t26.bytes⟩),
  (27, ⟨Try.t26.desc, Try.t27.size, (Try.t27.zero).getD undef, Try.t27.bytes⟩),
  (28, ⟨Try.t28.desc, Try.t28.size, (Try.t28.zero).getD undef, Try.t28.bytes⟩),
  (29, ⟨Try.t29.desc, Try.t29.size, (Try.t29.zero).getD undef, Try.t29.bytes⟩),
  (30, ⟨Try.t29.desc, Try.t30.size, (Try.t30.zero).getD undef, Try.t30.bytes⟩),
  (31, ⟨Try.t31.desc, Try.t31.size, (Try.t31.zero).getD undef, Try.t31.bytes⟩),
  (32, ⟨Try.t3.desc, Try.t32.size, (Try.t32.zero).getD undef, Try.t32.bytes⟩),
  (33, ⟨Try.t33.desc, Try.t33.size, (Try.t33.zero).getD undef, Try.t33.bytes⟩),
  (34, ⟨Try.t34.desc, Try.t34.size, (Try.t34.zero).getD undef, Try.t34.bytes⟩),
  (35, ⟨Try.t35.desc, Try.t35.size, (Try.t35.zero).getD undef, Try.t35.bytes⟩),
  (36, ⟨Try.t36.desc, Try.t36.size, (Try.t36.zero).getD undef, Try.t36.bytes⟩),
  (37, ⟨Try.t37.desc, Try.t37.size, (Try.t37.zero).getD undef, Try.t37.bytes⟩),
  (38, ⟨Try.t38.desc, Try.t38.size, (Try.t38.zero).getD undef, Try.t38.bytes⟩),
  (39, ⟨Try.t39.desc, Try.t39.size, (Try.t39.zero).getD undef, Try.t39.bytes⟩),
  (40, ⟨Try.t40.desc, Try.t40.size, (Try.t40.zero).getD undef, Try.t40.bytes⟩),
  (41, ⟨Try.t41.desc, Try.t41.size, (Try.t41.zero).getD undef, Try.t41.bytes⟩),
  (42, ⟨Try.t42.desc, Try.t42.size, (Try.t42.zero).getD undef, Try.t42.bytes⟩),
  (43, ⟨Try.t43.desc, Try.t43.size, (Try.t43.zero).getD undef, Try.t43.bytes⟩),
  (44, ⟨Try.t44.desc, Try.t44.size, (Try.t44.zero).getD undef, Try.t44.bytes⟩),
  (45, ⟨Try.t45.desc, Try.t45.size, (Try.t45.zero).getD undef, Try.t45.bytes⟩),
  (46, ⟨Try.t46.desc, Try.t46.size, (Try.t46.zero).getD undef, Try.t46.bytes⟩),
  (47, ⟨Try.t47.desc, Try.t47.size, (Try.t47.zero).getD undef, Try.t47.bytes⟩),
  (48, ⟨Try.t48.desc, Try.t48.size, (Try.t48.zero).getD undef, Try.t48.bytes⟩),
  (49, ⟨Try.t49.desc, Try.t49.size, (Try.t49.zero).getD undef, Try.t49.bytes⟩),
  (50, ⟨Try.t50.desc, Try.t50.size, (Try.t50.zero).getD undef, Try.t50.bytes⟩),
  (51, ⟨Try.t51.desc, Try.t51.size, (Try.t51.zero).getD undef, Try.t51.bytes⟩),
  (52, ⟨Try.t52.desc, Try.t52.size, (Try.t52.zero).getD undef, Try.t52.bytes⟩),
  (53, ⟨Try.t53.desc, Try.t53.size, (Try.t53.zero).getD undef, Try.t53.bytes⟩),
  (54, ⟨Try.t54.desc, Try.t54.size, (Try.t54.zero).getD undef, Try.t54.bytes⟩),
  (55, ⟨Try.t55.desc, Try.t55.size, (Try.t55.zero).getD undef, Try.t55.bytes⟩),
  (56, ⟨Try.t55.desc, Try.t56.size, (Try.t56.zero).getD undef, Try.t56.bytes⟩),
  (57, ⟨Try.t57.desc, Try.t57.size, (Try.t57.zero).getD undef, Try.t57.bytes⟩),
  (58, ⟨Try.t58.desc, Try.t58.size, (Try.t58.zero).getD undef, Try.t58.bytes⟩),
  (59, ⟨Try.t59.desc, Try.t59.size, (Try.t59.zero).getD undef, Try.t59.bytes⟩),
  (60, ⟨Try.t60.desc, Try.t60.size, (Try.t60.zero).getD undef, Try.t60.bytes⟩),
  (61, ⟨Try.t61.desc, Try.t61.size, (Try.t61.zero).getD undef, Try.t61.bytes⟩),
  (62, ⟨Try.t62.desc, Try.t62.size, (Try.t62.zero).getD undef, Try.t62.bytes⟩),
  (63, ⟨Try.t63.desc, Try.t63.size, (Try.t63.zero).getD undef, Try.t63.bytes⟩),
  (64, ⟨Try.t64.desc, Try.t64.size, (Try.t64.zero).getD undef, Try.t64.bytes⟩),
  (65, ⟨Try.t65.desc, Try.t65.size, (Try.t65.zero).getD undef, Try.t65.bytes⟩),
  (66, ⟨Try.t66.desc, Try.t66.size, (Try.t66.zero).getD undef, Try.t66.bytes⟩),
  (67, ⟨Try.t67.desc, Try.t67.size, (Try.t67.zero).getD undef, Try.t67.bytes⟩),
  (68, ⟨Try.t68.desc, Try.t68.size, (Try.t68.zero).getD undef, Try.t68.bytes⟩),
  (69, ⟨Try.t68.desc, Try.t69.size, (Try.t69.zero).getD undef, Try.t69.bytes⟩),
  (70, ⟨Try.t70.desc, Try.t70.size, (Try.t70.zero).getD undef, Try.t70.bytes⟩),
  (71, ⟨Try.t71.desc, Try.t71.size, (Try.t71.zero).getD undef, Try.t71.bytes⟩),
  (72, ⟨Try.t72.desc, Try.t72.size, (Try.t72.zero).getD undef, Try.t72.bytes⟩),
  (73, ⟨Try.t73.desc, Try.t73.size, (Try.t73.zero).getD undef, Try.t73.bytes⟩),
  (74, ⟨Try.t74.desc, Try.t74.size, (Try.t74.zero).getD undef, Try.t74.bytes⟩),
  (75, ⟨Try.t75.desc, Try.t75.size, (Try.t75.zero).getD undef, Try.t75.bytes⟩),
  (76, ⟨Try.t76.desc, Try.t76.size, (Try.t76.zero).getD undef, Try.t76.bytes⟩),
  (77, ⟨Try.t77.desc, Try.t77.size, (Try.t77.zero).getD undef, Try.t77.bytes⟩),
  (78, ⟨Try.t78.desc, Try.t78.size, (Try.t78.zero).getD undef, Try.t78.bytes⟩),
  (79, ⟨Try.t78.desc, Try.t79.size, (Try.t79.zero).getD undef, Try.t79.bytes⟩),
  (80, ⟨Try.t80.desc, Try.t80.size, (Try.t80.zero).getD undef, Try.t80.bytes⟩),
  (81, ⟨Try.t81.desc, Try.t81.size, (Try.t81.zero).getD undef, Try.t81.bytes⟩),
  (82, ⟨Try.t82.desc, Try.t82.size, (Try.t82.zero).getD undef, Try.t82.bytes⟩),
  (83, ⟨Try.t83.desc, Try.t83.size, (Try.t83.zero).getD undef, Try.t83.bytes⟩),
  (84, ⟨Try.t84.desc, Try.t84.size, (Try.t84.zero).getD undef, Try.t84.bytes⟩),
  (85, ⟨Try.t85.desc, Try.t85.size, (Try.t85.zero).getD undef, Try.t85.bytes⟩),
  (86, ⟨Try.t86.desc, Try.t86.size, (Try.t86.zero).getD undef, Try.t86.bytes⟩),
  (87, ⟨Try.t86.desc, Try.t87.size, (Try.t87.zero).getD undef, Try.t87.bytes⟩),
  (88, ⟨Try.t88.desc, Try.t88.size, (Try.t88.zero).getD undef, Try.t88.bytes⟩),
  (89, ⟨Try.t89.desc, Try.t89.size, (Try.t89.zero).getD undef, Try.t89.bytes⟩),
  (90, ⟨Try.t90.desc, Try.t90.size, (Try.t90.zero).getD undef, Try.t90.bytes⟩),
  (91, ⟨Try.t91.desc, Try.t91.size, (Try.t91.zero).getD undef, Try.t91.bytes⟩),
  (92, ⟨Try.t92.desc, Try.t92.size, (Try.t92.zero).getD undef, Try.t92.bytes⟩),
  (93, ⟨Try.t93.desc, Try.t93.size, (Try.t93.zero).getD undef, Try.t93.bytes⟩),
  (94, ⟨Try.t94.desc, Try.t94.size, (Try.t94.zero).getD undef, Try.t94.bytes⟩),
  (95, ⟨Try.t95.desc, Try.t95.size, (Try.t95.zero).getD undef, Try.t95.bytes⟩),
  (96, ⟨Try.t95.desc, Try.t96.size, (Try.t96.zero).getD undef, Try.t96.bytes⟩),
  (97, ⟨Try.t97.desc, Try.t97.size, (Try.t97.zero).getD undef, Try.t97.bytes⟩),
  (98, ⟨Try.t98.desc, Try.t98.size, (Try.t98.zero).getD undef, Try.t98.bytes⟩),
  (99, ⟨Try.t99.desc, Try.t99.size, (Try.t99.zero).getD undef, Try.t99.bytes⟩),
  (100, ⟨Try.t100.desc, Try.t100.size, (Try.t100.zero).getD undef, Try.t100.bytes⟩),
  (101, ⟨Try.t101.desc, Try.t101.size, (Try.t101.zero).getD undef, Try.t101.bytes⟩),
  (102, ⟨Try.t102.desc, Try.t102.size, (Try.t102.zero).getD undef, Try.t102.bytes⟩),
  (103, ⟨Try.t103.desc, Try.t103.size, (Try.t103.zero).getD undef, Try.t103.bytes⟩),
  (104, ⟨Try.t104.desc, Try.t104.size, (Try.t104.zero).getD undef, Try.t104.bytes⟩),
  (105, ⟨Try.t105.desc, Try.t105.size, (Try.t105.zero).getD undef, Try.t105.bytes⟩),
  (106, ⟨Try.t106.desc, Try.t106.size, (Try.t106.zero).getD undef, Try.t106.bytes⟩),
  (107, ⟨Try.t107.desc, Try.t107.size, (Try.t107.zero).getD undef, Try.t107.bytes⟩),
  (108, ⟨Try.t108.desc, Try.t108.size, (Try.t108.zero).getD undef, Try.t108.bytes⟩),
  (109, ⟨Try.t109.desc, Try.t109.size, (Try.t109.zero).getD undef, Try.t109.bytes⟩),
  (110, ⟨Try.t110.desc, Try.t110.size, (Try.t110.zero).getD undef, Try.t110.bytes⟩),
  (111, ⟨Try.t110.desc, Try.t111.size, (Try.t111.zero).getD undef, Try.t111.bytes⟩),
  (112, ⟨Try.t112.desc, Try.t112.size, (Try.t112.zero).getD undef, Try.t112.bytes⟩),
  (113, ⟨Try.t113.desc, Try.t113.size, (Try.t113.zero).getD undef, Try.t113.bytes⟩),
  (114, ⟨Try.t114.desc, Try.t114.size, (Try.t114.zero).getD undef, Try.t114.bytes⟩),
  (115, ⟨Try.t115.desc, Try.t115.size, (Try.t115.zero).getD undef, Try.t115.bytes⟩),
  (116, ⟨Try.t116.desc, Try.t116.size, (Try.t116.zero).getD undef, Try.t116.bytes⟩),
  (117, ⟨Try.t117.desc, Try.t117.size, (Try.t117.zero).getD undef, Try.t117.bytes⟩),
  (118, ⟨Try.t118.desc, Try.t118.size, (Try.t118.zero).getD undef, Try.t118.bytes⟩),
  (119, ⟨Try.t119.desc, Try.t119.size, (Try.t119.zero).getD undef, Try.t119.bytes⟩),
  (120, ⟨Try.t120.desc, Try.t120.size, (Try.t120.zero).getD undef, Try.t120.bytes⟩),
  (121, ⟨Try.t121.desc, Try.t121.size, (Try.t121.zero).getD undef, Try.t121.bytes⟩),
  (122, ⟨Try.t122.desc, Try.t122.size, (Try.t122.zero).getD undef, Try.t122.bytes⟩),
  (123, ⟨Try.t123.desc, Try.t123.size, (Try.t123.zero).getD undef, Try.t123.bytes⟩),
  (124, ⟨Try.t124.desc, Try.t124.size, (Try.t124.zero).getD undef, Try.t124.bytes⟩),
  (125, ⟨Try.t124.desc, Try.t125.size, (Try.t125.zero).getD undef, Try.t125.bytes⟩),
  (126, ⟨Try.t126.desc, Try.t126.size, (Try.t126.zero).getD undef, Try.t126.bytes⟩),
  (127, ⟨Try.t127.desc, Try.t127.size, (Try.t127.zero).getD undef, Try.t127.bytes⟩),
  (128, ⟨Try.t128.desc, Try.t128.size, (Try.t128.zero).getD undef, Try.t128.bytes⟩),
  (129, ⟨Try.t129.desc, Try.t129.size, (Try.t129.zero).getD undef, Try.t129.bytes⟩),
  (130, ⟨Try.t130.desc, Try.t130.size, (Try.t130.zero).getD undef, Try.t130.bytes⟩),
  (131, ⟨Try.t131.desc, Try.t131.size, (Try.t131.zero).getD undef, Try.t131.bytes⟩),
  (132, ⟨Try.t132.desc, Try.t132.size, (Try.t132.zero).getD undef, Try.t132.bytes⟩),
  (133, ⟨Try.t133.desc, Try.t133.size, (Try.t133.zero).getD undef, Try.t133.bytes⟩),
  (134, ⟨Try.t133.desc, Try.t134.size, (Try.t134.zero).getD undef, Try.t134.bytes⟩),
  (135, ⟨Try.t135.desc, Try.t135.size, (Try.t135.zero).getD undef, Try.t135.bytes⟩),
  (136, ⟨Try.t135.desc, Try.t136.size, (Try.t136.zero).getD undef, Try.t136.bytes⟩),
  (137, ⟨Try.t137.desc, Try.t137.size, (Try.t137.zero).getD undef, Try.t137.bytes⟩),
  (138, ⟨Try.t138.desc, Try.t138.size, (Try.t138.zero).getD undef, Try.t138.bytes⟩),
  (139, ⟨Try.t138.desc, Try.t139.size, (Try.t139.zero).getD undef, Try.t139.bytes⟩),
  (140, ⟨Try.t140.desc, Try.t140.size, (Try.t140.zero).getD undef, Try.t140.bytes⟩),
  (141, ⟨Try.t141.desc, Try.t141.size, (Try.t141.zero).getD undef, Try.t141.bytes⟩),
  (142, ⟨Try.t141.desc, Try.t142.size, (Try.t142.zero).getD undef, Try.t142.bytes⟩),
  (143, ⟨Try.t143.desc, Try.t143.size, (Try.t143.zero).getD undef, Try.t143.bytes⟩),
  (144, ⟨Try.t143.desc, Try.t144.size, (Try.t144.zero).getD undef, Try.t144.bytes⟩),
  (145, ⟨Try.t145.desc, Try.t145.size, (Try.t145.zero).getD undef, Try.t145.bytes⟩),
  (146, ⟨Try.t146.desc, Try.t146.size, (Try.t146.zero).getD undef, Try.t146.bytes⟩),
  (147, ⟨Try.t147.desc, Try.t147.size, (Try.t147.zero).getD undef, Try.t147.bytes⟩),
  (148, ⟨Try.t148.desc, Try.t148.size, (Try.t148.zero).getD undef, Try.t148.bytes⟩),
  (149, ⟨Try.t149.desc, Try.t149.size, (Try.t149.zero).getD undef, Try.t149.bytes⟩),
  (150, ⟨Try.t150.desc, Try.t150.size, (Try.t150.zero).getD undef, Try.t150.bytes⟩),
  (151, ⟨Try.t151.desc, Try.t151.size, (Try.t151.zero).getD undef, Try.t151.bytes⟩),
  (152, ⟨Try.t152.desc, Try.t152.size, (Try.t152.zero).getD undef, Try.t152.bytes⟩),
  (153, ⟨Try.t153.desc, Try.t153.size, (Try.t153.zero).getD undef, Try.t153.bytes⟩),
  (154, ⟨Try.t154.desc, Try.t154.size, (Try.t154.zero).getD undef, Try.t154.bytes⟩),
  (155, ⟨Try.t154.desc, Try.t155.size, (Try.t155.zero).getD undef, Try.t155.bytes⟩),
  (156, ⟨Try.t156.desc, Try.t156.size, (Try.t156.zero).getD undef, Try.t156.bytes⟩),
  (157, ⟨Try.t157.desc, Try.t157.size, (Try.t157.zero).getD undef, Try.t157.bytes⟩),
  (158, ⟨Try.t158.desc, Try.t158.size, (Try.t158.zero).getD undef, Try.t158.bytes⟩),
  (159, ⟨Try.t159.desc, Try.t159.size, (Try.t159.zero).getD undef, Try.t159.bytes⟩),
  (160, ⟨Try.t160.desc, Try.t160.size, (Try.t160.zero).getD undef, Try.t160.bytes⟩),
  (161, ⟨Try.t161.desc, Try.t161.size, (Try.t161.zero).getD undef, Try.t161.bytes⟩),
  (162, ⟨Try.t162.desc, Try.t162.size, (Try.t162.zero).getD undef, Try.t162.bytes⟩),
  (163, ⟨Try.t163.desc, Try.t163.size, (Try.t163.zero).getD undef, Try.t163.bytes⟩),
  (164, ⟨Try.t164.desc, Try.t164.size, (Try.t164.zero).getD undef, Try.t164.bytes⟩),
  (165, ⟨Try.t165.desc, Try.t165.size, (Try.t165.zero).getD undef, Try.t165.bytes⟩),
  (166, ⟨Try.t166.desc, Try.t166.size, (Try.t166.zero).getD undef, Try.t166.bytes⟩),
  (167, ⟨Try.t167.desc, Try.t167.size, (Try.t167.zero).getD undef, Try.t167.bytes⟩),
  (168, ⟨Try.t168.desc, Try.t168.size, (Try.t168.zero).getD undef, Try.t168.bytes⟩),
  (169, ⟨Try.t169.desc, Try.t169.size, (Try.t169.zero).getD undef, Try.t169.bytes⟩),
  (170, ⟨Try.t170.desc, Try.t170.size, (Try.t170.zero).getD undef, Try.t170.bytes⟩),
  (171, ⟨Try.t171.desc, Try.t171.size, (Try.t171.zero).getD undef, Try.t171.bytes⟩),
  (172, ⟨Try.t172.desc, Try.t172.size, (Try.t172.zero).getD undef, Try.t172.bytes⟩),
  (173, ⟨Try.t173.desc, Try.t173.size, (Try.t173.zero).getD undef, Try.t173.bytes⟩),
  (174, ⟨Try.t174.desc, Try.t174.size, (Try.t174.zero).getD undef, Try.t174.bytes⟩),
  (175, ⟨Try.t175.desc, Try.t175.size, (Try.t175.zero).getD undef, Try.t175.bytes⟩),
  (176, ⟨Try.t176.desc, Try.t176.size, (Try.t176.zero).getD undef, Try.t176.bytes⟩),
  (177, ⟨Try.t177.desc, Try.t177.size, (Try.t177.zero).getD undef, Try.t177.bytes⟩),
  (178, ⟨Try.t178.desc, Try.t178.size, (Try.t178.zero).getD undef, Try.t178.bytes⟩),
  (179, ⟨Try.t179.desc, Try.t179.size, (Try.t179.zero).getD undef, Try.t179.bytes⟩),
  (180, ⟨Try.t180.desc, Try.t180.size, (Try.t180.zero).getD undef, Try.t180.bytes⟩),
  (181, ⟨Try.t181.desc, Try.t181.size, (Try.t181.zero).getD undef, Try.t181.bytes⟩),
  (182, ⟨Try.t182.desc, Try.t182.size, (Try.t182.zero).getD undef, Try.t182.bytes⟩),
  (183, ⟨Try.t183.desc, Try.t183.size, (Try.t183.zero).getD undef, Try.t183.bytes⟩),
  (184, ⟨Try.t184.desc, Try.t184.size, (Try.t184.zero).getD undef, Try.t184.bytes⟩),
  (185, ⟨Try.t185.desc, Try.t185.size, (Try.t185.zero).getD undef, Try.t185.bytes⟩),
  (186, ⟨Try.t185.desc, Try.t186.size, (Try.t186.zero).getD undef, Try.t186.bytes⟩),
  (187, ⟨Try.t187.desc, Try.t187.size, (Try.t187.zero).getD undef, Try.t187.bytes⟩),
  (188, ⟨Try.t188.desc, Try.t188.size, (Try.t188.zero).getD undef, Try.t188.bytes⟩),
  (189, ⟨Try.t189.desc, Try.t189.size, (Try.t189.zero).getD undef, Try.t189.bytes⟩),
  (190, ⟨Try.t190.desc, Try.t190.size, (Try.t190.zero).getD undef, Try.t190.bytes⟩),
  (191, ⟨Try.t191.desc, Try.t191.size, (Try.t191.zero).getD undef, Try.t191.bytes⟩),
  (192, ⟨Try.t192.desc, Try.t192.size, (Try.t192.zero).getD undef, Try.t192.bytes⟩),
  (193, ⟨Try.t193.desc, Try.t193.size, (Try.t193.zero).getD undef, Try.t193.bytes⟩),
  (194, ⟨Try.t194.desc, Try.t194.size, (Try.t194.zero).getD undef, Try.t194.bytes⟩),
  (195, ⟨Try.t195.desc, Try.t195.size, (Try.t195.zero).getD undef, Try.t195.bytes⟩),
  (196, ⟨Try.t196.desc, Try.t196.size, (Try.t196.zero).getD undef, Try.t196.bytes⟩),
  (197, ⟨Try.t197.desc, Try.t197.size, (Try.t197.zero).getD undef, Try.t197.bytes⟩),
  (198, ⟨Try.t198.desc, Try.t198.size, (Try.t198.zero).getD undef, Try.t198.bytes⟩),
  (199, ⟨Try.t199.desc, Try.t199.size, (Try.t199.zero).getD undef, Try.t199.bytes⟩),
  (200, ⟨Try.t200.desc, Try.t200.size, (Try.t200.zero).getD undef, Try.t200.bytes⟩),
  (201, ⟨Try.t201.desc, Try.t201.size, (Try.t201.zero).getD undef, Try.t201.bytes⟩),
  (202, ⟨Try.t202.desc, Try.t202.size, (Try.t202.zero).getD undef, Try.t202.bytes⟩),
  (203, ⟨Try.t203.desc, Try.t203.size, (Try.t203.zero).getD undef, Try.t203.bytes⟩),
  (204, ⟨Try.t204.desc, Try.t204.size, (Try.t204.zero).getD undef, Try.t204.bytes⟩),
  (205, ⟨Try.t205.desc, Try.t205.size, (Try.t205.zero).getD undef, Try.t205.bytes⟩),
  (206, ⟨Try.t206.desc, Try.t206.size, (Try.t206.zero).getD undef, Try.t206.bytes⟩),
  (207, ⟨Try.t207.desc, Try.t207.size, (Try.t207.zero).getD undef, Try.t207.bytes⟩),
  (208, ⟨Try.t208.desc, Try.t208.size, (Try.t208.zero).getD undef, Try.t208.bytes⟩),
  (209, ⟨Try.t209.desc, Try.t209.size, (Try.t209.zero).getD undef, Try.t209.bytes⟩),
  (210, ⟨Try.t210.desc, Try.t210.size, (Try.t210.zero).getD undef, Try.t210.bytes⟩),
  (211, ⟨Try.t211.desc, Try.t211.size, (Try.t211.zero).getD undef, Try.t211.bytes⟩),
  (212, ⟨Try.t212.desc, Try.t212.size, (Try.t212.zero).getD undef, Try.t212.bytes⟩),
  (213, ⟨Try.t3.desc, Try.t213.size, (Try.t213.zero).getD undef, Try.t213.bytes⟩),
  (214, ⟨Try.t214.desc, Try.t214.size, (Try.t214.zero).getD undef, Try.t214.bytes⟩),
  (215, ⟨Try.t215.desc, Try.t215.size, (Try.t215.zero).getD undef, Try.t215.bytes⟩),
  (216, ⟨Try.t216.desc, Try.t216.size, (Try.t216.zero).getD undef, Try.t216.bytes⟩),
  (217, ⟨Try.t217.desc, Try.t217.size, (Try.t217.zero).getD undef, Try.t217.bytes⟩),
  (218, ⟨Try.t218.desc, Try.t218.size, (Try.t218.zero).getD undef, Try.t218.bytes⟩),
  (219, ⟨Try.t219.desc, Try.t219.size, (Try.t219.zero).getD undef, Try.t219.bytes⟩),
  (220, ⟨Try.t220.desc, Try.t220.size, (Try.t220.zero).getD undef, Try.t220.bytes⟩),
  (221, ⟨Try.t221.desc, Try.t221.size, (Try.t221.zero).getD undef, Try.t221.bytes⟩),
  (222, ⟨Try.t166.desc, Try.t222.size, (Try.t222.zero).getD undef, Try.t222.bytes⟩),
  (223, ⟨Try.t223.desc, Try.t223.size, (Try.t223.zero).getD undef, Try.t223.bytes⟩),
  (224, ⟨Try.t224.desc, Try.t224.size, (Try.t224.zero).getD undef, Try.t224.bytes⟩),
  (225, ⟨Try.t225.desc, Try.t225.size, (Try.t225.zero).getD undef, Try.t225.bytes⟩),
  (226, ⟨Try.t226.desc, Try.t226.size, (Try.t226.zero).getD undef, Try.t226.bytes⟩),
  (227, ⟨Try.t227.desc, Try.t227.size, (Try.t227.zero).getD undef, Try.t227.bytes⟩),
  (228, ⟨Try.t228.desc, Try.t228.size, (Try.t228.zero).getD undef, Try.t228.bytes⟩),
  (229, ⟨Try.t229.desc, Try.t229.size, (Try.t229.zero).getD undef, Try.t229.bytes⟩),
  (230, ⟨Try.t230.desc, Try.t230.size, (Try.t230.zero).getD undef, Try.t230.bytes⟩),
  (231, ⟨Try.t231.desc, Try.t231.size, (Try.t231.zero).getD undef, Try.t231.bytes⟩),
  (232, ⟨Try.t231.desc, Try.t232.size, (Try.t232.zero).getD undef, Try.t232.bytes⟩),
  (233, ⟨Try.t233.desc, Try.t233.size, (Try.t233.zero).getD undef, Try.t233.bytes⟩),
  (234, ⟨Try.t234.desc, Try.t234.size, (Try.t234.zero).getD undef, Try.t234.bytes⟩),
  (235, ⟨Try.t234.desc, Try.t235.size, (Try.t235.zero).getD undef, Try.t235.bytes⟩),
  (236, ⟨Try.t5.desc, Try.t236.size, (Try.t236.zero).getD undef, Try.t236.bytes⟩),
  (237, ⟨Try.t5.desc, Try.t237.size, (Try.t237.zero).getD undef, Try.t237.bytes⟩),
  (238, ⟨Try.t238.desc, Try.t238.size, (Try.t238.zero).getD undef, Try.t238.bytes⟩),
  (239, ⟨Try.t239.desc, Try.t239.size, (Try.t239.zero).getD undef, Try.t239.bytes⟩),
  (240, ⟨Try.t21.desc, Try.t240.size, (Try.t240.zero).getD undef, Try.t240.bytes⟩),
  (241, ⟨Try.t21.desc, Try.t241.size, (Try.t241.zero).getD undef, Try.t241.bytes⟩),
  (242, ⟨Try.t242.desc, Try.t242.size, (Try.t242.zero).getD undef, Try.t242.bytes⟩),
  (243, ⟨Try.t242.desc, Try.t243.size, (Try.t243.zero).getD undef, Try.t243.bytes⟩),
  (244, ⟨Try.t244.desc, Try.t244.size, (Try.t244.zero).getD undef, Try.t244.bytes⟩)]
set_option maxRecDepth 100000 in
theorem tabOk : TabOk Try.prog tab := .of (by kernel_rfl)
end Go.Proofs.Ytbpdbgcndfcilaa
namespace Go.Proofs.Ytbpdbgcndfcilaa
open Go.RowKit Go.Sl

@[reducible] def byte (b : UInt8) : Value := .int .u8 (b.toNat : Int)
def bts (l : List UInt8) : List Value := l.map byte
theorem bts_length (l : List UInt8) : (bts l).length = l.length := by simp [bts]
theorem bts_append (l m : List UInt8) : bts (l ++ m) = bts l ++ bts m := by simp [bts]
theorem bts_plain (l : List UInt8) : ∀ v ∈ bts l, Plain v = true := by
  intro v hv
  obtain ⟨z, _, rfl⟩ := List.mem_map.1 hv
  rfl
theorem bts_get {l : List UInt8} {i : Nat} {b : UInt8} (h : l[i]? = some b) : (bts l)[i]? = some (byte b) := by simp [bts, h]
theorem wrap_u8 (v : Nat) : IntKind.u8.wrap (v : Int) = ((UInt8.ofNat v).toNat : Int) := by
  simp [IntKind.wrap, IntKind.signed, IntKind.bits]
theorem shr_nat (v s : Nat) (b : Int) (hb : b = s) (hs : s ≤ 64) : (v : Int).fdiv (2 ^ (min b.toNat IntKind.u64.bits)) = ((v / 2 ^ s : Nat) : Int) := by
  subst hb
  rw [Int.toNat_natCast, show IntKind.u64.bits = 64 from rfl, Nat.min_eq_left hs, Int.fdiv_eq_ediv_of_nonneg _ (by exact_mod_cast Nat.zero_le _)]
  simp
/-- a number as n bytes, the greatest first -/
def be (v n : Nat) : List UInt8 := (List.range n).map fun i => UInt8.ofNat (v / 2 ^ (8 * (n - 1 - i)))
theorem be_length (v n : Nat) : (be v n).length = n := by simp [be]
/-- a slice of bytes that one chunk holds -/
abbrev OwnB (ch : List Blk) (a : Option Addr) (len cap : Nat) (l : List UInt8) : Prop := OwnC ch 1 a len cap (bts l)

theorem octets_add (I : Imm) (S : St) (a : Option Addr) (len cap : Nat) (l : List UInt8) (h : SlC I S a len (bts l)) (v : Nat) (_hv : v < 18446744073709551616) (n : Nat) (hn : n ≤ 8) (hlen : len ≤ 1000000) :
    Tri Try.prog 153 #[.slice a len cap, .int .u64 v, .int .i64 n] I S fun r J S' => ∃ a' cap' ch, r = .slice a' (len + n) cap' ∧ OwnB ch a' (len + n) cap' (l ++ be v n) ∧ I = J ∧ S' = S ++ [ch] := by
  have hll : l.length = len := by rw [← bts_length, h.len]
  refine Tri.of (args := [.slice a len cap, .int .u64 v, .int .i64 n]) tabOk Try.func153 rfl (by kernel_rfl) (by kernel_rfl) ?_
  refine ToD.i64 (by omega) (by omega) ?_
  refine makeD tabOk rfl rfl rfl len (len + n) rfl rfl (by omega) (by show 1 * (len + n) ≤ _; omega) (by omega) (by show (len + n) * 1 ≤ _; omega) rfl (by decide) ?_
  intro b
  refine copyD tabOk rfl rfl rfl rfl rfl rfl rfl S.length (last_get S _) (SrcOk.slice tabOk rfl (by show SlC I _ a (len * 1) _; rw [Nat.mul_one]; exact h.more _) (bts_plain l)) (Nat.le_refl _) (by rw [rows_length]; show 0 + len * 1 ≤ (len + n) * 1; omega) (Nat.le_refl _) ?_
  rw [last_set, splice_rows _ _ _ _ (by show _ = len * 1; rw [bts_length]; omega)]
  have hown0 : OwnB [(b, row (bts l ++ rows n [.int .u8 0]) 5)] (some ⟨b, 0, none⟩) len (len + n) l := .of (by rw [bts_length]; omega) (by omega) (by rw [rows_length]; simp)
  refine CodeF.loopD [1, 2, 7, 19, 20] (fun vs J S' => ∃ (i : Nat) (a' : Option Addr) (cap' : Nat) (ch : List Blk), i ≤ n ∧ OwnB ch a' (len + i) cap' (l ++ (be v n).take i) ∧ vs = [.int .u64 v, .int .i64 n, .slice a' (len + i) cap', .int .i64 n, .int .i64 i] ∧ I = J ∧ S' = S ++ [ch])
    (fun vs _ _ => match vs with | [_, _, _, _, .int _ i] => ((n : Int) - i).toNat | _ => 0) ?_ ?_
  · exact ⟨_, Drop.refl _, 0, _, _, _, by omega, by rw [Nat.add_zero, List.take_zero, List.append_nil]; exact hown0, rfl, rfl, rfl⟩
  rintro vs g J S' hJ ⟨i, a', cap', ch, hi, hown, rfl, rfl, rfl⟩
  refine CmpD.split (fun c1 => ?_) (fun c1 => ?_)
  · refine ToD.i64 (by omega) (by omega) ?_
    refine ToD.i64 (by omega) (by omega) ?_
    refine ToD.i64 (by omega) (by omega) ?_
    refine Chk.mk (by omega) ?_
    refine ToD.to ((v / 2 ^ (8 * (n - 1 - i)) : Nat) : Int) (shr_nat v _ _ (by omega) (by omega)) ?_
    refine ToD.to _ (wrap_u8 _) ?_
    conv => whnf
    intro bN
    refine appendD tabOk rfl rfl rfl rfl rfl rfl rfl S.length (two_get S _ _) hown (SrcOk.slice (n := 1) (news := bts [UInt8.ofNat (v / 2 ^ (8 * (n - 1 - i)))]) tabOk rfl ((OwnC.whole (len := 1) (size := 1) rfl).slC (S.length + 1) (two_get1 S _ _)) (bts_plain _)) rfl (by show (len + i + 1) * 1 ≤ _; omega) (by omega) ?_
    intro a3 cap3 ch3 hown3
    rw [two_set]
    refine ToD.i64 (by omega) (by omega) ?_
    refine ⟨_, Drop.init _ _, ⟨i + 1, a3, cap3, ch3, by omega, ?_, rfl, rfl, rfl⟩, ?_⟩
    · rw [← bts_append] at hown3
      have e : l ++ (be v n).take (i + 1) = l ++ (be v n).take i ++ [UInt8.ofNat (v / 2 ^ (8 * (n - 1 - i)))] := by
        rw [List.take_add_one, List.append_assoc]
        congr 2
        have : i < n := by omega
        simp [be, this]
      rw [e]; exact hown3
    · show ((n : Int) - ((i : Int) + 1)).toNat < ((n : Int) - (i : Int)).toNat
      omega
  · obtain rfl : i = n := by omega
    refine Done.mk ⟨a', cap', ch, rfl, ?_, rfl, rfl⟩
    rwa [List.take_of_length_le (by rw [be_length]; omega)] at hown
theorem wrap_u64 (v : Nat) (h : v < 18446744073709551616) : IntKind.u64.wrap (v : Int) = (v : Int) := wrap_u rfl (by omega) (by show (v : Int) < 2 ^ 64; omega)
theorem octets_Add32 (I : Imm) (S : St) (a : Option Addr) (len cap : Nat) (l : List UInt8) (h : SlC I S a len (bts l)) (v : Nat) (hv : v < 4294967296) (hlen : len ≤ 1000000) :
    Tri Try.prog 123 #[.slice a len cap, .int .u32 v] I S fun r J S' => ∃ a' cap' ch, r = .slice a' (len + 4) cap' ∧ OwnB ch a' (len + 4) cap' (l ++ be v 4) ∧ I = J ∧ S' = S ++ [ch] := by
  refine Tri.of (args := [.slice a len cap, .int .u32 v]) tabOk Try.func123 rfl (by kernel_rfl) (by kernel_rfl) ?_
  refine ToD.to (v : Int) (wrap_u64 v (by omega)) ?_
  refine (octets_add I S a len cap l h v (by omega) 4 (by omega) hlen).mono ?_
  rintro r J S' hJ ⟨a', cap', ch, rfl, hown, rfl, rfl⟩
  exact Done.mk ⟨a', cap', ch, rfl, hown, rfl, rfl⟩
theorem octets_Add64 (I : Imm) (S : St) (a : Option Addr) (len cap : Nat) (l : List UInt8) (h : SlC I S a len (bts l)) (v : Nat) (hv : v < 18446744073709551616) (hlen : len ≤ 1000000) :
    Tri Try.prog 150 #[.slice a len cap, .int .u64 v] I S fun r J S' => ∃ a' cap' ch, r = .slice a' (len + 8) cap' ∧ OwnB ch a' (len + 8) cap' (l ++ be v 8) ∧ I = J ∧ S' = S ++ [ch] := by
  refine Tri.of (args := [.slice a len cap, .int .u64 v]) tabOk Try.func150 rfl (by kernel_rfl) (by kernel_rfl) ?_
  refine (octets_add I S a len cap l h v (by omega) 8 (by omega) hlen).mono ?_
  rintro r J S' hJ ⟨a', cap', ch, rfl, hown, rfl, rfl⟩
  exact Done.mk ⟨a', cap', ch, rfl, hown, rfl, rfl⟩
end Go.Proofs.Ytbpdbgcndfcilaa
namespace Go.Proofs.Ytbpdbgcndfcilaa
open Go.RowKit Go.Sl

def ints (z : List Int) : List Value := z.map (Value.int .i64)
theorem ints_get {z : List Int} {i : Nat} {x : Int} (h : z[i]? = some x) : (ints z)[i]? = some (.int .i64 x) := by simp [ints, h]
theorem ints_plain (l : List Int) : ∀ v ∈ ints l, Plain v = true := by
  intro v hv
  obtain ⟨z, _, rfl⟩ := List.mem_map.1 hv
  rfl
end Go.Proofs.Ytbpdbgcndfcilaa
namespace Go.Proofs.Ytbpdbgcndfcilaa
open Go.RowKit Go.Sl

def u8of (y : Int) : UInt8 := UInt8.ofNat (y % 256).toNat
theorem u8_ex (y : Int) : IntKind.u8.wrap y = ((u8of y).toNat : Int) := by
  have h : IntKind.u8.wrap y = y % 256 := by simp [IntKind.wrap, IntKind.signed, IntKind.bits]
  unfold u8of
  rw [h]
  have h1 := Int.emod_nonneg y (show (256 : Int) ≠ 0 by omega)
  have h2 := Int.emod_lt_of_pos y (show (0 : Int) < 256 by omega)
  simp only [UInt8.toNat_ofNat']
  omega
/-- the numbers behind 'Made', and its bytes -/
def madeS (x : Int) : Int := IntKind.u64.wrap (IntKind.u64.wrap (x * 2862933555777941757) + 3037000493)
def madeX (seed : Int) : Nat → Int
  | 0 => madeS (IntKind.u64.wrap seed)
  | k + 1 => madeS (madeX seed k)
def madeB (seed : Int) (i : Nat) : UInt8 := u8of ((madeX seed ((i + 8) / 8)).fdiv (2 ^ (min (40 : Int).toNat IntKind.u64.bits)))
def madeL (seed : Int) (n : Nat) : List UInt8 := (List.range n).map (madeB seed)
theorem madeL_length (seed : Int) (n : Nat) : (madeL seed n).length = n := by simp [madeL]
/-- of which so many are there -/
def madeP (seed : Int) (n i : Nat) : List UInt8 := (List.range n).map fun j => if j < i then madeB seed j else 0
theorem madeP_length (seed : Int) (n i : Nat) : (madeP seed n i).length = n := by simp [madeP]
theorem madeP_zero (seed : Int) (n : Nat) : madeP seed n 0 = List.replicate n 0 := by
  apply List.ext_getElem
  · simp [madeP]
  · intro i h1 h2; simp [madeP]
theorem madeP_all (seed : Int) (n : Nat) : madeP seed n n = madeL seed n := by
  apply List.ext_getElem
  · simp [madeP, madeL]
  · intro i h1 h2
    simp [madeP] at h1
    simp [madeP, madeL, h1]
theorem madeP_set (seed : Int) (n i : Nat) : (madeP seed n i).set i (madeB seed i) = madeP seed n (i + 1) := by
  apply List.ext_getElem
  · simp [madeP]
  · intro j h1 h2
    simp only [madeP, List.getElem_set, List.getElem_map, List.getElem_range]
    by_cases hj : i = j
    · subst hj; simp
    · rw [if_neg hj]
      by_cases h : j < i
      · rw [if_pos h, if_pos (by omega)]
      · rw [if_neg h, if_neg (by omega)]
attribute [irreducible] madeS madeL
theorem Rds.of_own {ch : List Blk} {a : Option Addr} {len cap : Nat} {vs : List Value} (h : OwnC ch 1 a len cap vs) {J : Imm} (hJ : ∀ x ∈ ch, J x.1 = some x.2) : Rds J a len vs := by
  refine ⟨by rw [h.n, Nat.mul_one], ?_⟩
  rcases h.at' with h0 | ⟨b, pre, post, T, ha, hc, hp⟩
  · left; have := h.le; omega
  · right
    refine ⟨b, _, _, T, (0, 0), ha, hJ (b, _) (by rw [hc]; exact List.mem_singleton.2 rfl), ?_⟩
    have := own_take pre vs post
    rw [h.n, Nat.mul_one] at this
    exact this
theorem made_own (seed : Int) (n : Nat) (hn : n ≤ 1000000) (I : Imm) : Tri Try.prog 62 #[.int .i64 seed, .int .i64 n] I [] fun v J S' =>
    ∃ b ch, v = .slice (some ⟨b, 0, none⟩) n n ∧ OwnB ch (some ⟨b, 0, none⟩) n n (madeL seed n) ∧ I = J ∧ S' = [ch] := by
  refine Tri.of (args := [.int .i64 seed, .int .i64 n]) tabOk Try.func62 rfl (by kernel_rfl) (by kernel_rfl) ?_
  refine makeD tabOk rfl rfl rfl n n rfl rfl (Nat.le_refl _) (by show 1 * n ≤ _; omega) (by omega) (by show n * 1 ≤ _; omega) rfl (by decide) ?_
  intro b
  refine ToD.keep ?_
  refine ToD.keep ?_
  refine ToD.to (madeX seed 0) (by unfold madeX madeS; rfl) ?_
  have hz : ∀ n : Nat, rows n (List.cons (Value.int .u8 0) []) = bts (List.replicate n 0) := by
    intro n
    induction n with
    | zero => rfl
    | succ n ih =>
      have e : rows (n + 1) [Value.int .u8 0] = Value.int .u8 0 :: rows n [Value.int .u8 0] := by simp [rows, List.replicate_succ]
      rw [e, ih]; rfl
  refine CodeF.loopD [1, 5, 6, 7] (fun vs J S' => ∃ (i : Nat), i ≤ n ∧ vs = [.int .i64 n, .slice (some ⟨b, 0, none⟩) n n, .int .u64 (madeX seed ((i + 7) / 8)), .int .i64 i] ∧ I = J ∧ S' = [[(b, row (bts (madeP seed n i)) 5)]])
    (fun vs _ _ => match vs with | [_, _, _, .int _ i] => ((n : Int) - i).toNat | _ => 0) ?_ ?_
  · exact ⟨_, Drop.refl _, 0, by omega, rfl, rfl, by rw [madeP_zero, ← hz]; rfl⟩
  rintro vs g J S' hJ ⟨i, hi, rfl, rfl, rfl⟩
  refine CmpD.split (fun c1 => ?_) (fun c1 => ?_)
  · refine Chk.mk (by omega) ?_
    refine ToD.rem (by omega) ?_
    have hin : i < n := by omega
    have st : splice (bts (madeP seed n i)) (0 + i) [byte (madeB seed i)] = bts (madeP seed n (i + 1)) := by
      rw [← madeP_set]
      have hl := madeP_length seed n i
      generalize madeP seed n i = l at hl ⊢
      have hlb := bts_length l
      rw [Nat.zero_add]
      unfold splice bts
      rw [List.map_set, List.set_eq_take_append_cons_drop, if_pos (by rw [List.length_map]; omega)]
      simp
    refine CmpD.split (fun c2 => ?_) (fun c2 => ?_)
    · refine ToD.keep ?_
      have e1 : (i + 7) / 8 + 1 = (i + 8) / 8 := by omega
      refine ToD.to (madeX seed ((i + 8) / 8)) (by rw [← e1, madeX]; unfold madeS; rfl) ?_
      refine Chk.mk (by omega) ?_
      refine ToD.keep ?_
      refine ToD.to _ (u8_ex _) ?_
      refine Chk.mk (by omega) ?_
      refine StoreD.to 0 rfl _ st (by rw [bts_length, madeP_length]; show 0 + i + 1 ≤ _; omega) (.inr (.inr (Nat.le_refl _))) _ rfl ?_
      refine ToD.i64 (by omega) (by omega) ?_
      refine ⟨_, Drop.refl _, ⟨i + 1, by omega, rfl, rfl, rfl⟩, ?_⟩
      show ((n : Int) - ((i : Int) + 1)).toNat < ((n : Int) - (i : Int)).toNat
      omega
    · refine Chk.mk (by omega) ?_
      have e1 : (i + 7) / 8 = (i + 8) / 8 := by omega
      rw [e1]
      refine ToD.keep ?_
      refine ToD.to _ (u8_ex _) ?_
      refine Chk.mk (by omega) ?_
      refine StoreD.to 0 rfl _ st (by rw [bts_length, madeP_length]; show 0 + i + 1 ≤ _; omega) (.inr (.inr (Nat.le_refl _))) _ rfl ?_
      refine ToD.i64 (by omega) (by omega) ?_
      refine ⟨_, Drop.refl _, ⟨i + 1, by omega, rfl, rfl, rfl⟩, ?_⟩
      show ((n : Int) - ((i : Int) + 1)).toNat < ((n : Int) - (i : Int)).toNat
      omega
  · obtain rfl : i = n := by omega
    rw [madeP_all]
    refine Done.mk ⟨b, _, rfl, ⟨by rw [bts_length, madeL_length]; omega, Nat.le_refl _, .inr ⟨b, [], [], 5, rfl, by simp, by simp⟩⟩, rfl, rfl⟩
theorem made (seed : Int) (n : Nat) (hn : n ≤ 1000000) (I : Imm) : Tri Try.prog 62 #[.int .i64 seed, .int .i64 n] I [] fun v J _ => ∃ a, v = .slice a n n ∧ Rds J a n (bts (madeL seed n)) := by
  refine Tri.fixed (made_own seed n hn I) ?_
  rintro v J S' hJ ⟨b, ch, rfl, hown, rfl, rfl⟩
  exact ⟨0, ch, rfl, fun J' hJ' hm => ⟨_, rfl, Rds.of_own hown hm⟩⟩
end Go.Proofs.Ytbpdbgcndfcilaa
namespace Go.Proofs.Ytbpdbgcndfcilaa
open Go.RowKit Go.Sl
set_option maxRecDepth 20000

def mkB (k i : Nat) : UInt8 := UInt8.ofNat ((1000003 * (k + 7) + i) * 11400714819323198485 % 18446744073709551616 / 72057594037927936)
theorem mark_byte (k i : Nat) (hk : k ≤ 1000000) (hi : i ≤ 1000000) (I : Imm) : Tri Try.prog 106 #[.int .i64 k, .int .i64 i] I [] fun v J _ => v = byte (mkB k i) ∧ I = J := by
  refine Tri.of (args := [.int .i64 k, .int .i64 i]) tabOk Try.func106 rfl (by kernel_rfl) (by kernel_rfl) ?_
  refine ToD.to ((k + 7 : Nat) : Int) (by rw [wrap_i64 (by omega) (by omega)]; omega) ?_
  refine ToD.to ((1000003 * (k + 7) : Nat) : Int) (by rw [wrap_i64 (by omega) (by omega)]; omega) ?_
  refine ToD.to ((1000003 * (k + 7) + i : Nat) : Int) (by rw [wrap_i64 (by omega) (by omega)]; omega) ?_
  refine ToD.to ((1000003 * (k + 7) + i : Nat) : Int) (wrap_u64 _ (by omega)) ?_
  refine ToD.to (((1000003 * (k + 7) + i) * 11400714819323198485 % 18446744073709551616 : Nat) : Int) (by simp [IntKind.wrap, IntKind.signed, IntKind.bits]) ?_
  refine Chk.mk (by decide) ?_
  obtain ⟨m, hm⟩ : ∃ m, m = (1000003 * (k + 7) + i) * 11400714819323198485 % 18446744073709551616 := ⟨_, rfl⟩
  have hml : m < 18446744073709551616 := by rw [hm]; exact Nat.mod_lt _ (by decide)
  rw [← hm]
  refine ToD.to ((m / 72057594037927936 : Nat) : Int) (shr_nat m 56 _ rfl (by omega)) ?_
  refine ToD.to ((m / 72057594037927936 : Nat) : Int) (wrap_u rfl (by omega) (by show ((m / 72057594037927936 : Nat) : Int) < 2 ^ 8; omega)) ?_
  refine Done.mk ⟨?_, rfl⟩
  show Value.int .u8 _ = byte _
  unfold byte mkB
  rw [← hm, UInt8.toNat_ofNat', Nat.mod_eq_of_lt (by omega)]
end Go.Proofs.Ytbpdbgcndfcilaa
namespace Go.Proofs.Ytbpdbgcndfcilaa
open Go.RowKit Go.Sl
set_option maxRecDepth 20000

/-- an image, as it lies -/
structure Img where
  blk : Int
  a : Option Addr
  len : Nat
  cap : Nat
  data : List UInt8
def imgCells (l : List Img) : List Value := l.flatMap fun g => [.int .i64 g.blk, .slice g.a g.len g.cap]
theorem imgCells_snoc (l : List Img) (g : Img) : imgCells (l ++ [g]) = imgCells l ++ [.int .i64 g.blk, .slice g.a g.len g.cap] := by simp [imgCells]
abbrev PImg := Int × List UInt8
@[reducible] def Img.pr (g : Img) : PImg := (g.blk, g.data)
/-- what an image tells, in what is fixed -/
def ImgOk (J : Imm) (g : Img) : Prop := In64 g.blk ∧ Rds J g.a g.len (bts g.data)
theorem ImgOk.mono {I J : Imm} {g : Img} (h : ImgOk I g) (hJ : I.le J) : ImgOk J g := ⟨h.1, h.2.mono hJ⟩

end Go.Proofs.Ytbpdbgcndfcilaa
namespace Go.Proofs.Ytbpdbgcndfcilaa
open Go.RowKit Go.Sl

def seenN (n : Nat) (bs : List Int) : List Value := (List.range n).map fun (j : Nat) => .bool (decide ((j : Int) ∈ bs))
def seenL (bs : List Int) : List Value := seenN 512 bs
attribute [irreducible] seenL
/-- images, fixed -/
def ImgsOk (J : Imm) (a : Option Addr) (gs : List Img) : Prop := Rds J a (gs.length * 2) (imgCells gs) ∧ ∀ g ∈ gs, ImgOk J g
theorem imgCells_at {gs : List Img} {i : Nat} (h : i < gs.length) : ((imgCells gs).drop (i * 2)).take 2 = [.int .i64 gs[i].blk, .slice gs[i].a gs[i].len gs[i].cap] := by
  induction gs generalizing i with
  | nil => simp at h
  | cons g gs ih =>
    cases i with
    | zero => rfl
    | succ i =>
      have := ih (i := i) (by simpa using h)
      have e : imgCells (g :: gs) = [.int .i64 g.blk, .slice g.a g.len g.cap] ++ imgCells gs := by simp [imgCells]
      rw [e, show (i + 1) * 2 = [Value.int .i64 g.blk, .slice g.a g.len g.cap].length + i * 2 by simp; omega, ← List.drop_drop, List.drop_left]
      simpa using this
end Go.Proofs.Ytbpdbgcndfcilaa
namespace Go.Proofs.Ytbpdbgcndfcilaa
open Go.RowKit Go.Sl

@[reducible] def chunkBoxes (b1 b2 : Nat) (a : Option Addr) (len cap n : Nat) : St := [[(b1, row [.slice a len cap] 60)], [(b2, row [.int .i64 n] 3)]]
end Go.Proofs.Ytbpdbgcndfcilaa
namespace Go.Proofs.Ytbpdbgcndfcilaa
open Go.RowKit Go.Sl

theorem SeqC.wide {P : Program} {gf : FuncId} {lb : Array Value} {I : Imm} {Sit : St} {E E' : Nat → Value → Prop} {fin : Nat → Prop} (h : SeqC P gf lb I Sit E fin) (he : ∀ i x, E i x → E' i x) : SeqC P gf lb I Sit E' fin :=
  fun l inv stp J c hJ hY h0 => h l inv stp J c hJ (fun i x J' c' hJ' hE => hY i x J' c' hJ' (he i x hE)) h0
def stampB (e s : Nat) : List UInt8 := be ((e * 2 ^ 40 % 2 ^ 64) ||| s) 8
end Go.Proofs.Ytbpdbgcndfcilaa
namespace Go.Proofs.Ytbpdbgcndfcilaa
open Go.RowKit Go.Sl


theorem clone_bytes (I : Imm) (S : St) (a : Option Addr) (len cap : Nat) (vs : List Value) (h : SlC I S a (len * 1) vs) (h1 : ∀ u ∈ vs, Plain u = true) (hlen : len * 1 ≤ 140737488355328) :
    Tri Try.prog 95 #[.slice a len cap] I S fun v J S' => ∃ a' cap' ch, v = .slice a' len cap' ∧ OwnC ch 1 a' len cap' vs ∧ I = J ∧ S' = S ++ [ch] := by
  refine Tri.drop ?_ (fun _ _ _ _ h => h)
  refine Tri.of (args := [.slice a len cap]) tabOk Try.func95 rfl (by kernel_rfl) (by kernel_rfl) ?_
  cases a with
  | none =>
    have h0 := SlC.nil_len h
    obtain rfl : len = 0 := by omega
    have : vs = [] := List.length_eq_zero_iff.1 (by simpa using h.len)
    subst this
    exact Done.mk ⟨_, Drop.and (Drop.refl _), none, 0, [], rfl, OwnC.nil _ _, rfl, rfl⟩
  | some p =>
    conv => whnf
    intro b
    refine appendD tabOk rfl rfl rfl rfl rfl rfl rfl S.length (last_get S _) (OwnC.whole (vs := []) rfl) (SrcOk.slice tabOk rfl (h.more _) h1) rfl (by show (0 + len) * 1 ≤ _; omega) (by omega) ?_
    intro a' cap' ch hown
    rw [last_set]
    rw [Nat.zero_add] at hown ⊢
    exact Done.mk ⟨_, Drop.refl _, a', cap', ch, rfl, hown, rfl, rfl⟩

end Go.Proofs.Ytbpdbgcndfcilaa
namespace Go.Proofs.Ytbpdbgcndfcilaa
open Go.RowKit Go.Sl
set_option maxRecDepth 20000

def put8 (l m : List UInt8) (i : Nat) : List UInt8 := l.take (i * 512) ++ m ++ l.drop (i * 512 + 8)
def markK (m l : List UInt8) : Nat → List UInt8
  | 0 => l
  | k + 1 => put8 (markK m l k) m k
def hidK (l : List UInt8) : Nat → List UInt8
  | 0 => []
  | k + 1 => hidK l k ++ (l.drop (k * 512)).take 8
attribute [irreducible] markK hidK
end Go.Proofs.Ytbpdbgcndfcilaa
namespace Go.Proofs.Ytbpdbgcndfcilaa
open Go.RowKit Go.Sl
set_option maxRecDepth 20000

def sprK (m l : List UInt8) : Nat → List UInt8
  | 0 => []
  | k + 1 => sprK m l k ++ m ++ (l.drop (k * 504)).take 504
attribute [irreducible] sprK

end Go.Proofs.Ytbpdbgcndfcilaa
namespace Go.Proofs.Ytbpdbgcndfcilaa
open Go.RowKit Go.Sl

def turn (r : Nat) : Nat := if r % 2 = 1 then (r / 2) ^^^ 2197175160 else r / 2
def turns : Nat → Nat → Nat
  | 0, r => r
  | k + 1, r => turn (turns k r)
def crcReg (r : Nat) (l : List UInt8) : Nat := l.foldl (fun r c => turns 8 (r ^^^ c.toNat)) r
def crcMore (sum : Nat) (l : List UInt8) : Nat := crcReg (sum ^^^ 4294967295) l ^^^ 4294967295
theorem turn_lt {r : Nat} (h : r < 4294967296) : turn r < 4294967296 := by
  unfold turn
  split
  · exact Nat.xor_lt_two_pow (n := 32) (by omega) (by omega)
  · omega
theorem turns_lt {r : Nat} (h : r < 4294967296) : ∀ k, turns k r < 4294967296
  | 0 => h
  | k + 1 => turn_lt (turns_lt h k)
theorem crcReg_lt {r : Nat} (h : r < 4294967296) (l : List UInt8) : crcReg r l < 4294967296 := by
  induction l generalizing r with
  | nil => exact h
  | cons c l ih =>
    have := c.toNat_lt
    exact ih (turns_lt (Nat.xor_lt_two_pow (n := 32) h (by omega)) 8)
theorem crcReg_snoc (r : Nat) (l : List UInt8) (c : UInt8) : crcReg r (l ++ [c]) = turns 8 (crcReg r l ^^^ c.toNat) := by simp [crcReg]
theorem wrap_u32 (v : Nat) (h : v < 4294967296) : IntKind.u32.wrap (v : Int) = (v : Int) := wrap_u rfl (by omega) (by show (v : Int) < 2 ^ 32; omega)

theorem not_u32 (n : Nat) (h : n < 4294967296) : bits .xor .u32 (if IntKind.u32.signed then -1 else IntKind.u32.max) (n : Int) = ((n ^^^ 4294967295 : Nat) : Int) := by
  show bits .xor .u32 ((4294967295 : Nat) : Int) (n : Int) = _
  rw [u32_xor_nat _ _ (by decide) h, Nat.xor_comm]
theorem sums_turn (b : Nat) (r : Nat) (hr : r < 4294967296) (I : Imm) : Tri Try.prog 167 #[.pointer (some ⟨b, 0, none⟩)] I [[(b, row [.int .u32 r] 178)]] fun _ J S' => I = J ∧ S' = [[(b, row [.int .u32 (turn r)] 178)]] := by
  refine Tri.of (args := [.pointer (some ⟨b, 0, none⟩)]) tabOk Try.func167 rfl (by kernel_rfl) (by kernel_rfl) ?_
  refine LoadD.own 0 rfl _ rfl rfl ?_
  refine ToD.to ((r % 2 : Nat) : Int) (by rw [show (1 : Int) = ((1 : Nat) : Int) from rfl, u32_and_nat r 1 hr (by omega), Nat.and_one_is_mod]) ?_
  refine LoadD.own 0 rfl _ rfl rfl ?_
  refine Chk.mk (by omega) ?_
  refine ToD.to ((r / 2 : Nat) : Int) (by rw [show (1 : Int).toNat = 1 from rfl, show min 1 IntKind.u32.bits = 1 from rfl, Int.fdiv_eq_ediv_of_nonneg _ (by omega)]; omega) ?_
  refine StoreD.st 0 rfl rfl rfl ?_
  refine CmpD.split (fun c => ?_) (fun c => ?_)
  · refine LoadD.own 0 rfl _ rfl rfl ?_
    refine ToD.to (((r / 2) ^^^ 2197175160 : Nat) : Int) (u32_xor_nat _ _ (by omega) (by decide)) ?_
    refine StoreD.st 0 rfl rfl rfl ?_
    refine Done.mk ⟨rfl, ?_⟩
    rw [turn, if_pos (by omega)]; rfl
  · refine Done.mk ⟨rfl, ?_⟩
    rw [turn, if_neg (by omega)]; rfl

theorem sums_More (I : Imm) (S : St) (sum : Nat) (hsum : sum < 4294967296) (a : Option Addr) (len cap : Nat) (l : List UInt8) (h : SlC I S a len (bts l)) (hlen : len ≤ 9223372036854775806) :
    Tri Try.prog 154 #[.int .u32 sum, .slice a len cap] I S fun v J S' => v = .int .u32 (crcMore sum l) ∧ I = J ∧ S' = S := by
  have hll : l.length = len := by rw [← bts_length, h.len]
  refine Tri.drop ?_ (fun _ _ _ _ h => h)
  refine Tri.of (args := [.int .u32 sum, .slice a len cap]) tabOk Try.func154 rfl (by kernel_rfl) (by kernel_rfl) ?_
  refine ToD.to ((sum ^^^ 4294967295 : Nat) : Int) (not_u32 sum hsum) ?_
  conv => whnf
  intro b
  refine StoreD.st S.length (last_get S _) rfl rfl ?_
  rw [last_set]
  have hs0 : sum ^^^ 4294967295 < 4294967296 := Nat.xor_lt_two_pow (n := 32) hsum (by decide)
  refine CodeF.loopD [5, 6, 12, 13, 14] (fun vs J S' => ∃ i : Nat, i ≤ len ∧ vs = [.pointer (some ⟨b, 0, none⟩), .func (.func 167) #[] #[.pointer (some ⟨b, 0, none⟩)], .slice a len cap, .int .i64 len, .int .i64 i] ∧ I = J ∧
      S' = S ++ [[(b, row [.int .u32 (crcReg (sum ^^^ 4294967295) (l.take i))] 178)]])
    (fun vs _ _ => match vs with | [_, _, _, _, .int _ i] => ((len : Int) - i).toNat | _ => 0) ?_ ?_
  · exact ⟨_, Drop.refl _, 0, by omega, rfl, rfl, rfl⟩
  rintro vs g J S' hJ ⟨i, hi, rfl, rfl, rfl⟩
  have hreg := crcReg_lt hs0 (l.take i)
  refine CmpD.split (fun c1 => ?_) (fun c1 => ?_)
  · rcases h.mem with h0 | ⟨bA, off, rfl, hcA⟩
    · omega
    have hil : i < l.length := by omega
    refine Chk.mk (by omega) ?_
    refine LoadD.mk [byte l[i]] ?_ ?_
    · have := (h.more [(b, row [.int .u32 (crcReg (sum ^^^ 4294967295) (l.take i))] 178)]).mem
      rcases this with h0 | ⟨bB, off2, hB, hcB⟩
      · omega
      · cases hB
        exact hcB.at (bts_get (List.getElem?_eq_getElem hil))
    have hb8 := (l[i]).toNat_lt
    refine LoadD.own S.length (last_get S _) _ rfl rfl ?_
    refine ToD.to ((l[i]).toNat : Int) (wrap_u32 _ (by omega)) ?_
    refine ToD.to ((crcReg (sum ^^^ 4294967295) (l.take i) ^^^ (l[i]).toNat : Nat) : Int) (u32_xor_nat _ _ hreg (by omega)) ?_
    refine StoreD.st S.length (last_get S _) rfl rfl ?_
    rw [last_set]
    obtain ⟨r, hr⟩ : ∃ r, r = crcReg (sum ^^^ 4294967295) (l.take i) ^^^ (l[i]).toNat := ⟨_, rfl⟩
    have hrl : r < 4294967296 := by rw [hr]; exact Nat.xor_lt_two_pow (n := 32) hreg (by omega)
    rw [← hr]
    refine CodeF.loopD [5, 6, 12, 13, 14, 22] (fun vs J S' => ∃ k : Nat, k ≤ 8 ∧ vs = [.pointer (some ⟨b, 0, none⟩), .func (.func 167) #[] #[.pointer (some ⟨b, 0, none⟩)], .slice (some ⟨bA, off, none⟩) len cap, .int .i64 len, .int .i64 i, .int .i64 k] ∧ I = J ∧
        S' = S ++ [[(b, row [.int .u32 (turns k r)] 178)]])
      (fun vs _ _ => match vs with | [_, _, _, _, _, .int _ k] => ((8 : Int) - k).toNat | _ => 0) ?_ ?_
    · exact ⟨_, Drop.refl _, 0, by omega, rfl, rfl, rfl⟩
    rintro vs g J S' hJ ⟨k, hk, rfl, rfl, rfl⟩
    refine CmpD.split (fun c2 => ?_) (fun c2 => ?_)
    · refine Tri.frame1 S.length (last_get S _) (sums_turn b _ (turns_lt hrl k) _) ?_
      rintro v J S' hJ ⟨rfl, rfl⟩
      refine ⟨_, rfl, ?_⟩
      rw [spineS_eq, last_set]
      refine ToD.i64 (by omega) (by omega) ?_
      refine ⟨_, Drop.refl _, ⟨k + 1, by omega, rfl, rfl, rfl⟩, ?_⟩
      show ((8 : Int) - ((k : Int) + 1)).toNat < ((8 : Int) - (k : Int)).toNat
      omega
    obtain rfl : k = 8 := by omega
    refine ToD.i64 (by omega) (by omega) ?_
    refine ⟨_, Drop.refl _, ⟨i + 1, by omega, rfl, rfl, ?_⟩, ?_⟩
    · have : l.take (i + 1) = l.take i ++ [l[i]] := by rw [List.take_add_one, List.getElem?_eq_getElem hil]; rfl
      rw [this, crcReg_snoc, ← hr]
    · show ((len : Int) - ((i : Int) + 1)).toNat < ((len : Int) - (i : Int)).toNat
      omega
  refine LoadD.own S.length (last_get S _) _ rfl rfl ?_
  refine ToD.to ((crcReg (sum ^^^ 4294967295) (l.take i) ^^^ 4294967295 : Nat) : Int) (not_u32 _ hreg) ?_
  refine Done.mk ⟨_, Drop.init _ _, ?_, rfl, rfl⟩
  rw [crcMore, List.take_of_length_le (by omega)]; rfl
theorem sums_Crc (I : Imm) (S : St) (a : Option Addr) (len cap : Nat) (l : List UInt8) (h : SlC I S a len (bts l)) (hlen : len ≤ 9223372036854775806) :
    Tri Try.prog 124 #[.slice a len cap] I S fun v J S' => v = .int .u32 (crcMore 0 l) ∧ I = J ∧ S' = S := by
  refine Tri.of (args := [.slice a len cap]) tabOk Try.func124 rfl (by kernel_rfl) (by kernel_rfl) ?_
  refine (sums_More I S 0 (by omega) a len cap l h hlen).mono ?_
  rintro v J S' hJ ⟨rfl, rfl, rfl⟩
  exact Done.mk ⟨rfl, rfl, rfl⟩
end Go.Proofs.Ytbpdbgcndfcilaa
namespace Go.Proofs.Ytbpdbgcndfcilaa
open Go.RowKit Go.Sl

end Go.Proofs.Ytbpdbgcndfcilaa
namespace Go.Proofs.Ytbpdbgcndfcilaa
open Go.RowKit Go.Sl
set_option maxRecDepth 20000

/-- a block, as it lies -/
structure Bk where
  a : Option Addr
  cap : Nat
  data : List UInt8
@[reducible] def Bk.cell (b : Bk) : Value := .slice b.a 4096 b.cap
def hidAll (gs : List Img) : List UInt8 := gs.flatMap fun g => be g.blk.toNat 2 ++ hidK g.data 8
theorem rows_zero (n : Nat) : rows n [Value.int .u8 0] = bts (List.replicate n 0) := by
  induction n with
  | zero => rfl
  | succ n ih =>
    have e : rows (n + 1) [Value.int .u8 0] = Value.int .u8 0 :: rows n [Value.int .u8 0] := by simp [rows, List.replicate_succ]
    rw [e, ih]; rfl
attribute [irreducible] hidAll

end Go.Proofs.Ytbpdbgcndfcilaa
namespace Go.Proofs.Ytbpdbgcndfcilaa
open Go.RowKit Go.Sl
set_option maxRecDepth 20000

theorem same_bytes {I : Imm} {S : St} {a1 a2 : Option Addr} {n1 n2 c1 c2 : Nat} {l1 l2 : List UInt8} (h1 : SlC I S a1 n1 (bts l1)) (h2 : SlC I S a2 n2 (bts l2)) :
    Tri Try.prog 48 #[.slice a1 n1 c1, .slice a2 n2 c2] I S fun v J S' => v = .bool (decide (l1 = l2)) ∧ I = J ∧ S' = S := by
  refine Tri.of (args := [.slice a1 n1 c1, .slice a2 n2 c2]) tabOk Try.func48 rfl (by kernel_rfl) (by kernel_rfl) ?_
  refine convStrD tabOk rfl rfl rfl rfl rfl h1 ?_
  refine convStrD tabOk rfl rfl rfl rfl rfl h2 ?_
  refine CmpD.keep ?_
  refine Done.mk ⟨?_, rfl, rfl⟩
  rw [bytes_toList, bytes_toList]; rfl
theorem bytes_Equal {I : Imm} {S : St} {a1 a2 : Option Addr} {n1 n2 c1 c2 : Nat} {l1 l2 : List UInt8} (h1 : SlC I S a1 n1 (bts l1)) (h2 : SlC I S a2 n2 (bts l2)) :
    Tri Try.prog 144 #[.slice a1 n1 c1, .slice a2 n2 c2] I S fun v J S' => v = .bool (decide (l1 = l2)) ∧ I = J ∧ S' = S := by
  refine Tri.of (args := [.slice a1 n1 c1, .slice a2 n2 c2]) tabOk Try.func144 rfl (by kernel_rfl) (by kernel_rfl) ?_
  refine convStrD tabOk rfl rfl rfl rfl rfl h1 ?_
  refine convStrD tabOk rfl rfl rfl rfl rfl h2 ?_
  refine CmpD.keep ?_
  refine Done.mk ⟨?_, rfl, rfl⟩
  rw [bytes_toList, bytes_toList]; rfl
end Go.Proofs.Ytbpdbgcndfcilaa
namespace Go.Proofs.Ytbpdbgcndfcilaa
open Go.RowKit Go.Sl

/-- a slice's header -/
structure Hd where
  a : Option Addr
  len : Nat
  cap : Nat
@[reducible] def Hd.v (h : Hd) : Value := .slice h.a h.len h.cap
structure Gate where
  on : Bool
  left : Int
/-- the disk's own record -/
structure DRec where
  safe : Hd
  now : Hd
  writes : Hd
  count : Int
  down : Bool
  arm : Gate
  fault : Gate
@[reducible] def DRec.cells (d : DRec) : List Value := [d.safe.v, d.now.v, d.writes.v, .int .i64 d.count, .bool d.down, .bool d.arm.on, .int .i64 d.arm.left, .bool d.fault.on, .int .i64 d.fault.left]
@[reducible] def dChunk (b : Nat) (d : DRec) : List Blk := [(b, row d.cells 136)]
def Gate.Ok (g : Gate) : Prop := g.on = true → 0 ≤ g.left ∧ g.left ≤ 9223372036854775807
/-- an operation goes by -/
def Gate.step (g : Gate) : Gate × Bool := match g.on with
  | false => (g, false)
  | true => (⟨decide (0 ≤ g.left - 1), g.left - 1⟩, !decide (0 ≤ g.left - 1))
theorem Gate.step_ok {g : Gate} (h : g.Ok) : g.step.1.Ok := by
  unfold Gate.step Gate.Ok at *
  cases hg : g.on with
  | false => simp [hg]
  | true =>
    have := h hg
    simp only [decide_eq_true_eq]
    omega

/-- what is wrong with a block's number -/
def wrongE (len : Nat) (n : Int) : Int := if len = 0 then 1 else if n < 0 ∨ (len : Int) ≤ n then 70 else 0
end Go.Proofs.Ytbpdbgcndfcilaa
namespace Go.Proofs.Ytbpdbgcndfcilaa
open Go.RowKit Go.Sl

/-- an operation goes by: what stops it, and the record behind it -/
def DRec.stop (d : DRec) : DRec × Int := match d.down with
  | true => (d, 6)
  | false => match d.arm.step.2 with
    | true => ({ d with fault := d.fault.step.1, arm := d.arm.step.1, down := true }, 6)
    | false => ({ d with fault := d.fault.step.1, arm := d.arm.step.1 }, match d.fault.step.2 with | true => 4 | false => 0)
def DRec.Ok (d : DRec) : Prop := d.arm.Ok ∧ d.fault.Ok
end Go.Proofs.Ytbpdbgcndfcilaa
namespace Go.Proofs.Ytbpdbgcndfcilaa
open Go.RowKit Go.Sl
set_option maxRecDepth 20000

/-- writes, as they lie -/
def wCells (ws : List (Int × Bk)) : List Value := ws.flatMap fun w => [.int .i64 w.1, w.2.cell]
def BkOk (J : Imm) (b : Bk) : Prop := Rds J b.a 4096 (bts b.data)
/-- a disk's chunks -/
structure DiskAt (J : Imm) (d : DRec) (chS chN chW : List Blk) (safe now : List Bk) (ws : List (Int × Bk)) : Prop where
  hS : OwnC chS 1 d.safe.a d.safe.len d.safe.cap (safe.map Bk.cell)
  hN : OwnC chN 1 d.now.a d.now.len d.now.cap (now.map Bk.cell)
  hW : OwnC chW 2 d.writes.a d.writes.len d.writes.cap (wCells ws)
  okS : ∀ b ∈ safe, BkOk J b
  okN : ∀ b ∈ now, BkOk J b
  okW : ∀ w ∈ ws, BkOk J w.2 ∧ 4096 ≤ w.2.cap
theorem stop_same (d : DRec) : d.stop.1.safe = d.safe ∧ d.stop.1.now = d.now ∧ d.stop.1.writes = d.writes ∧ d.stop.1.count = d.count := by
  unfold DRec.stop
  cases d.down <;> cases d.arm.step.2 <;> exact ⟨rfl, rfl, rfl, rfl⟩
end Go.Proofs.Ytbpdbgcndfcilaa
namespace Go.Proofs.Ytbpdbgcndfcilaa
open Go.RowKit Go.Sl
set_option maxRecDepth 20000

/-- a disk's blocks -/
def blocksOf (l : List UInt8) (n : Nat) : List (List UInt8) := (List.range n).map fun (i : Nat) => (l.drop (i * 4096)).take 4096
attribute [irreducible] blocksOf
end Go.Proofs.Ytbpdbgcndfcilaa
namespace Go.Proofs.Ytbpdbgcndfcilaa
open Go.RowKit Go.Sl
set_option maxRecDepth 20000

/-- what stands between stamps -/
def gatK (b : List UInt8) : Nat → List UInt8
  | 0 => []
  | k + 1 => gatK b k ++ (b.drop (k * 512 + 8)).take 504
attribute [irreducible] gatK
/-! ### Stamped -/
def stampOk (b : List UInt8) (m : List UInt8) : Nat → Prop
  | 0 => True
  | k + 1 => stampOk b m k ∧ (b.drop (k * 512)).take 8 = m
instance stampDec (b m : List UInt8) : ∀ k, Decidable (stampOk b m k)
  | 0 => isTrue trivial
  | k + 1 => by unfold stampOk; have := stampDec b m k; infer_instance
/-! ### shown -/
/-- a block with what the stamps hid -/
def shoK (b hid : List UInt8) : Nat → List UInt8
  | 0 => b
  | k + 1 => put8 (shoK b hid k) ((hid.drop (8 * k)).take 8) k
attribute [irreducible] shoK
end Go.Proofs.Ytbpdbgcndfcilaa
namespace Go.Proofs.Ytbpdbgcndfcilaa
open Go.RowKit Go.Sl
set_option maxRecDepth 20000

end Go.Proofs.Ytbpdbgcndfcilaa
namespace Go.Proofs.Ytbpdbgcndfcilaa
open Go.RowKit Go.Sl
set_option maxRecDepth 20000

abbrev Dat := List UInt8
structure DSt where
  safe : List Dat
  now : List Dat
  writes : List (Int × Dat)
  count : Int
  down : Bool
  arm : Gate
  fault : Gate
def DSt.stop (d : DSt) : DSt × Int := match d.down with
  | true => (d, 6)
  | false => match d.arm.step.2 with
    | true => ({ d with fault := d.fault.step.1, arm := d.arm.step.1, down := true }, 6)
    | false => ({ d with fault := d.fault.step.1, arm := d.arm.step.1 }, match d.fault.step.2 with | true => 4 | false => 0)
def DSt.write (d : DSt) (n : Int) (b : Dat) : DSt × Int :=
  if wrongE d.now.length n ≠ 0 then (d, wrongE d.now.length n) else if b.length ≠ 4096 then (d, 2) else if d.stop.2 ≠ 0 then d.stop else
  ({ d.stop.1 with now := d.now.set n.toNat b, writes := d.writes ++ [(n, b)], count := d.count + 1 }, 0)
structure DSt.Wf (d : DSt) : Prop where
  len : d.safe.length = d.now.length
  range : 1 ≤ d.now.length ∧ d.now.length ≤ 512
  safe : ∀ b ∈ d.safe, b.length = 4096
  now : ∀ b ∈ d.now, b.length = 4096
  writes : ∀ w ∈ d.writes, 0 ≤ w.1 ∧ w.1 < d.now.length ∧ w.2.length = 4096
  arm : d.arm.Ok
  fault : d.fault.Ok
/-- so many writes at most -/
def DSt.Few (d : DSt) (k : Nat) : Prop := d.writes.length ≤ k ∧ 0 ≤ d.count ∧ d.count ≤ k
theorem DSt.stop_same (d : DSt) : d.stop.1.safe = d.safe ∧ d.stop.1.now = d.now ∧ d.stop.1.writes = d.writes ∧ d.stop.1.count = d.count := by
  unfold DSt.stop
  cases d.down <;> cases d.arm.step.2 <;> exact ⟨rfl, rfl, rfl, rfl⟩
theorem DSt.stop_gates (d : DSt) (h : d.Wf) : d.stop.1.arm.Ok ∧ d.stop.1.fault.Ok := by
  unfold DSt.stop
  cases d.down <;> cases d.arm.step.2 <;> first
    | exact ⟨h.arm, h.fault⟩
    | exact ⟨Gate.step_ok h.arm, Gate.step_ok h.fault⟩
theorem DSt.Wf.stop {d : DSt} (h : d.Wf) : d.stop.1.Wf := by
  obtain ⟨e1, e2, e3, e4⟩ := d.stop_same
  obtain ⟨g1, g2⟩ := d.stop_gates h
  exact ⟨by rw [e1, e2]; exact h.len, by rw [e2]; exact h.range, by rw [e1]; exact h.safe, by rw [e2]; exact h.now, by rw [e2, e3]; exact h.writes, g1, g2⟩
theorem DSt.Wf.write {d : DSt} (h : d.Wf) (n : Int) (b : Dat) : (d.write n b).1.Wf := by
  unfold DSt.write
  split
  · exact h
  rename_i h1
  split
  · exact h
  rename_i h2
  split
  · exact h.stop
  obtain ⟨e1, e2, e3, e4⟩ := d.stop_same
  obtain ⟨g1, g2⟩ := d.stop_gates h
  have hn : 0 ≤ n ∧ n < d.now.length := by
    have h1 : wrongE d.now.length n = 0 := by omega
    have := h.range
    unfold wrongE at h1
    rw [if_neg (by omega)] at h1
    split at h1 <;> omega
  refine ⟨by rw [e1, List.length_set]; exact h.len, by rw [List.length_set]; exact h.range, by rw [e1]; exact h.safe, ?_, ?_, g1, g2⟩
  · intro x hx
    rcases List.mem_or_eq_of_mem_set hx with hx | rfl
    · exact h.now x hx
    · omega
  · intro w hw
    simp only [List.length_set]
    rcases List.mem_append.1 hw with hw | hw
    · exact h.writes w hw
    · simp only [List.mem_singleton] at hw
      subst hw
      exact ⟨hn.1, hn.2, by show b.length = 4096; omega⟩
theorem DSt.Few.mono {d : DSt} {k m : Nat} (h : d.Few k) (hm : k ≤ m) : d.Few m := by
  obtain ⟨h1, h2, h3⟩ := h; exact ⟨by omega, h2, by omega⟩
theorem DSt.Few.stop {d : DSt} {k : Nat} (h : d.Few k) : d.stop.1.Few k := by
  obtain ⟨e1, e2, e3, e4⟩ := d.stop_same
  unfold DSt.Few; rw [e3, e4]; exact h
theorem DSt.Few.write {d : DSt} {k : Nat} (h : d.Few k) (n : Int) (b : Dat) : (d.write n b).1.Few (k + 1) := by
  unfold DSt.write
  split
  · exact h.mono (by omega)
  split
  · exact h.mono (by omega)
  split
  · exact h.stop.mono (by omega)
  · obtain ⟨h1, h2, h3⟩ := h
    exact ⟨by show (d.writes ++ [(n, b)]).length ≤ _; simp; omega, by show 0 ≤ d.count + 1; omega, by show d.count + 1 ≤ _; omega⟩
/-- a disk in one chunk -/
structure Dk (J : Imm) (bD : Nat) (st : DSt) (ch : List Blk) : Prop where
  wf : st.Wf
  ex : ∃ (d : DRec) (chS chN chW : List Blk) (bS bN : List Bk) (bW : List (Int × Bk)), ch = dChunk bD d ++ (chS ++ (chN ++ chW)) ∧ DiskAt J d chS chN chW bS bN bW ∧ bS.map Bk.data = st.safe ∧ bN.map Bk.data = st.now ∧
    bW.map (fun w => (w.1, w.2.data)) = st.writes ∧ d.count = st.count ∧ d.down = st.down ∧ d.arm = st.arm ∧ d.fault = st.fault
theorem BkOk.mono {I J : Imm} {b : Bk} (h : BkOk I b) (hJ : I.le J) : BkOk J b := Rds.mono h hJ
theorem DiskAt.mono {I J : Imm} {d : DRec} {chS chN chW : List Blk} {bS bN : List Bk} {bW : List (Int × Bk)} (h : DiskAt I d chS chN chW bS bN bW) (hJ : I.le J) : DiskAt J d chS chN chW bS bN bW :=
  ⟨h.hS, h.hN, h.hW, fun b hb => (h.okS b hb).mono hJ, fun b hb => (h.okN b hb).mono hJ, fun w hw => ⟨(h.okW w hw).1.mono hJ, (h.okW w hw).2⟩⟩
theorem Dk.mono {I J : Imm} {bD : Nat} {st : DSt} {ch : List Blk} (h : Dk I bD st ch) (hJ : I.le J) : Dk J bD st ch := by
  obtain ⟨hw, d, chS, chN, chW, bS, bN, bW, h1, h2, h3⟩ := h
  exact ⟨hw, d, chS, chN, chW, bS, bN, bW, h1, h2.mono hJ, h3⟩
end Go.Proofs.Ytbpdbgcndfcilaa
namespace Go.Proofs.Ytbpdbgcndfcilaa
open Go.RowKit Go.Sl
set_option maxRecDepth 20000

/-- a disk of blocks -/
def DSt.of (l : List Dat) : DSt := ⟨l, l, [], 0, false, ⟨false, 0⟩, ⟨false, 0⟩⟩
end Go.Proofs.Ytbpdbgcndfcilaa
namespace Go.Proofs.Ytbpdbgcndfcilaa
open Go.RowKit Go.Sl

def hidP (l : List PImg) : Dat := l.flatMap fun g => be g.1.toNat 2 ++ hidK g.2 8
def listP (l : List PImg) : Dat := hidP l ++ List.replicate (4026 - 66 * l.length) 0
def headP (l : List PImg) : Dat := be l.length 2 ++ be (crcMore 0 (listP l)) 4 ++ listP l
def putP (e s : Nat) (l : List PImg) : List Dat := sprK (stampB e s) (headP l) 8 :: l.map fun g => markK (stampB e s) g.2 8
def RightP (e s : Int) (l : List PImg) : Prop := 1 ≤ e ∧ e ≤ 8388608 ∧ 1 ≤ s ∧ s ≤ 549755813888 ∧ 1 ≤ l.length ∧ l.length ≤ 32 ∧ (∀ g ∈ l, 0 ≤ g.1 ∧ g.1 < 512 ∧ g.2.length = 4096) ∧ (l.map Prod.fst).Nodup
instance (e s : Int) (l : List PImg) : Decidable (RightP e s l) := by unfold RightP; infer_instance
theorem ImgsOk.len {J : Imm} {a : Option Addr} {gs : List Img} (h : ImgsOk J a gs) {g : Img} (hg : g ∈ gs) : g.data.length = g.len := by
  have := (h.2 g hg).2.len; rwa [bts_length] at this
/-- a list of images, fixed -/
def ImgV (J : Imm) (v : Value) (l : List PImg) : Prop := ∃ a cap gs, v = .slice a gs.length cap ∧ ImgsOk J a gs ∧ gs.map Img.pr = l
theorem ImgsOk.mono {I J : Imm} {a : Option Addr} {gs : List Img} (h : ImgsOk I a gs) (hJ : I.le J) : ImgsOk J a gs := ⟨h.1.mono hJ, fun g hg => (h.2 g hg).mono hJ⟩
theorem ImgV.mono {I J : Imm} {v : Value} {l : List PImg} (h : ImgV I v l) (hJ : I.le J) : ImgV J v l := by
  obtain ⟨a, cap, gs, h1, h2, h3⟩ := h; exact ⟨a, cap, gs, h1, h2.mono hJ, h3⟩
end Go.Proofs.Ytbpdbgcndfcilaa
namespace Go.Proofs.Ytbpdbgcndfcilaa
open Go.RowKit Go.Sl

/-- a layout as a value -/
@[reducible] def layV (b l lb bi i ib d : Int) : Value := .agg #[.int .i64 b, .int .i64 l, .int .i64 lb, .int .i64 bi, .int .i64 i, .int .i64 ib, .int .i64 d]
/-- the ring's length -/
def layL (n : Int) : Int := if n / 8 < 16 then 16 else n / 8
/-- what both answer -/
def layA (n : Int) : Value := if n < 64 ∨ 512 < n then .tuple #[layV 0 0 0 0 0 0 0, .int .i64 2] else .tuple #[layV n 2 (layL n) (2 + layL n) (3 + layL n) (n / 16) (3 + layL n + n / 16), .int .i64 0]
theorem layL_range {n : Int} (h : 64 ≤ n ∧ n ≤ 512) : 16 ≤ layL n ∧ layL n ≤ 64 := by unfold layL; split <;> omega

theorem layout_Of (n : Int) (I : Imm) : Tri Try.prog 89 #[.int .i64 n] I [] fun v J _ => v = layA n ∧ I = J := by
  refine Tri.of (args := [.int .i64 n]) tabOk Try.func89 rfl (by kernel_rfl) (by kernel_rfl) ?_
  conv => whnf
  intro b0
  refine CmpD.split (fun c1 => ?_) (fun c1 => ?_)
  · refine StoreD.st 0 rfl rfl rfl ?_
    refine LoadD.own 0 rfl _ rfl rfl ?_
    refine Done.mk ⟨?_, rfl⟩
    rw [layA, if_pos (by omega)]; rfl
  refine CmpD.split (fun c2 => ?_) (fun c2 => ?_)
  · refine StoreD.st 0 rfl rfl rfl ?_
    refine LoadD.own 0 rfl _ rfl rfl ?_
    refine Done.mk ⟨?_, rfl⟩
    rw [layA, if_pos (by omega)]; rfl
  have hL := layL_range (n := n) (by omega)
  refine Chk.mk (by omega) ?_
  refine ToD.quo (by omega) (by omega) (by omega) ?_
  refine ToD.to (layL n) (by unfold layL; split <;> split <;> omega) ?_
  refine Chk.mk (by omega) ?_
  refine ToD.quo (by omega) (by omega) (by omega) ?_
  conv => whnf
  intro b1
  refine StoreD.st 1 rfl rfl rfl ?_
  refine LoadD.own 1 rfl _ rfl rfl ?_
  refine LoadD.own 1 rfl _ rfl rfl ?_
  refine ToD.i64 (by omega) (by omega) ?_
  refine StoreD.st 1 rfl rfl rfl ?_
  refine LoadD.own 1 rfl _ rfl rfl ?_
  refine ToD.to (3 + layL n) (by rw [wrap_i64 (by omega) (by omega)]; omega) ?_
  refine StoreD.st 1 rfl rfl rfl ?_
  refine LoadD.own 1 rfl _ rfl rfl ?_
  refine LoadD.own 1 rfl _ rfl rfl ?_
  refine ToD.i64 (by omega) (by omega) ?_
  refine StoreD.st 1 rfl rfl rfl ?_
  refine LoadD.own 1 rfl _ rfl rfl ?_
  refine StoreD.st 0 rfl rfl rfl ?_
  refine LoadD.own 0 rfl _ rfl rfl ?_
  refine Done.mk ⟨?_, rfl⟩
  rw [layA, if_neg (by omega)]; rfl
set_option maxHeartbeats 2000000 in
theorem ref_Of (n : Int) (I : Imm) : Tri Try.prog 29 #[.int .i64 n] I [] fun v J _ => v = layA n ∧ I = J := by
  refine Tri.of (args := [.int .i64 n]) tabOk Try.func29 rfl (by kernel_rfl) (by kernel_rfl) ?_
  conv => whnf
  intro b0
  refine CmpD.split (fun c1 => ?_) (fun c1 => ?_)
  · refine StoreD.st 0 rfl rfl rfl ?_
    refine LoadD.own 0 rfl _ rfl rfl ?_
    refine Done.mk ⟨?_, rfl⟩
    rw [layA, if_pos (by omega)]; rfl
  refine CmpD.split (fun c2 => ?_) (fun c2 => ?_)
  · refine StoreD.st 0 rfl rfl rfl ?_
    refine LoadD.own 0 rfl _ rfl rfl ?_
    refine Done.mk ⟨?_, rfl⟩
    rw [layA, if_pos (by omega)]; rfl
  have hL := layL_range (n := n) (by omega)
  refine Chk.mk (by omega) ?_
  refine ToD.quo (by omega) (by omega) (by omega) ?_
  refine CmpD.split (fun c3 => ?_) (fun c3 => ?_)
  · have hl : layL n = 16 := by unfold layL; rw [if_pos c3]
    conv => whnf
    intro b1
    refine StoreD.st 1 rfl rfl rfl ?_
    refine StoreD.st 1 rfl rfl rfl ?_
    refine StoreD.st 1 rfl rfl rfl ?_
    refine ToD.to (2 + layL n) (by rw [hl, wrap_i64 (by omega) (by omega)]) ?_
    refine StoreD.st 1 rfl rfl rfl ?_
    refine ToD.to (3 + layL n) (by rw [wrap_i64 (by omega) (by omega)]; omega) ?_
    refine StoreD.st 1 rfl rfl rfl ?_
    refine Chk.mk (by omega) ?_
    refine ToD.quo (by omega) (by omega) (by omega) ?_
    refine StoreD.st 1 rfl rfl rfl ?_
    refine Chk.mk (by omega) ?_
    refine ToD.quo (by omega) (by omega) (by omega) ?_
    refine ToD.i64 (by omega) (by omega) ?_
    refine StoreD.st 1 rfl rfl rfl ?_
    refine LoadD.own 1 rfl _ rfl rfl ?_
    refine StoreD.st 0 rfl rfl rfl ?_
    refine LoadD.own 0 rfl _ rfl rfl ?_
    refine Done.mk ⟨?_, rfl⟩
    rw [layA, if_neg (by omega), hl]; rfl
  · have hl : layL n = n / 8 := by unfold layL; rw [if_neg c3]
    conv => whnf
    intro b1
    refine StoreD.st 1 rfl rfl rfl ?_
    refine StoreD.st 1 rfl rfl rfl ?_
    refine StoreD.st 1 rfl rfl rfl ?_
    refine ToD.to (2 + layL n) (by rw [hl, wrap_i64 (by omega) (by omega)]) ?_
    refine StoreD.st 1 rfl rfl rfl ?_
    refine ToD.to (3 + layL n) (by rw [wrap_i64 (by omega) (by omega)]; omega) ?_
    refine StoreD.st 1 rfl rfl rfl ?_
    refine Chk.mk (by omega) ?_
    refine ToD.quo (by omega) (by omega) (by omega) ?_
    refine StoreD.st 1 rfl rfl rfl ?_
    refine Chk.mk (by omega) ?_
    refine ToD.quo (by omega) (by omega) (by omega) ?_
    refine ToD.i64 (by omega) (by omega) ?_
    refine StoreD.st 1 rfl rfl rfl ?_
    refine LoadD.own 1 rfl _ rfl rfl ?_
    refine StoreD.st 0 rfl rfl rfl ?_
    refine LoadD.own 0 rfl _ rfl rfl ?_
    refine Done.mk ⟨?_, rfl⟩
    rw [layA, if_neg (by omega), hl]; rfl
end Go.Proofs.Ytbpdbgcndfcilaa
namespace Go.Proofs.Ytbpdbgcndfcilaa
open Go.RowKit Go.Sl

/-- a ring as a value -/
@[reducible] def rg (s t u h : Int) : Value := .agg #[.int .i64 s, .int .i64 t, .int .i64 u, .int .i64 h]
/-- may a ring be -/
def Ok (s t u h : Int) : Prop := 1 ≤ s ∧ s ≤ 512 ∧ 0 ≤ t ∧ t < s ∧ 0 ≤ u ∧ 0 ≤ h ∧ u + h ≤ s
instance (s t u h : Int) : Decidable (Ok s t u h) := by unfold Ok; infer_instance

abbrev R5 := Int × Int × Int × Int × Int
def putS (s t u h n k : Int) : R5 × Int := if ¬ Ok s t u h ∨ n < 0 ∨ k < 0 ∨ n < k ∨ h < k then ((0, 0, 0, 0, 2), 0) else if s - u - h < n - k then ((0, 0, 0, 0, 5), 0) else ((s, t, u + n, h - k, 0), (t + u) % s)
/-- a result: a ring and an error -/
def Is5 (v : Value) (r : R5) : Prop := ∃ a b c d e, v = .tuple #[rg a b c d, .int .i64 e] ∧ r = (a, b, c, d, e)
theorem Is5.mk (a b c d e : Int) {r : R5} (h : r = (a, b, c, d, e)) : Is5 (.tuple #[rg a b c d, .int .i64 e]) r := ⟨a, b, c, d, e, rfl, h⟩

section
variable (s t u h n : Int) (I : Imm) (hs : In64 s) (ht : In64 t) (hu : In64 u) (hh : In64 h) (hn : In64 n)
include hs ht hu hh hn
end
end Go.Proofs.Ytbpdbgcndfcilaa
namespace Go.Proofs.Ytbpdbgcndfcilaa
open Go.RowKit Go.Sl
set_option maxRecDepth 20000

/-- a layout's numbers -/
structure Lay where
  b : Int
  l : Int
  lb : Int
  bi : Int
  i : Int
  ib : Int
  d : Int
@[reducible] def Lay.vals (x : Lay) : List Value := [.int .i64 x.b, .int .i64 x.l, .int .i64 x.lb, .int .i64 x.bi, .int .i64 x.i, .int .i64 x.ib, .int .i64 x.d]
@[reducible] def Lay.v (x : Lay) : Value := layV x.b x.l x.lb x.bi x.i x.ib x.d
def layOf (n : Int) : Lay := ⟨n, 2, layL n, 2 + layL n, 3 + layL n, n / 16, 3 + layL n + n / 16⟩
/-- a journal's record -/
structure JRec where
  disk : Nat
  lay : Lay
  s : Int
  t : Int
  u : Int
  h : Int
  epoch : Int
  next : Int
  synced : Int
  groups : Hd
  broken : Bool
@[reducible] def JRec.cells (j : JRec) : List Value := .pointer (some ⟨j.disk, 0, none⟩) :: j.lay.vals ++ [.int .i64 j.s, .int .i64 j.t, .int .i64 j.u, .int .i64 j.h, .int .i64 j.epoch, .int .i64 j.next, .int .i64 j.synced, j.groups.v, .bool j.broken]
@[reducible] def jChunk (b : Nat) (j : JRec) : List Blk := [(b, row j.cells 30)]

theorem lay_cmp {o : Oper} {ρ : Env} {op : BinOp} {yt : TypeId} {x y : Operand} {K : Value → Prop} (p q : Lay) (ho : o.op = .binOp op 25 x y yt) (hop : op = .eql ∨ op = .neq)
    (hx : ρ.ev x = p.v) (hy : ρ.ev y = q.v) (h : CmpD ([p.b, p.l, p.lb, p.bi, p.i, p.ib, p.d] = [q.b, q.l, q.lb, q.bi, q.i, q.ib, q.d]) fun t => boolF (xor (op == .neq) t) fun t => K (.bool t)) : PureD Try.prog o ρ K :=
  eq_ints (k := .i64) tabOk [p.b, p.l, p.lb, p.bi, p.i, p.ib, p.d] [q.b, q.l, q.lb, q.bi, q.i, q.ib, q.d] ho hop rfl hx hy (by kernel_rfl) (by kernel_rfl) (by kernel_rfl) rfl rfl h
end Go.Proofs.Ytbpdbgcndfcilaa
namespace Go.Proofs.Ytbpdbgcndfcilaa
open Go.RowKit Go.Sl

end Go.Proofs.Ytbpdbgcndfcilaa
namespace Go.Proofs.Ytbpdbgcndfcilaa
open Go.RowKit Go.Sl
set_option maxRecDepth 20000

end Go.Proofs.Ytbpdbgcndfcilaa
namespace Go.Proofs.Ytbpdbgcndfcilaa
open Go.RowKit Go.Sl
set_option maxRecDepth 20000

structure JSt where
  lay : Lay
  s : Int
  t : Int
  u : Int
  h : Int
  epoch : Int
  next : Int
  synced : Int
  groups : List (Int × Int)
  broken : Bool
/-- numbers in range -/
structure JSt.Wf (j : JSt) : Prop where
  log : j.lay.l = 2
  ring : Ok j.s j.t j.u j.h
  epoch : In64 j.epoch
  next : 1 ≤ j.next ∧ j.next ≤ 549755813889
  synced : 0 ≤ j.synced ∧ j.synced < j.next
  few : j.groups.length ≤ 1000000
  groups : ∀ g ∈ j.groups, In64 g.1 ∧ In64 g.2
@[reducible] def JSt.at (j : JSt) (bD : Nat) (g : Hd) : JRec := ⟨bD, j.lay, j.s, j.t, j.u, j.h, j.epoch, j.next, j.synced, g, j.broken⟩
/-- writes one by one, until one errs -/
def wrAll (f : Nat → Int) : List Dat → Nat → DSt → DSt × Int
  | [], _, d => (d, 0)
  | b :: bs, i, d => if (d.write (f i) b).2 ≠ 0 then d.write (f i) b else wrAll f bs (i + 1) (d.write (f i) b).1
def JSt.append (j : JSt) (d : DSt) (l : List PImg) (held : Bool) : JSt × DSt × Int × Int :=
  if ¬ RightP j.epoch j.next l then (j, d, 0, 80) else
  if j.s < l.length + 1 then (j, d, 0, 232) else
  match putS j.s j.t j.u j.h (l.length + 1) (if held then l.length + 1 else 0) with
  | ((s, t, u, h, e), at_) => if e ≠ 0 then (j, d, 0, e) else
    match wrAll (fun i => j.lay.l + (at_ + i) % s) (putP j.epoch.toNat j.next.toNat l) 0 d with
    | (d', e') => if e' ≠ 0 then ({ j with s := s, t := t, u := u, h := h, broken := true }, d', 0, e') else
      ({ j with s := s, t := t, u := u, h := h, groups := j.groups ++ [(j.next, (l.length + 1 : Int))], next := j.next + 1 }, d', j.next, 0)
@[reducible] def pBox (b : Nat) (v : Value) (T : TypeId) : List Blk := [(b, row [v] T)]
end Go.Proofs.Ytbpdbgcndfcilaa
namespace Go.Proofs.Ytbpdbgcndfcilaa
open Go.RowKit Go.Sl
set_option maxRecDepth 20000

end Go.Proofs.Ytbpdbgcndfcilaa
namespace Go.Proofs.Ytbpdbgcndfcilaa
open Go.RowKit Go.Sl
set_option maxRecDepth 20000

end Go.Proofs.Ytbpdbgcndfcilaa
namespace Go.Proofs.Ytbpdbgcndfcilaa
open Go.RowKit Go.Sl
set_option maxRecDepth 20000

theorem layL_64' : layL ((64 : Nat) : Int) = 16 := by decide
/-! ### where nothing fails -/
def DSt.Calm (d : DSt) : Prop := d.down = false ∧ d.arm.on = false ∧ d.fault.on = false
def DSt.put (d : DSt) (n : Int) (b : Dat) : DSt := { d with now := d.now.set n.toNat b, writes := d.writes ++ [(n, b)], count := d.count + 1 }
theorem DSt.Calm.put {d : DSt} (h : d.Calm) (n : Int) (b : Dat) : (d.put n b).Calm := h
/-! ### images, fixed -/
end Go.Proofs.Ytbpdbgcndfcilaa
namespace Go.Proofs.Ytbpdbgcndfcilaa
open Go.RowKit Go.Sl
set_option maxRecDepth 20000

theorem snoc_ind {α : Type} {p : List α → Prop} (h0 : p []) (h1 : ∀ l a, p l → p (l ++ [a])) (l : List α) : p l := by
  have : ∀ n (l : List α), l.length = n → p l := by
    intro n
    induction n with
    | zero => intro l hl; rw [List.length_eq_zero_iff.1 hl]; exact h0
    | succ n ih =>
      intro l hl
      have hne : l ≠ [] := by rintro rfl; simp at hl
      rw [← List.dropLast_concat_getLast hne]
      exact h1 _ _ (ih _ (by rw [List.length_dropLast]; omega))
  exact this _ l rfl
/-- bytes as a number, the greatest first -/
def nb (l : List UInt8) : Nat := l.foldl (fun v b => v * 256 ||| b.toNat) 0
theorem nb_snoc (l : List UInt8) (b : UInt8) : nb (l ++ [b]) = nb l * 256 ||| b.toNat := by simp [nb]
theorem nb_lt (l : List UInt8) : nb l < 2 ^ (8 * l.length) := by
  refine snoc_ind (p := fun l => nb l < 2 ^ (8 * l.length)) (by simp [nb]) ?_ l
  · intro l b ih
    rw [nb_snoc, List.length_append, List.length_singleton]
    have hb : b.toNat < 2 ^ (8 * (l.length + 1)) := Nat.lt_of_lt_of_le b.toNat_lt (Nat.pow_le_pow_right (by omega) (by omega))
    refine Nat.or_lt_two_pow ?_ hb
    rw [show 8 * (l.length + 1) = 8 * l.length + 8 by omega, Nat.pow_add]
    omega
def numV (l : List UInt8) (at_ : Int) (n : Nat) : Nat × Bool := if at_ < 0 ∨ (l.length : Int) - n < at_ then (0, false) else (nb ((l.drop at_.toNat).take n), true)
theorem octets_number {I : Imm} {S : St} {a : Option Addr} {len cap : Nat} {l : List UInt8} (h : SlC I S a len (bts l)) (hlen : len ≤ 1000000000) (at_ : Int) (hat : In64 at_) (n : Nat) (hn : n ≤ 8) :
    Tri Try.prog 164 #[.slice a len cap, .int .i64 at_, .int .i64 n] I S fun v J S' => v = .tuple #[.int .u64 (numV l at_ n).1, .bool (numV l at_ n).2] ∧ I = J ∧ S' = S := by
  have hl : l.length = len := by rw [← bts_length, h.len]
  unfold In64 at hat
  unfold numV
  refine Tri.of (args := [.slice a len cap, .int .i64 at_, .int .i64 n]) tabOk Try.func164 rfl (by kernel_rfl) (by kernel_rfl) ?_
  refine CmpD.split (fun c1 => ?_) (fun c1 => ?_)
  · rw [if_pos (.inl c1)]; exact Done.mk ⟨rfl, rfl, rfl⟩
  refine ToD.i64 (by omega) (by omega) ?_
  refine CmpD.split (fun c2 => ?_) (fun c2 => ?_)
  · rw [if_pos (.inr (by rw [hl]; exact c2))]; exact Done.mk ⟨rfl, rfl, rfl⟩
  rw [if_neg (by rw [hl]; omega)]
  obtain ⟨k, rfl⟩ : ∃ k : Nat, at_ = k := ⟨at_.toNat, by omega⟩
  rw [show ((k : Int)).toNat = k from rfl]
  refine CodeF.loopD [0, 1, 8, 20, 21] (fun vs J' S' => ∃ (i : Nat), i ≤ n ∧ vs = [.slice a len cap, .int .i64 k, .int .u64 (nb ((l.drop k).take i) : Nat), .int .i64 n, .int .i64 i] ∧ I = J' ∧ S' = S)
    (fun vs _ _ => match vs with | [_, _, _, _, .int _ i] => ((n : Int) - i).toNat | _ => 0) ?_ ?_
  · exact ⟨_, Drop.refl _, 0, by omega, rfl, rfl, rfl⟩
  rintro vs g J' S' hJ' ⟨i, hi, rfl, rfl, rfl⟩
  refine CmpD.split (fun c3 => ?_) (fun c3 => ?_)
  · have hin : k + i < l.length := by omega
    rcases h.mem with h0 | ⟨b, off, rfl, hc⟩
    · omega
    have hv := nb_lt ((l.drop k).take i)
    have hvl : ((l.drop k).take i).length ≤ 7 := by rw [List.length_take]; omega
    have hv2 : nb ((l.drop k).take i) < 2 ^ 56 := Nat.lt_of_lt_of_le hv (Nat.pow_le_pow_right (by omega) (by omega))
    have htk : (l.drop k).take (i + 1) = (l.drop k).take i ++ [l[k + i]] := by
      rw [List.take_add_one, List.getElem?_drop, List.getElem?_eq_getElem hin]; rfl
    refine Chk.mk (by omega) ?_
    refine ToD.to ((nb ((l.drop k).take i) * 256 : Nat) : Int) ?_ ?_
    · rw [wrap_u rfl (by show 0 ≤ (nb ((l.drop k).take i) : Int) * 2 ^ 8; omega) (by show (nb ((l.drop k).take i) : Int) * 2 ^ 8 < 2 ^ 64; omega)]
      show (nb ((l.drop k).take i) : Int) * 2 ^ 8 = _; omega
    refine ToD.i64 (by omega) (by omega) ?_
    refine Chk.mk (by omega) ?_
    refine LoadD.mk [byte l[k + i]] (hc.at (i := k + i) (bts_get (List.getElem?_eq_getElem hin))) ?_
    have hb := l[k + i].toNat_lt
    refine ToD.to ((l[k + i].toNat : Nat) : Int) (wrap_u rfl (by omega) (by show (l[k + i].toNat : Int) < 2 ^ 64; omega)) ?_
    refine ToD.to ((nb ((l.drop k).take i) * 256 ||| l[k + i].toNat : Nat) : Int) (u64_or_nat _ _ (by omega) (by omega)) ?_
    refine ToD.i64 (by omega) (by omega) ?_
    refine ⟨_, Drop.refl _, ⟨i + 1, by omega, by rw [htk, nb_snoc]; rfl, rfl, rfl⟩, ?_⟩
    show ((n : Int) - ((i : Int) + 1)).toNat < ((n : Int) - (i : Int)).toNat
    omega
  · obtain rfl : i = n := by omega
    exact Done.mk ⟨rfl, rfl, rfl⟩
theorem octets_U64 {I : Imm} {S : St} {a : Option Addr} {len cap : Nat} {l : List UInt8} (h : SlC I S a len (bts l)) (hlen : len ≤ 1000000000) (at_ : Int) (hat : In64 at_) :
    Tri Try.prog 141 #[.slice a len cap, .int .i64 at_] I S fun v J S' => v = .tuple #[.int .u64 (numV l at_ 8).1, .bool (numV l at_ 8).2] ∧ I = J ∧ S' = S := by
  refine Tri.of (args := [.slice a len cap, .int .i64 at_]) tabOk Try.func141 rfl (by kernel_rfl) (by kernel_rfl) ?_
  refine Tri.mono (octets_number h hlen at_ hat 8 (by omega)) ?_
  rintro v J S' hJ ⟨rfl, rfl, rfl⟩
  exact Done.mk ⟨rfl, rfl, rfl⟩
end Go.Proofs.Ytbpdbgcndfcilaa
namespace Go.Proofs.Ytbpdbgcndfcilaa
open Go.RowKit Go.Sl
set_option maxRecDepth 20000

structure Sup where
  blocks : Int
  epoch : Int
  seq : Int
  tail : Int
@[reducible] def Sup.v (s : Sup) : Value := .agg #[.int .i64 s.blocks, .int .i64 s.epoch, .int .i64 s.seq, .int .i64 s.tail]
def RightS (s : Sup) : Prop := 64 ≤ s.blocks ∧ s.blocks ≤ 512 ∧ 1 ≤ s.epoch ∧ s.epoch ≤ 8388608 ∧ 1 ≤ s.seq ∧ s.seq ≤ 549755813888 ∧ 0 ≤ s.tail ∧ s.tail ≤ 511
instance (s : Sup) : Decidable (RightS s) := by unfold RightS; infer_instance
def magicL : Dat := [76, 69, 68, 71, 69, 82, 48, 49]
def sup40 (s : Sup) : Dat := magicL ++ be s.blocks.toNat 8 ++ be s.epoch.toNat 8 ++ be s.seq.toNat 8 ++ be s.tail.toNat 8
def sup44 (s : Sup) : Dat := sup40 s ++ be (crcMore 0 (sup40 s)) 4
def supL (s : Sup) : Dat := sup44 s ++ List.replicate 4052 0
theorem sup40_length (s : Sup) : (sup40 s).length = 40 := by simp [sup40, be_length, magicL]
theorem sup44_length (s : Sup) : (sup44 s).length = 44 := by simp [sup44, be_length, sup40_length]
theorem supL_length (s : Sup) : (supL s).length = 4096 := by rw [supL, List.length_append, sup44_length, List.length_replicate]
theorem super_within (a n b : Int) (I : Imm) (S : St) : Tri Try.prog 166 #[.int .i64 a, .int .i64 n, .int .i64 b] I S fun v J S' => v = .bool (decide (a ≤ n ∧ n ≤ b)) ∧ I = J ∧ S' = S := by
  refine Tri.of (args := [.int .i64 a, .int .i64 n, .int .i64 b]) tabOk Try.func166 rfl (by kernel_rfl) (by kernel_rfl) ?_
  refine CmpD.split (fun c1 => ?_) (fun c1 => ?_)
  · refine CmpD.keep ?_
    refine Done.mk ⟨?_, rfl, rfl⟩
    show Value.bool _ = Value.bool _
    congr 1; simp [show a ≤ n by omega]
  · refine Done.mk ⟨?_, rfl, rfl⟩
    show Value.bool _ = Value.bool _
    rw [decide_eq_false (by omega)]
theorem super_right (s : Sup) (I : Imm) : Tri Try.prog 149 #[s.v] I [] fun v J _ => v = .bool (decide (RightS s)) ∧ I = J := by
  refine Tri.of (args := [s.v]) tabOk Try.func149 rfl (by kernel_rfl) (by kernel_rfl) ?_
  conv => whnf
  intro b
  repeat (first
    | refine LoadD.own 0 rfl _ rfl rfl ?_
    | refine LoadP.at 0 rfl _ rfl rfl ?_
    | refine StoreD.st 0 rfl rfl rfl ?_
    | refine CmpD.yes rfl ?_
    | refine CmpD.yes (by decide) ?_
    | refine CmpD.no (by decide) ?_
    | refine Chk.mk ⟨rfl, trivial⟩ ?_
    | refine Chk.mk ⟨rfl, rfl, trivial⟩ ?_
    | refine Chk.mk ⟨rfl, rfl, rfl, trivial⟩ ?_
    | refine Chk.mk ⟨rfl, rfl, rfl, rfl, trivial⟩ ?_
    | refine Chk.mk ⟨rfl, rfl, rfl, rfl, rfl, trivial⟩ ?_
    | refine Chk.mk ⟨rfl, rfl, rfl, rfl, rfl, rfl, trivial⟩ ?_)
  refine Tri.nf (super_within 64 s.blocks 512 I _) ?_
  rintro _ _ _ _ ⟨rfl, rfl, rfl⟩
  have no : ¬ RightS s → decide (RightS s) = false := decide_eq_false
  by_cases c1 : 64 ≤ s.blocks ∧ s.blocks ≤ 512
  rotate_left
  · rw [decide_eq_false c1, no (fun h => c1 ⟨h.1, h.2.1⟩)]
    exact Done.mk ⟨rfl, rfl⟩
  rw [decide_eq_true c1]
  repeat (first
    | refine LoadD.own 0 rfl _ rfl rfl ?_
    | refine LoadP.at 0 rfl _ rfl rfl ?_
    | refine StoreD.st 0 rfl rfl rfl ?_
    | refine CmpD.yes rfl ?_
    | refine CmpD.yes (by decide) ?_
    | refine CmpD.no (by decide) ?_
    | refine Chk.mk ⟨rfl, trivial⟩ ?_
    | refine Chk.mk ⟨rfl, rfl, trivial⟩ ?_
    | refine Chk.mk ⟨rfl, rfl, rfl, trivial⟩ ?_
    | refine Chk.mk ⟨rfl, rfl, rfl, rfl, trivial⟩ ?_
    | refine Chk.mk ⟨rfl, rfl, rfl, rfl, rfl, trivial⟩ ?_
    | refine Chk.mk ⟨rfl, rfl, rfl, rfl, rfl, rfl, trivial⟩ ?_)
  refine Tri.nf (super_within 1 s.epoch 8388608 I _) ?_
  rintro _ _ _ _ ⟨rfl, rfl, rfl⟩
  by_cases c2 : 1 ≤ s.epoch ∧ s.epoch ≤ 8388608
  rotate_left
  · rw [decide_eq_false c2, no (fun h => c2 ⟨h.2.2.1, h.2.2.2.1⟩)]
    exact Done.mk ⟨rfl, rfl⟩
  rw [decide_eq_true c2]
  repeat (first
    | refine LoadD.own 0 rfl _ rfl rfl ?_
    | refine LoadP.at 0 rfl _ rfl rfl ?_
    | refine StoreD.st 0 rfl rfl rfl ?_
    | refine CmpD.yes rfl ?_
    | refine CmpD.yes (by decide) ?_
    | refine CmpD.no (by decide) ?_
    | refine Chk.mk ⟨rfl, trivial⟩ ?_
    | refine Chk.mk ⟨rfl, rfl, trivial⟩ ?_
    | refine Chk.mk ⟨rfl, rfl, rfl, trivial⟩ ?_
    | refine Chk.mk ⟨rfl, rfl, rfl, rfl, trivial⟩ ?_
    | refine Chk.mk ⟨rfl, rfl, rfl, rfl, rfl, trivial⟩ ?_
    | refine Chk.mk ⟨rfl, rfl, rfl, rfl, rfl, rfl, trivial⟩ ?_)
  refine Tri.nf (super_within 1 s.seq 549755813888 I _) ?_
  rintro _ _ _ _ ⟨rfl, rfl, rfl⟩
  by_cases c3 : 1 ≤ s.seq ∧ s.seq ≤ 549755813888
  rotate_left
  · rw [decide_eq_false c3, no (fun h => c3 ⟨h.2.2.2.2.1, h.2.2.2.2.2.1⟩)]
    exact Done.mk ⟨rfl, rfl⟩
  rw [decide_eq_true c3]
  repeat (first
    | refine LoadD.own 0 rfl _ rfl rfl ?_
    | refine LoadP.at 0 rfl _ rfl rfl ?_
    | refine StoreD.st 0 rfl rfl rfl ?_
    | refine CmpD.yes rfl ?_
    | refine CmpD.yes (by decide) ?_
    | refine CmpD.no (by decide) ?_
    | refine Chk.mk ⟨rfl, trivial⟩ ?_
    | refine Chk.mk ⟨rfl, rfl, trivial⟩ ?_
    | refine Chk.mk ⟨rfl, rfl, rfl, trivial⟩ ?_
    | refine Chk.mk ⟨rfl, rfl, rfl, rfl, trivial⟩ ?_
    | refine Chk.mk ⟨rfl, rfl, rfl, rfl, rfl, trivial⟩ ?_
    | refine Chk.mk ⟨rfl, rfl, rfl, rfl, rfl, rfl, trivial⟩ ?_)
  refine Tri.nf (super_within 0 s.tail 511 I _) ?_
  rintro _ _ _ _ ⟨rfl, rfl, rfl⟩
  have e : decide (0 ≤ s.tail ∧ s.tail ≤ 511) = decide (RightS s) := by
    by_cases h : RightS s
    · rw [decide_eq_true h, decide_eq_true ⟨h.2.2.2.2.2.2.1, h.2.2.2.2.2.2.2⟩]
    · rw [no h, decide_eq_false (fun h' => h ⟨c1.1, c1.2, c2.1, c2.2, c3.1, c3.2, h'.1, h'.2⟩)]
  rw [e]
  exact Done.mk ⟨rfl, rfl⟩
set_option maxHeartbeats 1000000 in
theorem super_Put (s : Sup) (I : Imm) : Tri Try.prog 113 #[s.v] I [] fun v J S' => I = J ∧
    ((¬ RightS s ∧ v = .tuple #[.slice none 0 0, .int .i64 2] ∧ S' = []) ∨ (RightS s ∧ ∃ a cap ch, v = .tuple #[.slice a 4096 cap, .int .i64 0] ∧ OwnB ch a 4096 cap (supL s) ∧ S' = [ch])) := by
  refine Tri.drop ?_ (fun _ _ _ _ h => h)
  refine Tri.of (args := [s.v]) tabOk Try.func113 rfl (by kernel_rfl) (by kernel_rfl) ?_
  conv => whnf
  intro b
  repeat (first
    | refine LoadD.own 0 rfl _ rfl rfl ?_
    | refine LoadP.at 0 rfl _ rfl rfl ?_
    | refine StoreD.st 0 rfl rfl rfl ?_
    | refine CmpD.yes rfl ?_
    | refine CmpD.yes (by decide) ?_
    | refine CmpD.no (by decide) ?_
    | refine Chk.mk ⟨rfl, trivial⟩ ?_
    | refine Chk.mk ⟨rfl, rfl, trivial⟩ ?_
    | refine Chk.mk ⟨rfl, rfl, rfl, trivial⟩ ?_
    | refine Chk.mk ⟨rfl, rfl, rfl, rfl, trivial⟩ ?_
    | refine Chk.mk ⟨rfl, rfl, rfl, rfl, rfl, trivial⟩ ?_
    | refine Chk.mk ⟨rfl, rfl, rfl, rfl, rfl, rfl, trivial⟩ ?_)
  refine Tri.free (super_right s I) ?_
  rintro v J _ hJ ⟨rfl, rfl⟩
  by_cases hR : RightS s
  rotate_left
  · rw [decide_eq_false hR]
    exact Done.mk ⟨[], ⟨_, List.Perm.refl _⟩, rfl, .inl ⟨hR, rfl, rfl⟩⟩
  rw [decide_eq_true hR]
  have hR2 := hR
  unfold RightS at hR2
  conv => whnf
  intro bM
  refine convMarkD tabOk rfl rfl rfl rfl 1 rfl ?_
  repeat (first
    | refine LoadD.own 0 rfl _ rfl rfl ?_
    | refine LoadD.own 1 rfl _ rfl rfl ?_
    | refine LoadP.at 0 rfl _ rfl rfl ?_
    | refine LoadP.at 1 rfl _ rfl rfl ?_
    | refine StoreD.st 0 rfl rfl rfl ?_
    | refine StoreD.st 1 rfl rfl rfl ?_
    | refine CmpD.yes rfl ?_
    | refine CmpD.yes (by decide) ?_
    | refine CmpD.no (by decide) ?_
    | refine Chk.mk ⟨rfl, trivial⟩ ?_
    | refine Chk.mk ⟨rfl, rfl, trivial⟩ ?_
    | refine Chk.mk ⟨rfl, rfl, rfl, trivial⟩ ?_
    | refine Chk.mk ⟨rfl, rfl, rfl, rfl, trivial⟩ ?_
    | refine Chk.mk ⟨rfl, rfl, rfl, rfl, rfl, trivial⟩ ?_
    | refine Chk.mk ⟨rfl, rfl, rfl, rfl, rfl, rfl, trivial⟩ ?_)
  conv => whnf
  intro bN
  obtain ⟨nB, hB⟩ : ∃ n : Nat, s.blocks = n := ⟨s.blocks.toNat, by omega⟩
  obtain ⟨nE, hE⟩ : ∃ n : Nat, s.epoch = n := ⟨s.epoch.toNat, by omega⟩
  obtain ⟨nS, hS⟩ : ∃ n : Nat, s.seq = n := ⟨s.seq.toNat, by omega⟩
  obtain ⟨nT, hTl⟩ : ∃ n : Nat, s.tail = n := ⟨s.tail.toNat, by omega⟩
  have h40 : sup40 s = magicL ++ [nB, nE, nS, nT].flatMap (fun n => be n 8) := by
    unfold sup40
    rw [hB, hE, hS, hTl]
    simp
  refine CodeF.loopD [4, 20, 21, 22] (fun vs J' S' => ∃ (i : Nat) (a : Option Addr) (cap : Nat) (ch : List Blk), i ≤ 4 ∧ S' = [[(bN, row [.int .i64 s.blocks, .int .i64 s.epoch, .int .i64 s.seq, .int .i64 s.tail] 3)], ch] ∧ SlC I S' a (8 + 8 * i) (bts (magicL ++ (([nB, nE, nS, nT] : List Nat).take i).flatMap (fun n => be n 8))) ∧ vs = [.slice a (8 + 8 * i : Nat) cap, .slice (some ⟨bN, 0, none⟩) 4 4, .int .i64 4, .int .i64 i] ∧ I = J')
    (fun vs _ _ => match vs with | [_, _, _, .int _ i] => ((4 : Int) - i).toNat | _ => 0) ?_ ?_
  · refine ⟨_, Drop.pick [2, 1] _ rfl, 0, some ⟨bM, 0, none⟩, 8, _, by omega, rfl, ⟨rfl, .inr ⟨bM, 0, rfl, _, _, _, .own 1 List.mem_cons_self, rfl, rfl⟩⟩, rfl, rfl⟩
  rintro vs gE J' S' hJ' ⟨i, a, cap, ch, hi, rfl, hsl, rfl, rfl⟩
  refine CmpD.split (fun c1 => ?_) (fun c1 => ?_)
  · have h4 : i = 0 ∨ i = 1 ∨ i = 2 ∨ i = 3 := by omega
    rcases h4 with rfl | rfl | rfl | rfl
    all_goals
      refine Chk.mk (by decide) ?_
      refine LoadD.own 0 rfl _ rfl rfl ?_
      first
        | refine ToD.to (nB : Int) (by show IntKind.u64.wrap s.blocks = _; rw [hB]; exact wrap_u64 nB (by omega)) ?_
        | refine ToD.to (nE : Int) (by show IntKind.u64.wrap s.epoch = _; rw [hE]; exact wrap_u64 nE (by omega)) ?_
        | refine ToD.to (nS : Int) (by show IntKind.u64.wrap s.seq = _; rw [hS]; exact wrap_u64 nS (by omega)) ?_
        | refine ToD.to (nT : Int) (by show IntKind.u64.wrap s.tail = _; rw [hTl]; exact wrap_u64 nT (by omega)) ?_
      refine Tri.nf (octets_Add64 I _ a _ cap _ hsl _ (by omega) (by omega)) ?_
      rintro v J2 S2 hJ2 ⟨a2, cap2, ch2, rfl, hown, rfl, rfl⟩
      refine ToD.i64 (by decide) (by decide) ?_
      first
        | refine ⟨_, Drop.pick [0, 2] _ rfl, ⟨1, a2, cap2, ch2, ?_, rfl, ?_, rfl, rfl⟩, ?_⟩
        | refine ⟨_, Drop.pick [0, 2] _ rfl, ⟨2, a2, cap2, ch2, ?_, rfl, ?_, rfl, rfl⟩, ?_⟩
        | refine ⟨_, Drop.pick [0, 2] _ rfl, ⟨3, a2, cap2, ch2, ?_, rfl, ?_, rfl, rfl⟩, ?_⟩
        | refine ⟨_, Drop.pick [0, 2] _ rfl, ⟨4, a2, cap2, ch2, ?_, rfl, ?_, rfl, rfl⟩, ?_⟩
      · decide
      · have := hown.slC1 (I := I) (S := [[(bN, row [.int .i64 s.blocks, .int .i64 s.epoch, .int .i64 s.seq, .int .i64 s.tail] 3)], ch2]) 1 rfl
        show SlC I [[(bN, row [.int .i64 s.blocks, .int .i64 s.epoch, .int .i64 s.seq, .int .i64 s.tail] 3)], ch2] a2 _ _
        simpa [List.append_assoc] using this
      · first
        | (show (4 - (((0 : Nat) : Int) + 1)).toNat < (4 - ((0 : Nat) : Int)).toNat; decide)
        | (show (4 - (((1 : Nat) : Int) + 1)).toNat < (4 - ((1 : Nat) : Int)).toNat; decide)
        | (show (4 - (((2 : Nat) : Int) + 1)).toNat < (4 - ((2 : Nat) : Int)).toNat; decide)
        | (show (4 - (((3 : Nat) : Int) + 1)).toNat < (4 - ((3 : Nat) : Int)).toNat; decide)
  · obtain rfl : i = 4 := by omega
    have h40' : magicL ++ (([nB, nE, nS, nT] : List Nat).take 4).flatMap (fun n => be n 8) = sup40 s := by rw [h40]; rfl
    rw [h40'] at hsl
    repeat (first
      | refine LoadD.own 0 rfl _ rfl rfl ?_
      | refine LoadD.own 1 rfl _ rfl rfl ?_
      | refine LoadP.at 0 rfl _ rfl rfl ?_
      | refine LoadP.at 1 rfl _ rfl rfl ?_
      | refine StoreD.st 0 rfl rfl rfl ?_
      | refine StoreD.st 1 rfl rfl rfl ?_
      | refine CmpD.yes rfl ?_
      | refine CmpD.yes (by decide) ?_
      | refine CmpD.no (by decide) ?_
      | refine Chk.mk ⟨rfl, trivial⟩ ?_
      | refine Chk.mk ⟨rfl, rfl, trivial⟩ ?_
      | refine Chk.mk ⟨rfl, rfl, rfl, trivial⟩ ?_
      | refine Chk.mk ⟨rfl, rfl, rfl, rfl, trivial⟩ ?_
      | refine Chk.mk ⟨rfl, rfl, rfl, rfl, rfl, trivial⟩ ?_
      | refine Chk.mk ⟨rfl, rfl, rfl, rfl, rfl, rfl, trivial⟩ ?_)
    refine Tri.nf (sums_Crc I _ a _ cap _ hsl (by omega)) ?_
    rintro v J2 S2 hJ2 ⟨rfl, rfl, rfl⟩
    have hcrc : crcMore 0 (sup40 s) < 4294967296 := Nat.xor_lt_two_pow (n := 32) (crcReg_lt (by decide) _) (by decide)
    refine Tri.nf (octets_Add32 I _ a _ cap _ hsl _ hcrc (by omega)) ?_
    rintro v J2 S2 hJ2 ⟨a2, cap2, ch2, rfl, hown, rfl, rfl⟩
    refine ToD.to ((4052 : Nat) : Int) (by decide) ?_
    refine appendZD tabOk rfl rfl rfl rfl rfl rfl rfl rfl 2 rfl hown 4052 rfl rfl (by decide) (by intro v hv; have hv : v ∈ [Value.int .u8 0] := hv; simp at hv; subst hv; rfl) (by show (8 + 8 * 4 + 4 + 4052) * 1 ≤ _; omega) (by omega) ?_
    intro a3 cap3 ch3 hown3
    refine Done.mk ⟨[ch3], Drop.pick [2] _ rfl, rfl, .inr ⟨hR, a3, cap3, ch3, rfl, ?_, rfl⟩⟩
    have e : bts (supL s) = bts (sup40 s ++ be (crcMore 0 (sup40 s)) 4) ++ rows 4052 [Value.int .u8 0] := by rw [rows_zero, ← bts_append]; rfl
    rw [OwnB, e]
    exact hown3
end Go.Proofs.Ytbpdbgcndfcilaa
namespace Go.Proofs.Ytbpdbgcndfcilaa
open Go.RowKit Go.Sl
set_option maxRecDepth 20000

theorem be_snoc (v n : Nat) : be v (n + 1) = be (v / 256) n ++ [UInt8.ofNat v] := by
  unfold be
  rw [List.range_succ, List.map_append, List.map_singleton]
  congr 1
  · apply List.map_congr_left
    intro i hi
    have := List.mem_range.1 hi
    congr 1
    rw [show 8 * (n + 1 - 1 - i) = 8 + 8 * (n - 1 - i) by omega, Nat.pow_add, Nat.div_div_eq_div_mul]
  · congr 2
    rw [show 8 * (n + 1 - 1 - n) = 0 by omega]; simp
theorem or_low (a b : Nat) (h : b < 256) : a * 256 ||| b = a * 256 + b := by
  have := Nat.shiftLeft_add_eq_or_of_lt (i := 8) (b := b) (by omega) a
  rw [Nat.shiftLeft_eq] at this
  exact this.symm
theorem nb_be : ∀ (n v : Nat), v < 256 ^ n → nb (be v n) = v
  | 0, v, h => by simp [be, nb] at *; omega
  | n + 1, v, h => by
    rw [be_snoc, nb_snoc, nb_be n (v / 256) (by rw [Nat.pow_succ] at h; omega)]
    have e : (UInt8.ofNat v).toNat = v % 256 := by simp [UInt8.toNat_ofNat']
    rw [e, or_low _ _ (by omega)]; omega
theorem supL_at (s : Sup) : ((supL s).drop 8).take 8 = be s.blocks.toNat 8 ∧ ((supL s).drop 16).take 8 = be s.epoch.toNat 8 ∧ ((supL s).drop 24).take 8 = be s.seq.toNat 8 ∧ ((supL s).drop 32).take 8 = be s.tail.toNat 8 := by
  have key : ∀ (x y z : Dat) (k : Nat), x.length = k → y.length = 8 → ((x ++ y ++ z).drop k).take 8 = y := by
    intro x y z k hx hy
    subst hx
    rw [List.append_assoc, List.drop_left, ← hy, List.take_left]
  refine ⟨?_, ?_, ?_, ?_⟩
  · rw [show supL s = magicL ++ be s.blocks.toNat 8 ++ (be s.epoch.toNat 8 ++ be s.seq.toNat 8 ++ be s.tail.toNat 8 ++ be (crcMore 0 (sup40 s)) 4 ++ List.replicate 4052 0) by simp [supL, sup44, sup40]]
    exact key _ _ _ _ rfl (be_length _ _)
  · rw [show supL s = (magicL ++ be s.blocks.toNat 8) ++ be s.epoch.toNat 8 ++ (be s.seq.toNat 8 ++ be s.tail.toNat 8 ++ be (crcMore 0 (sup40 s)) 4 ++ List.replicate 4052 0) by simp [supL, sup44, sup40]]
    exact key _ _ _ _ (by simp [be_length, magicL]) (be_length _ _)
  · rw [show supL s = (magicL ++ be s.blocks.toNat 8 ++ be s.epoch.toNat 8) ++ be s.seq.toNat 8 ++ (be s.tail.toNat 8 ++ be (crcMore 0 (sup40 s)) 4 ++ List.replicate 4052 0) by simp [supL, sup44, sup40]]
    exact key _ _ _ _ (by simp [be_length, magicL]) (be_length _ _)
  · rw [show supL s = (magicL ++ be s.blocks.toNat 8 ++ be s.epoch.toNat 8 ++ be s.seq.toNat 8) ++ be s.tail.toNat 8 ++ (be (crcMore 0 (sup40 s)) 4 ++ List.replicate 4052 0) by simp [supL, sup44, sup40]]
    exact key _ _ _ _ (by simp [be_length, magicL]) (be_length _ _)
/-- what bytes say, read -/
def decS (b : Dat) : Sup := ⟨IntKind.i64.wrap ((numV b 8 8).1 : Int), IntKind.i64.wrap ((numV b 16 8).1 : Int), IntKind.i64.wrap ((numV b 24 8).1 : Int), IntKind.i64.wrap ((numV b 32 8).1 : Int)⟩
theorem dec_supL (s : Sup) (h : RightS s) : decS (supL s) = s := by
  obtain ⟨h1, h2, h3, h4, h5, h6, h7, h8⟩ := h
  obtain ⟨a1, a2, a3, a4⟩ := supL_at s
  have key : ∀ (k : Nat) (x : Int), ((supL s).drop k).take 8 = be x.toNat 8 → k ≤ 4000 → 0 ≤ x → x ≤ 549755813888 → IntKind.i64.wrap ((numV (supL s) k 8).1 : Int) = x := by
    intro k x hx hk h0 hm
    unfold numV
    rw [if_neg (by rw [supL_length]; omega)]
    show IntKind.i64.wrap ((nb (((supL s).drop ((k : Int)).toNat).take 8) : Nat) : Int) = x
    rw [show ((k : Int)).toNat = k from rfl, hx, nb_be 8 _ (by omega), wrap_i64 (by omega) (by omega)]
    omega
  unfold decS
  rw [show (8 : Int) = ((8 : Nat) : Int) from rfl, show (16 : Int) = ((16 : Nat) : Int) from rfl, show (24 : Int) = ((24 : Nat) : Int) from rfl, show (32 : Int) = ((32 : Nat) : Int) from rfl,
    key 8 s.blocks a1 (by omega) (by omega) (by omega), key 16 s.epoch a2 (by omega) (by omega) (by omega), key 24 s.seq a3 (by omega) (by omega) (by omega), key 32 s.tail a4 (by omega) (by omega) (by omega)]
def getS (b : Dat) : Option Sup := if RightS (decS b) ∧ supL (decS b) = b then some (decS b) else none
theorem getS_some {b : Dat} {s : Sup} : getS b = some s ↔ RightS s ∧ supL s = b := by
  unfold getS
  constructor
  · intro h
    split at h
    · rename_i h1; cases h; exact h1
    · cases h
  · rintro ⟨h1, h2⟩
    have : decS b = s := by rw [← h2, dec_supL s h1]
    rw [this, if_pos ⟨h1, h2⟩]
@[reducible] def getV (r : Option Sup) : Value := match r with
  | some s => .tuple #[s.v, .int .i64 0]
  | none => .tuple #[Sup.v ⟨0, 0, 0, 0⟩, .int .i64 30]
set_option maxHeartbeats 1000000 in
theorem super_Get {I : Imm} {a : Option Addr} {len cap : Nat} {b : Dat} (h : Rds I a len (bts b)) (hlen : len ≤ 1000000000) : Tri Try.prog 111 #[.slice a len cap] I [] fun v J _ => I = J ∧ v = getV (getS b) := by
  refine Tri.of (args := [.slice a len cap]) tabOk Try.func111 rfl (by kernel_rfl) (by kernel_rfl) ?_
  conv => whnf
  intro b2
  conv => whnf
  intro b4
  refine CodeF.loopD [0, 2, 4, 11] (fun vs J' S' => ∃ (i : Nat), i ≤ 4 ∧ vs = [.slice a len cap, .pointer (some ⟨b2, 0, none⟩), .pointer (some ⟨b4, 0, none⟩), .int .i64 i] ∧ I = J' ∧
      S' = [[(b2, row [.int .i64 0, .int .i64 0, .int .i64 0, .int .i64 0] 56)], [(b4, row ((List.range 4).map fun (j : Nat) => Value.int .i64 (if j < i then IntKind.i64.wrap ((numV b (8 + 8 * j) 8).1 : Int) else 0)) 198)]])
    (fun vs _ _ => match vs with | [_, _, _, .int _ i] => ((4 : Int) - i).toNat | _ => 0) ?_ ?_
  · exact ⟨_, Drop.refl _, 0, by omega, rfl, rfl, rfl⟩
  rintro vs gE J' S' hJ' ⟨i, hi, rfl, rfl, rfl⟩
  refine CmpD.split (fun c1 => ?_) (fun c1 => ?_)
  · have h4 : i = 0 ∨ i = 1 ∨ i = 2 ∨ i = 3 := by omega
    rcases h4 with rfl | rfl | rfl | rfl
    all_goals
      refine ToD.i64 (by decide) (by decide) ?_
      refine ToD.i64 (by decide) (by decide) ?_
      refine Tri.nf (octets_U64 (l := b) h.slC hlen _ (by unfold In64; decide)) ?_
      rintro v J2 S2 hJ2 ⟨rfl, rfl, rfl⟩
      refine ToD.keep ?_
      refine Chk.mk (by decide) ?_
      refine StoreD.st 1 rfl rfl rfl ?_
      refine ToD.i64 (by decide) (by decide) ?_
      first
        | refine ⟨_, Drop.refl _, ⟨1, by omega, rfl, rfl, rfl⟩, ?_⟩
        | refine ⟨_, Drop.refl _, ⟨2, by omega, rfl, rfl, rfl⟩, ?_⟩
        | refine ⟨_, Drop.refl _, ⟨3, by omega, rfl, rfl, rfl⟩, ?_⟩
        | refine ⟨_, Drop.refl _, ⟨4, by omega, rfl, rfl, rfl⟩, ?_⟩
      first
        | (show (4 - (((0 : Nat) : Int) + 1)).toNat < (4 - ((0 : Nat) : Int)).toNat; decide)
        | (show (4 - (((1 : Nat) : Int) + 1)).toNat < (4 - ((1 : Nat) : Int)).toNat; decide)
        | (show (4 - (((2 : Nat) : Int) + 1)).toNat < (4 - ((2 : Nat) : Int)).toNat; decide)
        | (show (4 - (((3 : Nat) : Int) + 1)).toNat < (4 - ((3 : Nat) : Int)).toNat; decide)
  · obtain rfl : i = 4 := by omega
    have e4 : ((List.range 4).map fun (j : Nat) => Value.int .i64 (if j < 4 then IntKind.i64.wrap ((numV b (8 + 8 * j) 8).1 : Int) else 0)) = [.int .i64 (decS b).blocks, .int .i64 (decS b).epoch, .int .i64 (decS b).seq, .int .i64 (decS b).tail] := rfl
    rw [e4]
    clear e4
    repeat (first
      | refine LoadD.own 0 rfl _ rfl rfl ?_
      | refine LoadD.own 1 rfl _ rfl rfl ?_
      | refine LoadP.at 0 rfl _ rfl rfl ?_
      | refine LoadP.at 1 rfl _ rfl rfl ?_
      | refine StoreD.st 0 rfl rfl rfl ?_
      | refine StoreD.st 1 rfl rfl rfl ?_
      | refine CmpD.yes rfl ?_
      | refine CmpD.yes (by decide) ?_
      | refine CmpD.no (by decide) ?_
      | refine Chk.mk ⟨rfl, trivial⟩ ?_
      | refine Chk.mk ⟨rfl, rfl, trivial⟩ ?_
      | refine Chk.mk ⟨rfl, rfl, rfl, trivial⟩ ?_
      | refine Chk.mk ⟨rfl, rfl, rfl, rfl, trivial⟩ ?_
      | refine Chk.mk ⟨rfl, rfl, rfl, rfl, rfl, trivial⟩ ?_
      | refine Chk.mk ⟨rfl, rfl, rfl, rfl, rfl, rfl, trivial⟩ ?_
      | refine ToD.i64 (by omega) (by omega) ?_
      | refine Chk.mk (by omega) ?_
      | refine CmpD.yes (by omega) ?_
      | refine CmpD.no (by omega) ?_)
    conv => whnf
    intro b8
    repeat (first
      | refine LoadD.own 0 rfl _ rfl rfl ?_
      | refine LoadD.own 1 rfl _ rfl rfl ?_
      | refine LoadD.own 2 rfl _ rfl rfl ?_
      | refine LoadP.at 0 rfl _ rfl rfl ?_
      | refine LoadP.at 1 rfl _ rfl rfl ?_
      | refine LoadP.at 2 rfl _ rfl rfl ?_
      | refine StoreD.st 0 rfl rfl rfl ?_
      | refine StoreD.st 1 rfl rfl rfl ?_
      | refine StoreD.st 2 rfl rfl rfl ?_
      | refine CmpD.yes rfl ?_
      | refine CmpD.yes (by decide) ?_
      | refine CmpD.no (by decide) ?_
      | refine Chk.mk ⟨rfl, trivial⟩ ?_
      | refine Chk.mk ⟨rfl, rfl, trivial⟩ ?_
      | refine Chk.mk ⟨rfl, rfl, rfl, trivial⟩ ?_
      | refine Chk.mk ⟨rfl, rfl, rfl, rfl, trivial⟩ ?_
      | refine Chk.mk ⟨rfl, rfl, rfl, rfl, rfl, trivial⟩ ?_
      | refine Chk.mk ⟨rfl, rfl, rfl, rfl, rfl, rfl, trivial⟩ ?_)
    refine Tri.frameX (super_Put (decS b) I) [] rfl rfl ?_
    unfold getS
    rintro v J2 S2 hJ2 ⟨rfl, ⟨hR, rfl, rfl⟩ | ⟨hR, a2, cap2, ch2, rfl, hown, rfl⟩⟩
    · rw [if_neg (fun h => hR h.1)]
      repeat (first
        | refine LoadD.own 0 rfl _ rfl rfl ?_
        | refine LoadD.own 1 rfl _ rfl rfl ?_
        | refine LoadD.own 2 rfl _ rfl rfl ?_
        | refine LoadP.at 0 rfl _ rfl rfl ?_
        | refine LoadP.at 1 rfl _ rfl rfl ?_
        | refine LoadP.at 2 rfl _ rfl rfl ?_
        | refine StoreD.st 0 rfl rfl rfl ?_
        | refine StoreD.st 1 rfl rfl rfl ?_
        | refine StoreD.st 2 rfl rfl rfl ?_
        | refine CmpD.yes rfl ?_
        | refine CmpD.yes (by decide) ?_
        | refine CmpD.no (by decide) ?_
        | refine Chk.mk ⟨rfl, trivial⟩ ?_
        | refine Chk.mk ⟨rfl, rfl, trivial⟩ ?_
        | refine Chk.mk ⟨rfl, rfl, rfl, trivial⟩ ?_
        | refine Chk.mk ⟨rfl, rfl, rfl, rfl, trivial⟩ ?_
        | refine Chk.mk ⟨rfl, rfl, rfl, rfl, rfl, trivial⟩ ?_
        | refine Chk.mk ⟨rfl, rfl, rfl, rfl, rfl, rfl, trivial⟩ ?_)
      exact Done.mk ⟨rfl, rfl⟩
    · repeat (first
        | refine LoadD.own 0 rfl _ rfl rfl ?_
        | refine LoadD.own 1 rfl _ rfl rfl ?_
        | refine LoadD.own 2 rfl _ rfl rfl ?_
        | refine LoadP.at 0 rfl _ rfl rfl ?_
        | refine LoadP.at 1 rfl _ rfl rfl ?_
        | refine LoadP.at 2 rfl _ rfl rfl ?_
        | refine StoreD.st 0 rfl rfl rfl ?_
        | refine StoreD.st 1 rfl rfl rfl ?_
        | refine StoreD.st 2 rfl rfl rfl ?_
        | refine CmpD.yes rfl ?_
        | refine CmpD.yes (by decide) ?_
        | refine CmpD.no (by decide) ?_
        | refine Chk.mk ⟨rfl, trivial⟩ ?_
        | refine Chk.mk ⟨rfl, rfl, trivial⟩ ?_
        | refine Chk.mk ⟨rfl, rfl, rfl, trivial⟩ ?_
        | refine Chk.mk ⟨rfl, rfl, rfl, rfl, trivial⟩ ?_
        | refine Chk.mk ⟨rfl, rfl, rfl, rfl, rfl, trivial⟩ ?_
        | refine Chk.mk ⟨rfl, rfl, rfl, rfl, rfl, rfl, trivial⟩ ?_)
      refine Tri.nf (bytes_Equal (l1 := supL (decS b)) (l2 := b) ?_ ?_) ?_
      · exact hown.slC1 3 rfl
      · exact h.slC
      rintro v J3 S3 hJ3 ⟨rfl, rfl, rfl⟩
      by_cases hb : supL (decS b) = b
      · rw [decide_eq_true hb, if_pos ⟨hR, hb⟩]
        repeat (first
          | refine LoadD.own 0 rfl _ rfl rfl ?_
          | refine LoadD.own 1 rfl _ rfl rfl ?_
          | refine LoadD.own 2 rfl _ rfl rfl ?_
          | refine LoadP.at 0 rfl _ rfl rfl ?_
          | refine LoadP.at 1 rfl _ rfl rfl ?_
          | refine LoadP.at 2 rfl _ rfl rfl ?_
          | refine StoreD.st 0 rfl rfl rfl ?_
          | refine StoreD.st 1 rfl rfl rfl ?_
          | refine StoreD.st 2 rfl rfl rfl ?_
          | refine CmpD.yes rfl ?_
          | refine CmpD.yes (by decide) ?_
          | refine CmpD.no (by decide) ?_
          | refine Chk.mk ⟨rfl, trivial⟩ ?_
          | refine Chk.mk ⟨rfl, rfl, trivial⟩ ?_
          | refine Chk.mk ⟨rfl, rfl, rfl, trivial⟩ ?_
          | refine Chk.mk ⟨rfl, rfl, rfl, rfl, trivial⟩ ?_
          | refine Chk.mk ⟨rfl, rfl, rfl, rfl, rfl, trivial⟩ ?_
          | refine Chk.mk ⟨rfl, rfl, rfl, rfl, rfl, rfl, trivial⟩ ?_)
        exact Done.mk ⟨rfl, rfl⟩
      · rw [decide_eq_false hb, if_neg (fun h => hb h.2)]
        repeat (first
          | refine LoadD.own 0 rfl _ rfl rfl ?_
          | refine LoadD.own 1 rfl _ rfl rfl ?_
          | refine LoadD.own 2 rfl _ rfl rfl ?_
          | refine LoadP.at 0 rfl _ rfl rfl ?_
          | refine LoadP.at 1 rfl _ rfl rfl ?_
          | refine LoadP.at 2 rfl _ rfl rfl ?_
          | refine StoreD.st 0 rfl rfl rfl ?_
          | refine StoreD.st 1 rfl rfl rfl ?_
          | refine StoreD.st 2 rfl rfl rfl ?_
          | refine CmpD.yes rfl ?_
          | refine CmpD.yes (by decide) ?_
          | refine CmpD.no (by decide) ?_
          | refine Chk.mk ⟨rfl, trivial⟩ ?_
          | refine Chk.mk ⟨rfl, rfl, trivial⟩ ?_
          | refine Chk.mk ⟨rfl, rfl, rfl, trivial⟩ ?_
          | refine Chk.mk ⟨rfl, rfl, rfl, rfl, trivial⟩ ?_
          | refine Chk.mk ⟨rfl, rfl, rfl, rfl, rfl, trivial⟩ ?_
          | refine Chk.mk ⟨rfl, rfl, rfl, rfl, rfl, rfl, trivial⟩ ?_)
        exact Done.mk ⟨rfl, rfl⟩
end Go.Proofs.Ytbpdbgcndfcilaa
namespace Go.Proofs.Ytbpdbgcndfcilaa
open Go.RowKit Go.Sl
set_option maxRecDepth 20000

theorem ext4096 {x y : Dat} (hx : x.length = 4096) (hy : y.length = 4096) (h : ∀ j, j < 4096 → x[j]? = y[j]?) : x = y := by
  apply List.ext_getElem?
  intro i
  rcases Nat.lt_or_ge i 4096 with g | g
  · exact h i g
  · rw [List.getElem?_eq_none (by omega), List.getElem?_eq_none (by omega)]
end Go.Proofs.Ytbpdbgcndfcilaa
namespace Go.Proofs.Ytbpdbgcndfcilaa
open Go.RowKit Go.Sl
set_option maxRecDepth 20000

def hblk (e s : Nat) (l : List PImg) : Dat := sprK (stampB e s) (headP l) 8
/-! ### a group read back -/
end Go.Proofs.Ytbpdbgcndfcilaa
namespace Go.Proofs.Ytbpdbgcndfcilaa
open Go.RowKit Go.Sl
set_option maxRecDepth 20000

theorem bts_set {x y : Dat} {p : Nat} {v : UInt8} (hp : p < x.length) (h : y = x.set p v) : bts y = (bts x).take p ++ [byte v] ++ (bts x).drop (p + 1) := by
  subst h
  rw [List.set_eq_take_append_cons_drop, if_pos hp]
  simp [bts, List.map_take, List.map_drop]
def gen (f g : Nat → UInt8) (q : Nat) : Dat := (List.range 4096).map fun j => if j < q then f j else g j
theorem gen_length (f g : Nat → UInt8) (q : Nat) : (gen f g q).length = 4096 := by simp [gen]
theorem gen_get (f g : Nat → UInt8) (q : Nat) {j : Nat} (h : j < 4096) : (gen f g q)[j]? = some (if j < q then f j else g j) := by simp [gen, h]
theorem getD_get {l : Dat} {j : Nat} (h : j < l.length) : l[j]? = some (l.getD j 0) := by
  rw [List.getD_eq_getElem?_getD, List.getElem?_eq_getElem h]; rfl
theorem gen_zero (f : Nat → UInt8) {l : Dat} (hl : l.length = 4096) : gen f (fun j => l.getD j 0) 0 = l := by
  refine ext4096 (gen_length _ _ _) hl fun j hj => ?_
  rw [gen_get _ _ _ hj, if_neg (by omega), getD_get (by omega)]
theorem gen_step (f g : Nat → UInt8) {q : Nat} (hq : q < 4096) : gen f g (q + 1) = (gen f g q).set q (f q) := by
  apply List.ext_getElem?
  intro j
  rcases Nat.lt_or_ge j 4096 with hj | hj
  · rw [gen_get _ _ _ hj]
    by_cases h2 : q = j
    · subst h2; rw [List.getElem?_set_self (by rw [gen_length]; exact hq), if_pos (by omega)]
    · rw [List.getElem?_set_ne h2, gen_get _ _ _ hj]
      by_cases h1 : j < q
      · rw [if_pos h1, if_pos (by omega)]
      · rw [if_neg h1, if_neg (by omega)]
  · rw [List.getElem?_eq_none (by rw [gen_length]; exact hj), List.getElem?_eq_none (by rw [List.length_set, gen_length]; exact hj)]
/-- gathered, byte by byte -/
def cq (q : Nat) : Nat := q / 512 * 504 + (q % 512 - 8)
end Go.Proofs.Ytbpdbgcndfcilaa
namespace Go.Proofs.Ytbpdbgcndfcilaa
open Go.RowKit Go.Sl
set_option maxRecDepth 20000

/-- a list of 4096 bytes in a block of its own -/
structure AB where
  b : Nat
  pre : List Value
  post : List Value
  T : TypeId
  cap : Nat
  data : Dat
def AB.ch (x : AB) : List Blk := [(x.b, row (x.pre ++ bts x.data ++ x.post) x.T)]
@[reducible] def AB.cell (x : AB) : Value := .slice (some ⟨x.b, x.pre.length, none⟩) 4096 x.cap
structure AB.Ok (x : AB) : Prop where
  len : x.data.length = 4096
  cap : 4096 ≤ x.cap
  post : x.post.length = x.cap - 4096
def AB.with (x : AB) (d : Dat) : AB := { x with data := d }
def mkL (k n : Nat) : Dat := (List.range n).map (mkB k)
theorem mkL_length (k n : Nat) : (mkL k n).length = n := by simp [mkL]
theorem gen_mkL (k : Nat) (g : Nat → UInt8) : gen (mkB k) g 4096 = mkL k 4096 := by
  unfold gen mkL
  apply List.map_congr_left
  intro j hj
  rw [if_pos (List.mem_range.1 hj)]
theorem AB.own {x : AB} (h : x.Ok) : OwnB x.ch (some ⟨x.b, x.pre.length, none⟩) 4096 x.cap x.data :=
  ⟨by rw [bts_length, h.len], h.cap, .inr ⟨x.b, x.pre, x.post, x.T, rfl, rfl, by rw [h.post]; omega⟩⟩
theorem AB.of {ch : List Blk} {a : Option Addr} {cap : Nat} {l : Dat} (h : OwnB ch a 4096 cap l) : ∃ x : AB, x.Ok ∧ ch = x.ch ∧ x.cell = .slice a 4096 cap ∧ x.data = l := by
  have hle := h.le
  have hn := h.n
  rw [bts_length] at hn
  rcases h.at' with q | ⟨b, pre, post, T, rfl, rfl, hp⟩
  · omega
  · exact ⟨⟨b, pre, post, T, cap, l⟩, ⟨by show l.length = _; omega, hle, by show post.length = cap - 4096; omega⟩, rfl, rfl, rfl⟩
theorem map_get {ys : List AB} {k : Nat} (h : k < ys.length) (R : St) : (ys.map AB.ch ++ R)[k]? = some (ys[k]).ch := by
  rw [List.getElem?_append_left (by rw [List.length_map]; exact h), List.getElem?_map, List.getElem?_eq_getElem h]; rfl
theorem map_set {ys : List AB} {k : Nat} (h : k < ys.length) (R : St) (y : AB) : (ys.map AB.ch ++ R).set k y.ch = (ys.set k y).map AB.ch ++ R := by
  rw [List.set_append_left _ _ (by rw [List.length_map]; exact h), List.map_set]
end Go.Proofs.Ytbpdbgcndfcilaa
namespace Go.Sl
open Go.RowKit
theorem SlC.lift {I : Imm} {S S' : St} {a : Option Addr} {n : Nat} {vs : List Value} (h : SlC I S a n vs) (hS : ∀ b o, In I S b o → In I S' b o) : SlC I S' a n vs := by
  refine ⟨h.len, h.mem.imp id ?_⟩
  rintro ⟨b, off, ha, hc⟩
  obtain ⟨c, T, fr, hin, h1, h2⟩ := hc.ex
  exact ⟨b, off, ha, ⟨c, T, fr, hS _ _ hin, h1, h2⟩⟩
theorem SlC.at {I : Imm} {S : St} {c : List Blk} {a : Option Addr} {n : Nat} {vs : List Value} (h : SlC I [c] a n vs) (k : Nat) (hk : S[k]? = some c) : SlC I S a n vs := by
  refine h.lift ?_
  intro b o hin
  cases hin with
  | imm h => exact .imm h
  | own j h =>
    refine .own k ?_
    rw [List.getD_eq_getElem?_getD, hk]
    cases j with
    | zero => simpa using h
    | succ j => simp at h
theorem SlC.sub {I : Imm} {c c' : List Blk} {a : Option Addr} {n : Nat} {vs : List Value} (h : SlC I [c] a n vs) (hs : ∀ x ∈ c, x ∈ c') : SlC I [c'] a n vs := by
  refine h.lift ?_
  intro b o hin
  cases hin with
  | imm h => exact .imm h
  | own j h =>
    refine .own 0 ?_
    cases j with
    | zero => exact hs _ (by simpa using h)
    | succ j => simp at h
theorem SlC.first {I : Imm} {S : St} {a : Option Addr} {n : Nat} {vs : List Value} (h : SlC I S a n vs) {m : Nat} (hm : m ≤ n) : SlC I S a m (vs.take m) := by
  refine ⟨by rw [List.length_take, h.len]; omega, ?_⟩
  rcases h.mem with h0 | ⟨b, off, ha, hc⟩
  · left; omega
  · right
    have := hc.part (i := 0) (m := m) (by omega)
    exact ⟨b, off, ha, by simpa using this⟩
theorem Drop.mid (S : St) (x y : List Blk) : Drop (S ++ [x] ++ [y]) (S ++ [y]) := by
  refine ⟨x, ?_⟩
  simp only [List.flatten_append, List.flatten_cons, List.flatten_nil, List.append_nil, List.append_assoc]
  exact List.Perm.append_left _ List.perm_append_comm
theorem Drop.fold (S : St) (k : Nat) (c x g : List Blk) (hk : k < S.length) : Drop (S.set k c ++ [g] ++ [x]) (S.set k (c ++ x) ++ [g]) := by
  refine ⟨[], ?_⟩
  rw [List.append_nil]
  have h1 := set_flatten_perm (S.set k c) k (by rw [List.length_set]; exact hk)
  have h2 := set_flatten_perm (S.set k (c ++ x)) k (by rw [List.length_set]; exact hk)
  have e1 : (S.set k c).getD k [] = c := by simp [List.getD, hk]
  have e2 : (S.set k (c ++ x)).getD k [] = c ++ x := by simp [List.getD, hk]
  rw [e1, List.set_set] at h1
  rw [e2, List.set_set] at h2
  simp only [List.flatten_append, List.flatten_cons, List.flatten_nil, List.append_nil]
  refine (List.Perm.append_right _ (List.Perm.append_right _ h1)).trans ?_
  refine List.Perm.trans ?_ (List.Perm.append_right _ h2).symm
  simp only [List.append_assoc]
  refine List.Perm.append_left _ ?_
  generalize (S.set k []).flatten = Z
  rw [← List.append_assoc Z g x]
  exact List.perm_append_comm
end Go.Sl
namespace Go.Proofs.Ytbpdbgcndfcilaa
open Go.RowKit Go.Sl
set_option maxRecDepth 20000

theorem rows_rep (v : Value) : ∀ (n : Nat), rows n [v] = List.replicate n v
  | 0 => rfl
  | n + 1 => by
    have := rows_rep v n
    unfold rows at this ⊢
    rw [List.replicate_succ, List.flatten_cons, this, List.replicate_succ]; rfl
theorem splice_set {c : List Value} {k : Nat} {v : Value} (h : k < c.length) : splice c k [v] = c.set k v := by
  unfold splice
  rw [List.set_eq_take_append_cons_drop, if_pos h]; simp
theorem drop_take1 {c : List Value} {k : Nat} {v : Value} (h : c[k]? = some v) : (c.drop k).take 1 = [v] := by
  obtain ⟨h1, rfl⟩ := List.getElem?_eq_some_iff.1 h
  rw [List.drop_eq_getElem_cons h1]; rfl
theorem mkL_succ (k n : Nat) : mkL k (n + 1) = mkL k n ++ [mkB k n] := by simp [mkL, List.range_succ]
theorem mkL_take (k n m : Nat) (h : m ≤ n) : (mkL k n).take m = mkL k m := by
  unfold mkL
  rw [← List.map_take, List.take_range, Nat.min_eq_left h]
theorem mkL_get (k n i : Nat) (h : i < n) : (bts (mkL k n))[i]? = some (byte (mkB k i)) := by
  unfold mkL bts
  simp [h]
@[reducible] def AB.addr (y : AB) : Option Addr := some ⟨y.b, y.pre.length, none⟩
/-- what a list's chunk holds when it was appended to -/
def Gd (I : Imm) (k : Nat) (c : List Blk) (y : AB) (g : Value) : Prop := ∃ a cap, g = .slice a 4136 cap ∧ SlC I [c] a 4136 (bts (mkL k 4136)) ∧ SlC I [c] y.addr 4096 (bts (mkL k 4096))
/-- all lists, the first k of them appended to -/
def Gs (I : Imm) (k : Nat) (cs : St) (ys : List AB) (gv : List Value) : Prop := cs.length = ys.length ∧ gv.length = ys.length ∧
  ∀ (j : Nat) (y : AB) (c : List Blk) (g : Value), ys[j]? = some y → cs[j]? = some c → gv[j]? = some g → (j < k → Gd I j c y g) ∧ (k ≤ j → c = y.ch)
theorem Gs.start (I : Imm) (ys : List AB) : Gs I 0 (ys.map AB.ch) ys (List.replicate ys.length (.slice none 0 0)) := by
  refine ⟨by simp, by simp, fun j y c g h1 h2 h3 => ⟨fun h => by omega, fun _ => ?_⟩⟩
  rw [List.getElem?_map, h1] at h2
  exact (Option.some.inj h2).symm
theorem Gs.step {I : Imm} {k : Nat} {cs : St} {ys : List AB} {gv : List Value} (h : Gs I k cs ys gv) {y : AB} (hy : ys[k]? = some y) {c : List Blk} {g : Value} (hg : Gd I k c y g) : Gs I (k + 1) (cs.set k c) ys (gv.set k g) := by
  obtain ⟨h1, h2, h3⟩ := h
  have hk : k < ys.length := (List.getElem?_eq_some_iff.1 hy).1
  refine ⟨by rw [List.length_set, h1], by rw [List.length_set, h2], fun j y' c' g' e1 e2 e3 => ?_⟩
  by_cases hj : k = j
  · subst hj
    rw [List.getElem?_set_self (by omega)] at e2 e3
    rw [hy] at e1
    cases e1; cases e2; cases e3
    exact ⟨fun _ => hg, fun h => by omega⟩
  · rw [List.getElem?_set_ne hj] at e2 e3
    obtain ⟨q1, q2⟩ := h3 j y' c' g' e1 e2 e3
    exact ⟨fun h => q1 (by omega), fun h => q2 (by omega)⟩
theorem Gd.here {I : Imm} {k : Nat} {y : AB} {ch : List Blk} {cap : Nat} (h : OwnB ch y.addr 4136 cap (mkL k 4136)) : Gd I k ch y (.slice y.addr 4136 cap) := by
  have hs := h.slC (I := I) (S := [ch]) 0 rfl
  rw [Nat.mul_one] at hs
  refine ⟨_, _, rfl, hs, ?_⟩
  have := hs.first (m := 4096) (by omega)
  rw [show (bts (mkL k 4136)).take 4096 = bts (mkL k 4096) by rw [← mkL_take k 4136 4096 (by omega)]; unfold bts; rw [List.map_take]] at this
  exact this
theorem Gd.old {I : Imm} {k q : Nat} {y : AB} {ch : List Blk} {cap : Nat} (h : OwnB ch y.addr (4096 + q) cap (mkL k (4096 + q))) : SlC I [ch] y.addr 4096 (bts (mkL k 4096)) := by
  have hs := h.slC (I := I) (S := [ch]) 0 rfl
  have := hs.first (m := 4096) (by omega)
  rw [show (bts (mkL k (4096 + q))).take 4096 = bts (mkL k 4096) by rw [← mkL_take k (4096 + q) 4096 (by omega)]; unfold bts; rw [List.map_take]] at this
  exact this
theorem Gd.away {I : Imm} {k : Nat} {y : AB} {c : List Blk} (hc : SlC I [c] y.addr 4096 (bts (mkL k 4096))) {ch : List Blk} {a : Option Addr} {cap : Nat} (h : OwnB ch a 4136 cap (mkL k 4136)) : Gd I k (c ++ ch) y (.slice a 4136 cap) := by
  have hs := h.slC (I := I) (S := [ch]) 0 rfl
  exact ⟨_, _, rfl, hs.sub (fun x hx => List.mem_append_right _ hx), hc.sub (fun x hx => List.mem_append_left _ hx)⟩
end Go.Proofs.Ytbpdbgcndfcilaa
namespace Go.Proofs.Ytbpdbgcndfcilaa
open Go.RowKit Go.Sl
set_option maxRecDepth 20000

set_option maxHeartbeats 8000000 in
theorem apart (I : Imm) (xs : List AB) (hok : ∀ x ∈ xs, x.Ok) (aL : Option Addr) (capL : Nat) (hL : Rds I aL xs.length (xs.map AB.cell)) (hn : xs.length ≤ 1000) :
    Tri Try.prog 53 #[.slice aL xs.length capL] I (xs.map AB.ch) fun v _ _ => v = .bool true := by
  refine Tri.of (args := [.slice aL xs.length capL]) tabOk Try.func53 rfl (by kernel_rfl) (by kernel_rfl) ?_
  refine makeD tabOk rfl rfl rfl xs.length xs.length rfl rfl (Nat.le_refl _) (by show 24 * xs.length ≤ _; omega) (by omega) (by show xs.length * 1 ≤ _; omega) rfl (by decide) ?_
  intro bG
  obtain ⟨G, hG⟩ : ∃ G : List Blk, G = [(bG, row (rows xs.length [.slice none 0 0]) 60)] := ⟨_, rfl⟩
  refine CodeF.loopD [0, 3, 4] (fun vs J' S' => ∃ (k : Nat) (ys : List AB), k ≤ xs.length ∧ ys.length = xs.length ∧ ys.map AB.cell = xs.map AB.cell ∧ (∀ y ∈ ys, y.Ok) ∧ (∀ (j : Nat) (h : j < ys.length), j < k → ys[j].data = mkL j 4096) ∧ I = J' ∧
      vs = [.slice aL xs.length capL, .slice (some ⟨bG, 0, none⟩) xs.length xs.length, .int .i64 k] ∧ S' = ys.map AB.ch ++ [G])
    (fun vs _ _ => match vs with | [_, _, .int _ k] => ((xs.length : Int) - k).toNat | _ => 0) ?_ ?_
  · refine ⟨_, Drop.refl _, 0, xs, by omega, rfl, rfl, hok, fun j h h0 => by omega, rfl, rfl, ?_⟩
    rw [hG]; rfl
  rintro vs gE J' S' hJ' ⟨k, ys, hk, hyl, hyc, hyo, hyd, rfl, rfl, rfl⟩
  refine CmpD.split (fun c1 => ?_) (fun c1 => ?_)
  · have hky : k < ys.length := by omega
    have hcell : (xs.map AB.cell)[k]? = some (ys[k]).cell := by rw [← hyc, List.getElem?_map, List.getElem?_eq_getElem hky]; rfl
    have hko := hyo _ (List.getElem_mem hky)
    obtain ⟨y, hy⟩ : ∃ y, y = ys[k] := ⟨_, rfl⟩
    rw [← hy] at hcell hko
    rcases hL.mem with q0 | ⟨bL, oL, cL, TL, fL, rfl, hIL, hcL⟩
    · omega
    obtain ⟨D, hD0, hDs, hgl, hDa⟩ : ∃ D : Nat → Dat, D 0 = y.data ∧ (∀ q, q < 4096 → D (q + 1) = (D q).set q (mkB k q)) ∧ (∀ q, (D q).length = 4096) ∧ D 4096 = mkL k 4096 :=
      ⟨gen (mkB k) (fun j => y.data.getD j 0), gen_zero _ hko.len, fun q hq => gen_step _ _ hq, fun q => gen_length _ _ q, gen_mkL _ _⟩
    have hml := mkL_length k 4096
    obtain ⟨mk, hmk⟩ : ∃ mk, mk = mkL k 4096 := ⟨_, rfl⟩
    rw [← hmk] at hDa hml
    refine CodeF.loopD [0, 3, 4, 5] (fun vs J' S' => ∃ (q : Nat), q ≤ 4096 ∧ I = J' ∧
        vs = [.slice (some ⟨bL, oL, none⟩) xs.length capL, .slice (some ⟨bG, 0, none⟩) xs.length xs.length, .int .i64 k, .int .i64 q] ∧ S' = (ys.set k (y.with (D q))).map AB.ch ++ [G])
      (fun vs _ _ => match vs with | [_, _, _, .int _ q] => ((4096 : Int) - q).toNat | _ => 0) ?_ ?_
    · refine ⟨_, Drop.refl _, 0, by omega, rfl, rfl, ?_⟩
      rw [hD0, show y.with y.data = y from rfl, hy, List.set_getElem_self]
    rintro vs gE2 J' S' hJ' ⟨q, hq, rfl, rfl, rfl⟩
    refine Chk.mk (by omega) ?_
    refine LoadD.imm hIL [y.cell] (take_get hcL hcell) rfl ?_
    refine CmpD.split (fun (c2 : (q : Int) < 4096) => ?_) (fun (c2 : ¬ (q : Int) < 4096) => ?_)
    · refine CodeF.sched [[], [], [0, 1], [0, 1, 2], [], [], [], [5, 6], [0, 1, 2, 3, 4, 5, 6, 7], [0, 1, 2, 3, 4, 5, 6, 7, 8]] [0, 1, 2, 3, 4, 5, 6, 7, 8, 9] (by kernel_rfl) ?_
      refine Chk.mk (by omega) ?_
      refine LoadP.imm [y.cell] ⟨cL, TL, fL, .imm hIL, take_get hcL hcell, rfl⟩ ?_
      refine Tri.free (mark_byte k q (by omega) (by omega) I) ?_
      rintro v _ _ hJ ⟨rfl, rfl⟩
      refine Chk.mk (by omega) ?_
      have hset := hDs q (by omega)
      have hsp : splice (y.pre ++ bts (D q) ++ y.post) (y.pre.length + q) [byte (mkB k q)] = y.pre ++ bts (D (q + 1)) ++ y.post := by
        rw [splice_mid _ _ _ _ _ (by rw [bts_length, hgl]; show q + 1 ≤ _; omega), bts_set (by rw [hgl]; omega) hset]
        rfl
      refine StoreD.to k (map_get (ys := ys.set k (y.with (D q))) (by rw [List.length_set]; exact hky) [G] |>.trans (by rw [List.getElem_set_self]; rfl)) _ hsp (by simp only [List.length_append, bts_length, hgl]; show y.pre.length + q + 1 ≤ _; omega) (.inr (.inr (Nat.le_refl _))) ((ys.set k (y.with (D (q + 1)))).map AB.ch ++ [G]) ?_ ?_
      · have := map_set (ys := ys.set k (y.with (D q))) (k := k) (by rw [List.length_set]; exact hky) [G] (y.with (D (q + 1)))
        rw [List.set_set] at this
        exact this
      refine ToD.i64 (by omega) (by omega) ?_
      refine ⟨_, Drop.refl _, ⟨q + 1, by omega, rfl, rfl, rfl⟩, ?_⟩
      show ((4096 : Int) - ((q : Int) + 1)).toNat < ((4096 : Int) - (q : Int)).toNat
      omega
    · obtain rfl : q = 4096 := by omega
      rw [hDa]
      refine ToD.i64 (by omega) (by omega) ?_
      refine ⟨_, Drop.refl _, ⟨k + 1, ys.set k (y.with mk), by omega, by rw [List.length_set]; exact hyl, ?_, ?_, ?_, rfl, rfl, rfl⟩, ?_⟩
      · rw [List.map_set, hyc]
        rw [show (y.with mk).cell = y.cell from rfl]
        apply List.ext_getElem?
        intro j
        by_cases hj : k = j
        · subst hj; rw [List.getElem?_set_self (by rw [List.length_map]; omega), hcell]
        · rw [List.getElem?_set_ne hj]
      · intro x hx
        rcases List.mem_or_eq_of_mem_set hx with hx | rfl
        · exact hyo x hx
        · exact ⟨hml, hko.cap, hko.post⟩
      · intro j h hjk
        rw [List.length_set] at h
        by_cases hj : k = j
        · subst hj; rw [List.getElem_set_self]; exact hmk
        · rw [List.getElem_set_ne hj]; exact hyd j h (by omega)
      · show ((xs.length : Int) - ((k : Int) + 1)).toNat < ((xs.length : Int) - (k : Int)).toNat; omega
  · obtain rfl : k = xs.length := by omega
    have hyD : ∀ (j : Nat) (y : AB), ys[j]? = some y → y.Ok ∧ y.data = mkL j 4096 ∧ (xs.map AB.cell)[j]? = some y.cell := by
      intro j y hy
      obtain ⟨hj, rfl⟩ := List.getElem?_eq_some_iff.1 hy
      exact ⟨hyo _ (List.getElem_mem hj), hyd j hj (by omega), by rw [← hyc, List.getElem?_map, hy]; rfl⟩
    have hn : ys.length ≤ 1000 := by omega
    rw [← hyl] at hL ⊢
    rw [← hyl] at hG
    obtain ⟨n, hnl⟩ : ∃ n, n = ys.length := ⟨_, rfl⟩
    rw [← hnl] at hL hG hn ⊢
    clear hyo hyd hyc hok
    refine CodeF.loopD [0, 3, 6] (fun vs J' S' => ∃ (k : Nat) (cs : St) (gv : List Value), k ≤ n ∧ Gs I k cs ys gv ∧ I = J' ∧
        vs = [.slice aL n capL, .slice (some ⟨bG, 0, none⟩) n n, .int .i64 k] ∧ S' = cs ++ [[(bG, row gv 60)]])
      (fun vs _ _ => match vs with | [_, _, .int _ k] => ((n : Int) - k).toNat | _ => 0) ?_ ?_
    · refine ⟨_, Drop.refl _, 0, _, _, by omega, Gs.start I ys, rfl, rfl, ?_⟩
      rw [hG, ← hnl, rows_rep]
    rintro vs gE3 J' S' hJ' ⟨k, cs, gv, hk, hGs, rfl, rfl, rfl⟩
    have hcl := hGs.1
    have hgl := hGs.2.1
    refine CmpD.split (fun (c1 : (k : Int) < n) => ?_) (fun (c1 : ¬ (k : Int) < n) => ?_)
    · have hky : k < ys.length := by omega
      obtain ⟨y, hy⟩ : ∃ y, ys[k]? = some y := ⟨_, List.getElem?_eq_getElem hky⟩
      obtain ⟨hko, hkd, hcell⟩ := hyD k y hy
      obtain ⟨gk, hgk⟩ : ∃ g, gv[k]? = some g := ⟨_, List.getElem?_eq_getElem (by omega)⟩
      obtain ⟨c, hc⟩ : ∃ c, cs[k]? = some c := ⟨_, List.getElem?_eq_getElem (by omega)⟩
      have hcy : c = y.ch := (hGs.2.2 k y c gk hy hc hgk).2 (Nat.le_refl _)
      rw [hcy] at hc
      have hcset : cs.set k y.ch = cs := by
        obtain ⟨h1, h2⟩ := List.getElem?_eq_some_iff.1 hc
        rw [← h2, List.set_getElem_self]
      rcases hL.mem with q0 | ⟨bL, oL, cL, TL, fL, rfl, hIL, hcL⟩
      · omega
      refine Chk.mk (by omega) ?_
      refine LoadD.imm hIL [y.cell] (take_get hcL hcell) rfl ?_
      refine CodeF.loopD [0, 3, 6, 7, 8] (fun vs J' S' => ∃ (q m : Nat) (c' ch : List Blk) (R : St) (a : Option Addr) (cap : Nat), q ≤ 40 ∧ OwnB ch a (4096 + q) cap (mkL k (4096 + q)) ∧
            ((m = k ∧ c' = ch ∧ R = [] ∧ a = y.addr) ∨ (m = n + 1 ∧ SlC I [c'] y.addr 4096 (bts (mkL k 4096)) ∧ R = [ch])) ∧ I = J' ∧
          vs = [.slice (some ⟨bL, oL, none⟩) n capL, .slice (some ⟨bG, 0, none⟩) n n, .int .i64 k, .slice a (4096 + q) cap, .int .i64 q] ∧ S' = cs.set k c' ++ [[(bG, row gv 60)]] ++ R)
        (fun vs _ _ => match vs with | [_, _, _, _, .int _ q] => ((40 : Int) - q).toNat | _ => 0) ?_ ?_
      · refine ⟨_, Drop.refl _, 0, k, y.ch, y.ch, [], _, _, by omega, ?_, .inl ⟨rfl, rfl, rfl, rfl⟩, rfl, rfl, ?_⟩
        · have := AB.own hko
          rw [hkd] at this
          exact this
        · rw [hcset, List.append_nil]
      rintro vs gE4 J' S' hJ' ⟨q, m, c', ch, R, a, cap, hq, hO, hm, rfl, rfl, rfl⟩
      obtain ⟨S0, hS0⟩ : ∃ S0 : St, S0 = cs.set k c' ++ [[(bG, row gv 60)]] ++ R := ⟨_, rfl⟩
      have hS0m : S0[m]? = some ch := by
        rcases hm with ⟨rfl, rfl, rfl, rfl⟩ | ⟨rfl, hcs, rfl⟩
        · rw [hS0, List.append_nil, List.getElem?_append_left (by rw [List.length_set]; omega), List.getElem?_set_self (by omega)]
        · rw [hS0, List.getElem?_append_right (by simp; omega)]
          simp [hcl, ← hnl]
      have hS0l : S0.length = n + 1 + R.length := by rw [hS0]; simp; omega
      rw [← hS0]
      refine CmpD.split (fun (c2 : (q : Int) < 40) => ?_) (fun (c2 : ¬ (q : Int) < 40) => ?_)
      · refine Chk.mk (by omega) ?_
        refine LoadD.imm hIL [y.cell] (take_get hcL hcell) rfl ?_
        refine ToD.to (((4096 + q : Nat)) : Int) (by show IntKind.i64.wrap ((4096 : Nat) + (q : Int)) = _; rw [wrap_i64 (by omega) (by omega)]; omega) ?_
        refine Tri.free (mark_byte k (4096 + q) (by omega) (by omega) I) ?_
        rintro v _ _ hJ ⟨rfl, rfl⟩
        conv => whnf
        intro bN
        have hlast : (S0 ++ [[(bN, row [byte (mkB k (4096 + q))] 5)]])[S0.length]? = some [(bN, row [byte (mkB k (4096 + q))] 5)] := by simp
        have hnew : bts (mkL k (4096 + q)) ++ [byte (mkB k (4096 + q))] = bts (mkL k (4096 + q + 1)) := by
          rw [mkL_succ, bts_append]; rfl
        refine appendK tabOk rfl rfl rfl rfl rfl rfl rfl m (by rw [List.getElem?_append_left (by have := (List.getElem?_eq_some_iff.1 hS0m).1; omega)]; exact hS0m) hO (SrcOk.slice (n := 1) (news := [byte (mkB k (4096 + q))]) tabOk rfl ((OwnC.whole (len := 1) (size := 1) rfl).slC S0.length hlast) (by intro v hv; simp only [List.mem_singleton] at hv; subst hv; rfl)) rfl (by show (4096 + q + 1) * 1 ≤ _; omega) (by omega) (by omega) ?_ ?_
        · intro hr ch' hO'
          rw [hnew] at hO'
          refine ToD.i64 (by omega) (by omega) ?_
          refine ⟨S0.set m ch', ?_, ⟨q + 1, m, if m = k then ch' else c', ch', if m = k then [] else [ch'], a, cap, by omega, hO', ?_, rfl, rfl, ?_⟩, ?_⟩
          · rw [List.set_append_left _ _ (by have := (List.getElem?_eq_some_iff.1 hS0m).1; omega)]
            exact Drop.init _ _
          · rcases hm with ⟨rfl, rfl, rfl, rfl⟩ | ⟨rfl, hcs, rfl⟩
            · left; rw [if_pos rfl, if_pos rfl]; exact ⟨rfl, rfl, rfl, rfl⟩
            · right; rw [if_neg (by omega), if_neg (by omega)]; exact ⟨rfl, hcs, rfl⟩
          · rcases hm with ⟨rfl, rfl, rfl, rfl⟩ | ⟨rfl, hcs, rfl⟩
            · rw [if_pos rfl, if_pos rfl, hS0, List.append_nil, List.append_nil, List.set_append_left _ _ (by rw [List.length_set]; omega), List.set_set]
            · rw [if_neg (by omega), if_neg (by omega), hS0, List.set_append_right _ _ (by simp; omega)]
              simp [hcl, ← hnl]
          · show ((40 : Int) - ((q : Int) + 1)).toNat < ((40 : Int) - (q : Int)).toNat; omega
        · intro hr a' cap' ch' hO'
          rw [hnew] at hO'
          refine ToD.i64 (by omega) (by omega) ?_
          refine ⟨cs.set k c' ++ [[(bG, row gv 60)]] ++ [ch'], ?_, ⟨q + 1, n + 1, c', ch', [ch'], a', cap', by omega, hO', .inr ⟨rfl, ?_, rfl⟩, rfl, rfl, rfl⟩, ?_⟩
          · refine (Drop.mid S0 _ ch').trans ?_
            rcases hm with ⟨rfl, rfl, rfl, rfl⟩ | ⟨rfl, hcs, rfl⟩
            · rw [hS0, List.append_nil]; exact Drop.refl _
            · rw [hS0]; exact Drop.mid _ _ _
          · rcases hm with ⟨rfl, rfl, rfl, rfl⟩ | ⟨rfl, hcs, rfl⟩
            · exact Gd.old hO
            · exact hcs
          · show ((40 : Int) - ((q : Int) + 1)).toNat < ((40 : Int) - (q : Int)).toNat; omega
      · obtain rfl : q = 40 := by omega
        have hGn : S0[n]? = some [(bG, row gv 60)] := by
          have e : (cs.set k c').length = n := by rw [List.length_set]; omega
          rw [hS0, List.append_assoc, List.getElem?_append_right (by omega), e, Nat.sub_self]; rfl
        refine Chk.mk (by omega) ?_
        refine StoreD.to n hGn (gv.set k (.slice a 4136 cap)) (by show splice gv (0 + k) [_] = _; rw [Nat.zero_add]; exact splice_set (by omega)) (by show 0 + k + 1 ≤ _; omega) (.inr (.inr (Nat.le_refl _))) (cs.set k c' ++ [[(bG, row (gv.set k (.slice a 4136 cap)) 60)]] ++ R) ?_ ?_
        · have e : (cs.set k c').length = n := by rw [List.length_set]; omega
          rw [hS0, List.append_assoc, List.set_append_right _ _ (by omega), e, Nat.sub_self, List.append_assoc]; rfl
        refine ToD.i64 (by omega) (by omega) ?_
        rcases hm with ⟨rfl, rfl, rfl, rfl⟩ | ⟨rfl, hcs, rfl⟩
        · refine ⟨_, Drop.refl _, ⟨m + 1, cs.set m c', gv.set m (.slice y.addr 4136 cap), by omega, hGs.step hy (Gd.here hO), rfl, rfl, by rw [List.append_nil]⟩, ?_⟩
          show ((n : Int) - ((m : Int) + 1)).toNat < ((n : Int) - (m : Int)).toNat; omega
        · refine ⟨_, Drop.fold cs k c' ch _ (by omega), ⟨k + 1, cs.set k (c' ++ ch), gv.set k (.slice a 4136 cap), by omega, hGs.step hy (Gd.away hcs hO), rfl, rfl, rfl⟩, ?_⟩
          show ((n : Int) - ((k : Int) + 1)).toNat < ((n : Int) - (k : Int)).toNat; omega
    · obtain rfl : k = n := by omega
      have hGd : ∀ (j : Nat), j < k → ∃ (y : AB) (c : List Blk) (a : Option Addr) (cap : Nat), (xs.map AB.cell)[j]? = some y.cell ∧ cs[j]? = some c ∧ gv[j]? = some (.slice a 4136 cap) ∧ SlC I [c] a 4136 (bts (mkL j 4136)) ∧ SlC I [c] y.addr 4096 (bts (mkL j 4096)) := by
        intro j hj
        obtain ⟨y, hy⟩ : ∃ y, ys[j]? = some y := ⟨_, List.getElem?_eq_getElem (by omega)⟩
        obtain ⟨g, hg⟩ : ∃ g, gv[j]? = some g := ⟨_, List.getElem?_eq_getElem (by omega)⟩
        obtain ⟨c, hc⟩ : ∃ c, cs[j]? = some c := ⟨_, List.getElem?_eq_getElem (by omega)⟩
        obtain ⟨a, cap, rfl, h1, h2⟩ := (hGs.2.2 j y c g hy hc hg).1 hj
        exact ⟨y, c, a, cap, (hyD j y hy).2.2, hc, hg, h1, h2⟩
      obtain ⟨S0, hS0⟩ : ∃ S0 : St, S0 = cs ++ [[(bG, row gv 60)]] := ⟨_, rfl⟩
      have hGn : S0[k]? = some [(bG, row gv 60)] := by
        rw [hS0, List.getElem?_append_right (by omega), show k - cs.length = 0 by omega]; rfl
      have hS0c : ∀ j c, cs[j]? = some c → S0[j]? = some c := fun j c h => by
        rw [hS0, List.getElem?_append_left (List.getElem?_eq_some_iff.1 h).1]; exact h
      rw [← hS0]
      clear hGs hyD hnl hgl hcl hS0 hJ' hG hk c1
      refine CodeF.loopD [0, 3, 9] (fun vs J' S' => ∃ (j : Nat), j ≤ k ∧ I = J' ∧ vs = [.slice aL k capL, .slice (some ⟨bG, 0, none⟩) k k, .int .i64 j] ∧ S' = S0)
        (fun vs _ _ => match vs with | [_, _, .int _ j] => ((k : Int) - j).toNat | _ => 0) ?_ ?_
      · exact ⟨_, Drop.refl _, 0, by omega, rfl, rfl, rfl⟩
      rintro vs gE5 J' S' hJ' ⟨j, hj, rfl, rfl, rfl⟩
      refine CmpD.split (fun (c3 : (j : Int) < k) => ?_) (fun (c3 : ¬ (j : Int) < k) => ?_)
      rotate_left
      · exact Done.mk rfl
      obtain ⟨y, c, a, cap, hcell, hc, hg, hs1, hs2⟩ := hGd j (by omega)
      have hSc := hS0c j c hc
      rcases hL.mem with q0 | ⟨bL, oL, cL, TL, fL, rfl, hIL, hcL⟩
      · omega
      have hgD : S'.getD j [] = c := by rw [List.getD_eq_getElem?_getD, hSc]; rfl
      obtain ⟨bg, og, rfl, hcg⟩ := hs1.cells (by omega)
      obtain ⟨by_, oy, hay, hcy⟩ := hs2.cells (by omega)
      cases hay
      refine CodeF.loopD [0, 3, 9, 10] (fun vs J' S2 => ∃ (q : Nat), q ≤ 4136 ∧ I = J' ∧ vs = [.slice (some ⟨bL, oL, none⟩) k capL, .slice (some ⟨bG, 0, none⟩) k k, .int .i64 j, .int .i64 q] ∧ S2 = S')
        (fun vs _ _ => match vs with | [_, _, _, .int _ q] => ((4136 : Int) - q).toNat | _ => 0) ?_ ?_
      · exact ⟨_, Drop.refl _, 0, by omega, rfl, rfl, rfl⟩
      rintro vs gE6 J' S' hJ' ⟨q, hq, rfl, rfl, rfl⟩
      refine Chk.mk (by omega) ?_
      have hgl0 : (gv.drop (0 + j)).take 1 = [.slice (some ⟨bg, og, none⟩) 4136 cap] := by rw [Nat.zero_add]; exact drop_take1 hg
      refine LoadD.own k hGn [.slice (some ⟨bg, og, none⟩) 4136 cap] hgl0 rfl ?_
      refine CmpD.split (fun (c4 : (q : Int) < 4136) => ?_) (fun (c4 : ¬ (q : Int) < 4136) => ?_)
      rotate_left
      · refine ToD.i64 (by omega) (by omega) ?_
        refine ⟨_, Drop.refl _, ⟨j + 1, by omega, rfl, rfl, rfl⟩, ?_⟩
        show ((k : Int) - ((j : Int) + 1)).toNat < ((k : Int) - (j : Int)).toNat; omega
      have hb1 := hcg.at (i := q) (mkL_get j 4136 q (by omega))
      refine CodeF.sched [[], [], [0, 1], [0, 1, 2], [], [0, 1, 2, 3, 4], [0, 1, 2, 3, 4, 5], [], [], [7, 8], [0, 1, 2, 3, 4, 5, 6, 7, 8, 9], [0, 1, 2, 3, 4, 5, 6, 7, 8, 9, 10], [0, 1, 2, 3, 4, 5, 6, 7, 8, 9, 10, 11], [0, 1, 2, 3, 4, 5, 6, 7, 8, 9, 10, 11], [0, 1, 2, 3, 4, 5, 6, 7, 8, 9, 10, 11], [0, 1, 2, 3, 4, 5, 6, 7, 8, 9, 10, 11, 13, 14], [0, 1, 2, 3, 4, 5, 6, 7, 8, 9, 10, 11, 13, 14, 15], [0, 1, 2, 3, 4, 5, 6, 7, 8, 9, 10, 11, 13, 14, 15, 16], [0, 1, 2, 3, 4, 5, 6, 7, 8, 9, 10, 11, 12, 13, 14, 15, 16, 17], [0, 1, 2, 3, 4, 5, 6, 7, 8, 9, 10, 11, 12, 13, 14, 15, 16, 17, 18], [0, 1, 2, 3, 4, 5, 6, 7, 8, 9, 10, 11, 12, 13, 14, 15, 16, 17, 18, 19], [0, 1, 2, 3, 4, 5, 6, 7, 8, 9, 10, 11, 12, 13, 14, 15, 16, 17, 18, 19], [0, 1, 2, 3, 4, 5, 6, 7, 8, 9, 10, 11, 12, 13, 14, 15, 16, 17, 18, 19, 20, 21], [0, 1, 2, 3, 4, 5, 6, 7, 8, 9, 10, 11, 12, 13, 14, 15, 16, 17, 18, 19, 20, 21, 22], [0, 1, 2, 3, 4, 5, 6, 7, 8, 9, 10, 11, 12, 13, 14, 15, 16, 17, 18, 19], [0, 1, 2, 3, 4, 5, 6, 7, 8, 9, 10, 11, 12, 13, 14, 15, 16, 17, 18, 19, 20, 21, 22, 23, 24], [0, 1, 2, 3, 4, 5, 6, 7, 8, 9, 10, 11, 12, 13, 14, 15, 16, 17, 18, 19, 20, 21, 22, 23, 24, 25], [0, 1, 2, 3, 4, 5, 6, 7, 8, 9, 10, 11, 12, 13, 14, 15, 16, 17, 18, 19], [0, 1, 2, 3, 4, 5, 6, 7, 8, 9, 10, 11, 12, 13, 14, 15, 16, 17, 18, 19], [0, 1, 2, 3, 4, 5, 6, 7, 8, 9, 10, 11, 12, 13, 14, 15, 16, 17, 18, 19, 27, 28], [0, 1, 2, 3, 4, 5, 6, 7, 8, 9, 10, 11, 12, 13, 14, 15, 16, 17, 18, 19, 20, 21, 22, 23, 24, 25, 26, 27, 28, 29], [0, 1, 2, 3, 4, 5, 6, 7, 8, 9, 10, 11, 12, 13, 14, 15, 16, 17, 18, 19, 20, 21, 22, 23, 24, 25, 26, 27, 28, 29, 30], [0, 1, 2, 3, 4, 5, 6, 7, 8, 9, 10, 11, 12, 13, 14, 15, 16, 17, 18, 19, 20, 21, 22, 23, 24, 25, 26, 27, 28, 29, 30, 31]] [0, 1, 2, 3, 4, 5, 6, 7, 8, 9, 10, 11, 12, 13, 14, 15, 16, 17, 18, 19, 20, 21, 22, 23, 24, 25, 26, 27, 28, 29, 30, 31, 32] (by kernel_rfl) ?_
      refine Chk.mk (by omega) ?_
      refine LoadP.at k hGn [.slice (some ⟨bg, og, none⟩) 4136 cap] hgl0 rfl ?_
      refine Chk.mk (by omega) ?_
      refine LoadP.own j [byte (mkB j q)] (by rw [hgD]; exact hb1) ?_
      refine Tri.free (mark_byte j q (by omega) (by omega) I) ?_
      rintro v _ _ hJ ⟨rfl, rfl⟩
      repeat (first
        | refine LoadD.own 0 rfl _ rfl rfl ?_
        | refine LoadP.at 0 rfl _ rfl rfl ?_
        | refine StoreD.st 0 rfl rfl rfl ?_
        | refine CmpD.yes rfl ?_
        | refine CmpD.yes (by decide) ?_
        | refine CmpD.no (by decide) ?_
        | refine Chk.mk ⟨rfl, trivial⟩ ?_
        | refine Chk.mk ⟨rfl, rfl, trivial⟩ ?_
        | refine Chk.mk ⟨rfl, rfl, rfl, trivial⟩ ?_
        | refine Chk.mk ⟨rfl, rfl, rfl, rfl, trivial⟩ ?_
        | refine Chk.mk ⟨rfl, rfl, rfl, rfl, rfl, trivial⟩ ?_
        | refine Chk.mk ⟨rfl, rfl, rfl, rfl, rfl, rfl, trivial⟩ ?_)
      have fin : ∃ S0, Drop S' S0 ∧ (∃ q_1, q_1 ≤ 4136 ∧ I = I ∧ [Value.slice (some ⟨bL, oL, none⟩) k capL, .slice (some ⟨bG, 0, none⟩) k k, .int .i64 j, .int .i64 ((q : Int) + 1)] = [.slice (some ⟨bL, oL, none⟩) k capL, .slice (some ⟨bG, 0, none⟩) k k, .int .i64 j, .int .i64 (q_1 : Nat)] ∧ S0 = S') ∧ ((4136 : Int) - ((q : Int) + 1)).toNat < ((4136 : Int) - (q : Int)).toNat :=
        ⟨_, Drop.refl _, ⟨q + 1, by omega, rfl, rfl, rfl⟩, by omega⟩
      refine Chk.mk (by omega) ?_
      refine LoadP.imm [y.cell] ⟨cL, TL, fL, .imm hIL, take_get hcL hcell, rfl⟩ ?_
      refine CmpD.split (fun (c5 : (q : Int) < 4096) => ?_) (fun (c5 : ¬ (q : Int) < 4096) => ?_)
      · refine Chk.mk (by omega) ?_
        refine LoadP.imm [y.cell] ⟨cL, TL, fL, .imm hIL, take_get hcL hcell, rfl⟩ ?_
        refine Chk.mk (by omega) ?_
        have hb2 := hcy.at (i := q) (mkL_get j 4096 q (by omega))
        refine LoadP.own j [byte (mkB j q)] (by rw [hgD]; exact hb2) ?_
        refine Tri.free (mark_byte j q (by omega) (by omega) I) ?_
        rintro v _ _ hJ ⟨rfl, rfl⟩
        repeat (first
          | refine LoadD.own 0 rfl _ rfl rfl ?_
          | refine LoadP.at 0 rfl _ rfl rfl ?_
          | refine StoreD.st 0 rfl rfl rfl ?_
          | refine CmpD.yes rfl ?_
          | refine CmpD.yes (by decide) ?_
          | refine CmpD.no (by decide) ?_
          | refine Chk.mk ⟨rfl, trivial⟩ ?_
          | refine Chk.mk ⟨rfl, rfl, trivial⟩ ?_
          | refine Chk.mk ⟨rfl, rfl, rfl, trivial⟩ ?_
          | refine Chk.mk ⟨rfl, rfl, rfl, rfl, trivial⟩ ?_
          | refine Chk.mk ⟨rfl, rfl, rfl, rfl, rfl, trivial⟩ ?_
          | refine Chk.mk ⟨rfl, rfl, rfl, rfl, rfl, rfl, trivial⟩ ?_)
        refine ToD.i64 (by omega) (by omega) ?_
        exact fin
      · refine ToD.i64 (by omega) (by omega) ?_
        exact fin
end Go.Proofs.Ytbpdbgcndfcilaa
namespace Go.Proofs.Ytbpdbgcndfcilaa
open Go.RowKit Go.Sl
set_option maxRecDepth 20000

theorem two_ways (r : Option Sup) {p : Prop} (h1 : ∀ s, r = some s → p) (h2 : r = none → p) : p := by
  cases r with
  | none => exact h2 rfl
  | some s => exact h1 s rfl
@[reducible] def Sup.zero : Sup := ⟨0, 0, 0, 0⟩
def chooseP : Option Sup → Option Sup → Sup × Int × Bool
  | none, none => (Sup.zero, 0, false)
  | none, some y => (y, 1, true)
  | some x, none => (x, 0, true)
  | some x, some y => if y.epoch < x.epoch ∨ (y.epoch = x.epoch ∧ y.seq ≤ x.seq) then (x, 0, true) else (y, 1, true)
@[reducible] def chooseV (r : Sup × Int × Bool) : Value := .tuple #[r.1.v, .int .i64 r.2.1, .bool r.2.2]
theorem replay_Choose {I : Imm} {a1 a2 : Option Addr} {n1 n2 c1 c2 : Nat} {l1 l2 : Dat} (h1 : Rds I a1 n1 (bts l1)) (h2 : Rds I a2 n2 (bts l2)) (hn1 : n1 ≤ 1000000000) (hn2 : n2 ≤ 1000000000) :
    Tri Try.prog 58 #[.slice a1 n1 c1, .slice a2 n2 c2] I [] fun v J _ => I = J ∧ v = chooseV (chooseP (getS l1) (getS l2)) := by
  refine Tri.of (args := [.slice a1 n1 c1, .slice a2 n2 c2]) tabOk Try.func58 rfl (by kernel_rfl) (by kernel_rfl) ?_
  conv => whnf
  intro b4
  refine Tri.free (super_Get h1 hn1) ?_
  rintro v J _ hJ ⟨rfl, rfl⟩
  refine Go.Proofs.Ytbpdbgcndfcilaa.two_ways (getS l1) (fun s1 e1 => ?_) (fun e1 => ?_)
  all_goals
    rw [e1]
    conv => whnf
    intro b7
    repeat (first
      | refine LoadD.own 0 rfl _ rfl rfl ?_
      | refine LoadD.own 1 rfl _ rfl rfl ?_
      | refine LoadP.at 0 rfl _ rfl rfl ?_
      | refine LoadP.at 1 rfl _ rfl rfl ?_
      | refine StoreD.st 0 rfl rfl rfl ?_
      | refine StoreD.st 1 rfl rfl rfl ?_
      | refine CmpD.yes rfl ?_
      | refine CmpD.yes (by decide) ?_
      | refine CmpD.no (by decide) ?_
      | refine Chk.mk ⟨rfl, trivial⟩ ?_
      | refine Chk.mk ⟨rfl, rfl, trivial⟩ ?_
      | refine Chk.mk ⟨rfl, rfl, rfl, trivial⟩ ?_
      | refine Chk.mk ⟨rfl, rfl, rfl, rfl, trivial⟩ ?_
      | refine Chk.mk ⟨rfl, rfl, rfl, rfl, rfl, trivial⟩ ?_
      | refine Chk.mk ⟨rfl, rfl, rfl, rfl, rfl, rfl, trivial⟩ ?_)
    refine Tri.free (super_Get h2 hn2) ?_
    rintro v J _ hJ ⟨rfl, rfl⟩
    refine Go.Proofs.Ytbpdbgcndfcilaa.two_ways (getS l2) (fun s2 e2 => ?_) (fun e2 => ?_)
  all_goals
    rw [e2]
    conv => whnf
    intro b9
    repeat (first
      | refine LoadD.own 0 rfl _ rfl rfl ?_
      | refine LoadD.own 1 rfl _ rfl rfl ?_
      | refine LoadD.own 2 rfl _ rfl rfl ?_
      | refine LoadP.at 0 rfl _ rfl rfl ?_
      | refine LoadP.at 1 rfl _ rfl rfl ?_
      | refine LoadP.at 2 rfl _ rfl rfl ?_
      | refine StoreD.st 0 rfl rfl rfl ?_
      | refine StoreD.st 1 rfl rfl rfl ?_
      | refine StoreD.st 2 rfl rfl rfl ?_
      | refine CmpD.yes rfl ?_
      | refine CmpD.yes (by decide) ?_
      | refine CmpD.no (by decide) ?_
      | refine Chk.mk ⟨rfl, trivial⟩ ?_
      | refine Chk.mk ⟨rfl, rfl, trivial⟩ ?_
      | refine Chk.mk ⟨rfl, rfl, rfl, trivial⟩ ?_
      | refine Chk.mk ⟨rfl, rfl, rfl, rfl, trivial⟩ ?_
      | refine Chk.mk ⟨rfl, rfl, rfl, rfl, rfl, trivial⟩ ?_
      | refine Chk.mk ⟨rfl, rfl, rfl, rfl, rfl, rfl, trivial⟩ ?_)
  · refine CmpD.split (fun c1 => ?_) (fun c1 => ?_)
    · repeat (first
        | refine LoadD.own 0 rfl _ rfl rfl ?_
        | refine LoadD.own 1 rfl _ rfl rfl ?_
        | refine LoadD.own 2 rfl _ rfl rfl ?_
        | refine LoadP.at 0 rfl _ rfl rfl ?_
        | refine LoadP.at 1 rfl _ rfl rfl ?_
        | refine LoadP.at 2 rfl _ rfl rfl ?_
        | refine StoreD.st 0 rfl rfl rfl ?_
        | refine StoreD.st 1 rfl rfl rfl ?_
        | refine StoreD.st 2 rfl rfl rfl ?_
        | refine CmpD.yes rfl ?_
        | refine CmpD.yes (by decide) ?_
        | refine CmpD.no (by decide) ?_
        | refine Chk.mk ⟨rfl, trivial⟩ ?_
        | refine Chk.mk ⟨rfl, rfl, trivial⟩ ?_
        | refine Chk.mk ⟨rfl, rfl, rfl, trivial⟩ ?_
        | refine Chk.mk ⟨rfl, rfl, rfl, rfl, trivial⟩ ?_
        | refine Chk.mk ⟨rfl, rfl, rfl, rfl, rfl, trivial⟩ ?_
        | refine Chk.mk ⟨rfl, rfl, rfl, rfl, rfl, rfl, trivial⟩ ?_)
      refine Done.mk ⟨rfl, ?_⟩
      show _ = chooseV (chooseP (some s1) (some s2))
      rw [chooseP, if_pos (.inl c1)]; rfl
    repeat (first
      | refine LoadD.own 0 rfl _ rfl rfl ?_
      | refine LoadD.own 1 rfl _ rfl rfl ?_
      | refine LoadD.own 2 rfl _ rfl rfl ?_
      | refine LoadP.at 0 rfl _ rfl rfl ?_
      | refine LoadP.at 1 rfl _ rfl rfl ?_
      | refine LoadP.at 2 rfl _ rfl rfl ?_
      | refine StoreD.st 0 rfl rfl rfl ?_
      | refine StoreD.st 1 rfl rfl rfl ?_
      | refine StoreD.st 2 rfl rfl rfl ?_
      | refine CmpD.yes rfl ?_
      | refine CmpD.yes (by decide) ?_
      | refine CmpD.no (by decide) ?_
      | refine Chk.mk ⟨rfl, trivial⟩ ?_
      | refine Chk.mk ⟨rfl, rfl, trivial⟩ ?_
      | refine Chk.mk ⟨rfl, rfl, rfl, trivial⟩ ?_
      | refine Chk.mk ⟨rfl, rfl, rfl, rfl, trivial⟩ ?_
      | refine Chk.mk ⟨rfl, rfl, rfl, rfl, rfl, trivial⟩ ?_
      | refine Chk.mk ⟨rfl, rfl, rfl, rfl, rfl, rfl, trivial⟩ ?_)
    refine CmpD.split (fun c2 => ?_) (fun c2 => ?_)
    · repeat (first
        | refine LoadD.own 0 rfl _ rfl rfl ?_
        | refine LoadD.own 1 rfl _ rfl rfl ?_
        | refine LoadD.own 2 rfl _ rfl rfl ?_
        | refine LoadP.at 0 rfl _ rfl rfl ?_
        | refine LoadP.at 1 rfl _ rfl rfl ?_
        | refine LoadP.at 2 rfl _ rfl rfl ?_
        | refine StoreD.st 0 rfl rfl rfl ?_
        | refine StoreD.st 1 rfl rfl rfl ?_
        | refine StoreD.st 2 rfl rfl rfl ?_
        | refine CmpD.yes rfl ?_
        | refine CmpD.yes (by decide) ?_
        | refine CmpD.no (by decide) ?_
        | refine Chk.mk ⟨rfl, trivial⟩ ?_
        | refine Chk.mk ⟨rfl, rfl, trivial⟩ ?_
        | refine Chk.mk ⟨rfl, rfl, rfl, trivial⟩ ?_
        | refine Chk.mk ⟨rfl, rfl, rfl, rfl, trivial⟩ ?_
        | refine Chk.mk ⟨rfl, rfl, rfl, rfl, rfl, trivial⟩ ?_
        | refine Chk.mk ⟨rfl, rfl, rfl, rfl, rfl, rfl, trivial⟩ ?_)
      refine CmpD.split (fun c3 => ?_) (fun c3 => ?_)
      · repeat (first
          | refine LoadD.own 0 rfl _ rfl rfl ?_
          | refine LoadD.own 1 rfl _ rfl rfl ?_
          | refine LoadD.own 2 rfl _ rfl rfl ?_
          | refine LoadP.at 0 rfl _ rfl rfl ?_
          | refine LoadP.at 1 rfl _ rfl rfl ?_
          | refine LoadP.at 2 rfl _ rfl rfl ?_
          | refine StoreD.st 0 rfl rfl rfl ?_
          | refine StoreD.st 1 rfl rfl rfl ?_
          | refine StoreD.st 2 rfl rfl rfl ?_
          | refine CmpD.yes rfl ?_
          | refine CmpD.yes (by decide) ?_
          | refine CmpD.no (by decide) ?_
          | refine Chk.mk ⟨rfl, trivial⟩ ?_
          | refine Chk.mk ⟨rfl, rfl, trivial⟩ ?_
          | refine Chk.mk ⟨rfl, rfl, rfl, trivial⟩ ?_
          | refine Chk.mk ⟨rfl, rfl, rfl, rfl, trivial⟩ ?_
          | refine Chk.mk ⟨rfl, rfl, rfl, rfl, rfl, trivial⟩ ?_
          | refine Chk.mk ⟨rfl, rfl, rfl, rfl, rfl, rfl, trivial⟩ ?_)
        refine Done.mk ⟨rfl, ?_⟩
        show _ = chooseV (chooseP (some s1) (some s2))
        rw [chooseP, if_pos (.inr ⟨c2, c3⟩)]; rfl
      · repeat (first
          | refine LoadD.own 0 rfl _ rfl rfl ?_
          | refine LoadD.own 1 rfl _ rfl rfl ?_
          | refine LoadD.own 2 rfl _ rfl rfl ?_
          | refine LoadP.at 0 rfl _ rfl rfl ?_
          | refine LoadP.at 1 rfl _ rfl rfl ?_
          | refine LoadP.at 2 rfl _ rfl rfl ?_
          | refine StoreD.st 0 rfl rfl rfl ?_
          | refine StoreD.st 1 rfl rfl rfl ?_
          | refine StoreD.st 2 rfl rfl rfl ?_
          | refine CmpD.yes rfl ?_
          | refine CmpD.yes (by decide) ?_
          | refine CmpD.no (by decide) ?_
          | refine Chk.mk ⟨rfl, trivial⟩ ?_
          | refine Chk.mk ⟨rfl, rfl, trivial⟩ ?_
          | refine Chk.mk ⟨rfl, rfl, rfl, trivial⟩ ?_
          | refine Chk.mk ⟨rfl, rfl, rfl, rfl, trivial⟩ ?_
          | refine Chk.mk ⟨rfl, rfl, rfl, rfl, rfl, trivial⟩ ?_
          | refine Chk.mk ⟨rfl, rfl, rfl, rfl, rfl, rfl, trivial⟩ ?_)
        refine Done.mk ⟨rfl, ?_⟩
        show _ = chooseV (chooseP (some s1) (some s2))
        rw [chooseP, if_neg (by rintro (h | h); exact c1 h; exact c3 h.2)]; rfl
    · repeat (first
        | refine LoadD.own 0 rfl _ rfl rfl ?_
        | refine LoadD.own 1 rfl _ rfl rfl ?_
        | refine LoadD.own 2 rfl _ rfl rfl ?_
        | refine LoadP.at 0 rfl _ rfl rfl ?_
        | refine LoadP.at 1 rfl _ rfl rfl ?_
        | refine LoadP.at 2 rfl _ rfl rfl ?_
        | refine StoreD.st 0 rfl rfl rfl ?_
        | refine StoreD.st 1 rfl rfl rfl ?_
        | refine StoreD.st 2 rfl rfl rfl ?_
        | refine CmpD.yes rfl ?_
        | refine CmpD.yes (by decide) ?_
        | refine CmpD.no (by decide) ?_
        | refine Chk.mk ⟨rfl, trivial⟩ ?_
        | refine Chk.mk ⟨rfl, rfl, trivial⟩ ?_
        | refine Chk.mk ⟨rfl, rfl, rfl, trivial⟩ ?_
        | refine Chk.mk ⟨rfl, rfl, rfl, rfl, trivial⟩ ?_
        | refine Chk.mk ⟨rfl, rfl, rfl, rfl, rfl, trivial⟩ ?_
        | refine Chk.mk ⟨rfl, rfl, rfl, rfl, rfl, rfl, trivial⟩ ?_)
      refine Done.mk ⟨rfl, ?_⟩
      show _ = chooseV (chooseP (some s1) (some s2))
      rw [chooseP, if_neg (by rintro (h | h); exact c1 h; exact c2 h.1)]; rfl
  all_goals exact Done.mk ⟨rfl, rfl⟩
end Go.Proofs.Ytbpdbgcndfcilaa
namespace Go.Proofs.Ytbpdbgcndfcilaa
open Go.RowKit Go.Sl
set_option maxRecDepth 20000

def lowL (v i : Nat) : Dat := (List.range i).map fun j => UInt8.ofNat (v / 256 ^ j)
theorem lowL_succ (v i : Nat) : lowL v (i + 1) = lowL v i ++ [UInt8.ofNat (v / 256 ^ i)] := by simp [lowL, List.range_succ]
theorem be_take (v n k : Nat) (hk : k < n) : (be v n)[k]? = some (UInt8.ofNat (v / 256 ^ (n - 1 - k))) := by
  unfold be
  rw [List.getElem?_map, List.getElem?_range hk]
  simp only [Option.map_some]
  rw [Nat.pow_mul]
set_option maxHeartbeats 1000000 in
theorem ref_Add {I : Imm} {a : Option Addr} {len cap : Nat} {l : Dat} (c0 : List Blk) (h : SlC I [c0] a len (bts l)) (hlen : len ≤ 1000000) (v : Nat) (hv : v < 18446744073709551616) (n : Nat) (hn : n ≤ 8) :
    Tri Try.prog 159 #[.slice a len cap, .int .u64 v, .int .i64 n] I [c0] fun r J S' => ∃ a' cap' ch, r = .slice a' (len + n) cap' ∧ OwnB ch a' (len + n) cap' (l ++ be v n) ∧ I = J ∧ S' = [c0, ch] := by
  have hl : l.length = len := by rw [← bts_length, h.len]
  refine Tri.drop ?_ (fun _ _ _ _ h => h)
  refine Tri.of (args := [.slice a len cap, .int .u64 v, .int .i64 n]) tabOk Try.func159 rfl (by kernel_rfl) (by kernel_rfl) ?_
  have hpow : ∀ i : Nat, v / 256 ^ i < 18446744073709551616 := fun i => Nat.lt_of_le_of_lt (Nat.div_le_self _ _) hv
  refine CodeF.loopD [0, 1, 2, 7, 8] (fun vs J' S' => ∃ (i : Nat) (a1 : Option Addr) (cap1 : Nat) (ch1 : List Blk), i ≤ n ∧ OwnB ch1 a1 i cap1 (lowL v i) ∧ vs = [.slice a len cap, .int .u64 (v / 256 ^ i : Nat), .int .i64 n, .slice a1 i cap1, .int .i64 i] ∧ I = J' ∧ S' = [c0, ch1, []])
    (fun vs _ _ => match vs with | [_, _, _, _, .int _ i] => ((n : Int) - i).toNat | _ => 0) ?_ ?_
  · exact ⟨_, Drop.and (Drop.and (Drop.refl _)), 0, none, 0, [], by omega, OwnC.nil _ _, by rw [Nat.pow_zero, Nat.div_one]; rfl, rfl, rfl⟩
  rintro vs gE J' S' hJ' ⟨i, a1, cap1, ch1, hi, hown, rfl, rfl, rfl⟩
  refine CmpD.split (fun c1 => ?_) (fun c1 => ?_)
  · have hp := hpow i
    have hsucc : v / 256 ^ (i + 1) = v / 256 ^ i / 256 := by rw [Nat.pow_succ, Nat.div_div_eq_div_mul]
    have hls := lowL_succ v i
    generalize hq : v / 256 ^ i = q at *
    have hu : (UInt8.ofNat (q)).toNat = q % 256 := by simp [UInt8.toNat_ofNat']
    refine Chk.mk (by decide) ?_
    refine ToD.rem (by omega) ?_
    refine ToD.to ((UInt8.ofNat (q)).toNat : Int) (by rw [hu]; exact wrap_u rfl (by omega) (by show ((q : Nat) : Int) % 256 < 2 ^ 8; omega)) ?_
    conv => whnf
    intro bN
    refine appendD tabOk rfl rfl rfl rfl rfl rfl rfl 1 rfl hown (SrcOk.slice (n := 1) (news := bts [UInt8.ofNat (q)]) tabOk rfl ((OwnC.whole (len := 1) (size := 1) rfl).slC 3 rfl) (bts_plain _)) rfl (by show (i + 1) * 1 ≤ _; omega) (by omega) ?_
    intro a2 cap2 ch2 hown2
    refine Chk.mk (by decide) ?_
    refine ToD.to ((q / 256 : Nat) : Int) (by rw [Int.tdiv_eq_ediv_of_nonneg (by omega)]; show IntKind.u64.wrap ((q : Int) / 256) = _; rw [show (q : Int) / 256 = ((q / 256 : Nat) : Int) by omega]; exact wrap_u64 _ (by omega)) ?_
    refine ToD.i64 (by omega) (by omega) ?_
    refine ⟨_, Drop.pick [0, 1, 2] _ rfl, ⟨i + 1, a2, cap2, ch2, by omega, by rw [OwnB, hls, bts_append]; exact hown2, by rw [hsucc]; rfl, rfl, rfl⟩, ?_⟩
    show ((n : Int) - ((i : Int) + 1)).toNat < ((n : Int) - (i : Int)).toNat
    omega
  · obtain rfl : i = n := by omega
    refine appendD (ch := []) tabOk rfl rfl rfl rfl rfl rfl rfl 2 rfl (OwnC.nil _ _) (SrcOk.slice (n := len) (news := bts l) tabOk rfl (by show SlC _ _ a (len * 1) _; rw [Nat.mul_one]; exact h.mores [ch1, []]) (bts_plain _)) rfl (by show (0 + len) * 1 ≤ _; omega) (by omega) ?_
    intro a9 cap9 ch9 hown9
    rw [Nat.zero_add, List.nil_append] at hown9
    rw [Nat.zero_add]
    refine ToD.i64 (by omega) (by omega) ?_
    have hbl := be_length v i
    refine CodeF.loopD [7, 9, 10] (fun vs J' S' => ∃ (k : Nat) (a2 : Option Addr) (cap2 : Nat) (ch2 : List Blk), k ≤ i ∧ OwnB ch2 a2 (len + k) cap2 (l ++ (be v i).take k) ∧ vs = [.slice a1 i cap1, .slice a2 (len + k) cap2, .int .i64 ((i : Int) - 1 - k)] ∧ I = J' ∧ S' = [c0, ch1, ch2])
      (fun vs _ _ => match vs with | [_, _, .int _ j] => (j + 1).toNat | _ => 0) ?_ ?_
    · refine ⟨_, Drop.refl _, 0, a9, cap9, ch9, by omega, by rw [List.take_zero, List.append_nil]; exact hown9, by rw [show (i : Int) - 1 - ((0 : Nat) : Int) = (i : Int) - 1 by omega]; rfl, rfl, rfl⟩
    rintro vs gE2 J' S' hJ' ⟨k, a2, cap2, ch2, hk, hown2, rfl, rfl, rfl⟩
    refine CmpD.split (fun c2 => ?_) (fun c2 => ?_)
    · have hki : k < i := by omega
      rcases hown.at' with q0 | ⟨b1, pre, post, T1, rfl, rfl, hpost⟩
      · have := hown.le; omega
      obtain ⟨m, hm⟩ : ∃ m, m = i - 1 - k := ⟨_, rfl⟩
      have hcell : (bts (lowL v i))[m]? = some (byte (UInt8.ofNat (v / 256 ^ m))) := bts_get (by unfold lowL; rw [List.getElem?_map, List.getElem?_range (by omega)]; rfl)
      have hbe : (be v i).take (k + 1) = (be v i).take k ++ [UInt8.ofNat (v / 256 ^ m)] := by rw [List.take_add_one, be_take v i k hki, hm]; rfl
      rw [show ((i : Int) - 1 - k) = (m : Int) by omega]
      refine Chk.mk (by omega) ?_
      refine LoadD.own 1 rfl _ (take_get (own_take pre (bts (lowL v i)) post) hcell) rfl ?_
      conv => whnf
      intro bN
      refine appendD tabOk rfl rfl rfl rfl rfl rfl rfl 2 rfl hown2 (SrcOk.slice (n := 1) (news := bts [UInt8.ofNat (v / 256 ^ m)]) tabOk rfl ((OwnC.whole (len := 1) (size := 1) rfl).slC 3 rfl) (bts_plain _)) rfl (by show (len + k + 1) * 1 ≤ _; omega) (by omega) ?_
      intro a3 cap3 ch3 hown3
      refine ToD.to ((i : Int) - 1 - ((k + 1 : Nat) : Int)) (by rw [wrap_i64 (by omega) (by omega)]; omega) ?_
      refine ⟨_, Drop.pick [0, 1, 2] _ rfl, ⟨k + 1, a3, cap3, ch3, by omega, by rw [OwnB, hbe, ← List.append_assoc, bts_append]; exact hown3, rfl, rfl, rfl⟩, ?_⟩
      show ((i : Int) - 1 - ((k + 1 : Nat) : Int) + 1).toNat < ((m : Int) + 1).toNat
      omega
    · obtain rfl : k = i := by omega
      refine Done.mk ⟨[c0, ch2], Drop.pick [0, 2] _ rfl, a2, cap2, ch2, rfl, ?_, rfl, rfl⟩
      rw [List.take_of_length_le (by omega)] at hown2
      exact hown2
end Go.Proofs.Ytbpdbgcndfcilaa
namespace Go.Proofs.Ytbpdbgcndfcilaa
open Go.RowKit Go.Sl
set_option maxRecDepth 20000

theorem sub_xor (x : Nat) (h : x < 4294967296) : 4294967295 - x = x ^^^ 4294967295 := by
  have h1 : (BitVec.ofNat 32 x ^^^ BitVec.allOnes 32).toNat = x ^^^ 4294967295 := by
    rw [BitVec.toNat_xor, BitVec.toNat_ofNat, Nat.mod_eq_of_lt (by omega), BitVec.toNat_allOnes]
  rw [BitVec.xor_allOnes, BitVec.toNat_not, BitVec.toNat_ofNat, Nat.mod_eq_of_lt (by omega)] at h1
  omega
theorem xor_mod2 (a b : Nat) : (a ^^^ b) % 2 = (a % 2) ^^^ (b % 2) := Nat.xor_mod_two_pow (n := 1) ..
theorem xor_div2 (a b : Nat) : (a ^^^ b) / 2 = (a / 2) ^^^ (b / 2) := by
  apply Nat.eq_of_testBit_eq
  intro i
  simp [Nat.testBit_div_two, Nat.testBit_xor]
def bitS (r c k : Nat) : Nat := if c / 2 ^ k % 2 = r % 2 then r / 2 else (r / 2) ^^^ 2197175160
def bitsS (c r : Nat) : Nat → Nat
  | 0 => r
  | k + 1 => bitS (bitsS c r k) c k
theorem bitsS_turns (c r : Nat) : ∀ k, turns k (r ^^^ c) = bitsS c r k ^^^ (c / 2 ^ k)
  | 0 => by simp [turns, bitsS]
  | k + 1 => by
    rw [turns, bitsS_turns c r k, bitsS, bitS, turn, xor_mod2, xor_div2, show c / 2 ^ (k + 1) = c / 2 ^ k / 2 by rw [Nat.pow_succ, Nat.div_div_eq_div_mul]]
    generalize bitsS c r k = x
    generalize c / 2 ^ k = y
    have hx := Nat.mod_two_eq_zero_or_one x
    have hy := Nat.mod_two_eq_zero_or_one y
    rcases hx with hx | hx <;> rcases hy with hy | hy <;> rw [hx, hy] <;> simp
    · rw [Nat.xor_assoc, Nat.xor_comm (y / 2), ← Nat.xor_assoc]
    · rw [Nat.xor_assoc, Nat.xor_comm (y / 2), ← Nat.xor_assoc]
theorem bitsS_lt {c r : Nat} (hr : r < 4294967296) : ∀ k, bitsS c r k < 4294967296
  | 0 => hr
  | k + 1 => by
    have := bitsS_lt (c := c) hr k
    rw [bitsS, bitS]
    split
    · omega
    · exact Nat.xor_lt_two_pow (n := 32) (by omega) (by decide)
theorem bitsS_8 {c : Nat} (r : Nat) (hc : c < 256) : bitsS c r 8 = turns 8 (r ^^^ c) := by
  rw [bitsS_turns, show c / 2 ^ 8 = 0 by omega, Nat.xor_zero]
theorem shr_nat32 (v s : Nat) (hs : s ≤ 32) : (v : Int).fdiv (2 ^ (min ((s : Int)).toNat IntKind.u32.bits)) = ((v / 2 ^ s : Nat) : Int) := by
  have e : min ((s : Int)).toNat IntKind.u32.bits = s := by
    show min s 32 = s; omega
  rw [e, Int.fdiv_eq_ediv_of_nonneg _ (by exact_mod_cast Nat.zero_le _)]
  norm_cast
set_option maxHeartbeats 1000000 in
theorem ref_More {I : Imm} {S : St} (sum : Nat) (hsum : sum < 4294967296) {a : Option Addr} {len cap : Nat} {l : Dat} (h : SlC I S a len (bts l)) (hlen : len ≤ 1000000000) :
    Tri Try.prog 148 #[.int .u32 sum, .slice a len cap] I S fun v J S' => v = .int .u32 (crcMore sum l : Nat) ∧ I = J ∧ S' = S := by
  have hl : l.length = len := by rw [← bts_length, h.len]
  have hs0 : sum ^^^ 4294967295 < 4294967296 := Nat.xor_lt_two_pow (n := 32) hsum (by decide)
  refine Tri.of (args := [.int .u32 sum, .slice a len cap]) tabOk Try.func148 rfl (by kernel_rfl) (by kernel_rfl) ?_
  refine ToD.to ((sum ^^^ 4294967295 : Nat) : Int) (by rw [← sub_xor sum hsum, wrap_u rfl (by omega) (by show (4294967295 : Int) - sum < 2 ^ 32; omega)]; omega) ?_
  refine CodeF.loopD [1, 5, 6] (fun vs J' S' => ∃ (i : Nat), i ≤ len ∧ vs = [.slice a len cap, .int .u32 (crcReg (sum ^^^ 4294967295) (l.take i) : Nat), .int .i64 i] ∧ I = J' ∧ S' = S)
    (fun vs _ _ => match vs with | [_, _, .int _ i] => ((len : Int) - i).toNat | _ => 0) ?_ ?_
  · exact ⟨_, Drop.refl _, 0, by omega, rfl, rfl, rfl⟩
  rintro vs gE J' S' hJ' ⟨i, hi, rfl, rfl, rfl⟩
  have hreg := crcReg_lt hs0 (l.take i)
  refine CmpD.split (fun c1 => ?_) (fun c1 => ?_)
  · have hil : i < l.length := by omega
    have htk : l.take (i + 1) = l.take i ++ [l[i]] := by rw [List.take_add_one, List.getElem?_eq_getElem hil]; rfl
    have hc256 := l[i].toNat_lt
    rcases h.mem with h0 | ⟨b, off, rfl, hc⟩
    · omega
    have hcell := hc.at (i := i) (bts_get (List.getElem?_eq_getElem hil))
    generalize hcq : l[i] = cq at *
    refine CodeF.loopD [1, 5, 6, 7] (fun vs J2 S2 => ∃ (k : Nat), k ≤ 8 ∧ vs = [.slice (some ⟨b, off, none⟩) len cap, .int .u32 (bitsS cq.toNat (crcReg (sum ^^^ 4294967295) (l.take i)) k : Nat), .int .i64 i, .int .i64 k] ∧ I = J2 ∧ S2 = S')
      (fun vs _ _ => match vs with | [_, _, _, .int _ k] => ((8 : Int) - k).toNat | _ => 0) ?_ ?_
    · exact ⟨_, Drop.refl _, 0, by omega, rfl, rfl, rfl⟩
    rintro vs gE2 J2 S2 hJ2 ⟨k, hk, rfl, rfl, rfl⟩
    have hb := bitsS_lt (c := cq.toNat) hreg k
    refine CmpD.split (fun c2 => ?_) (fun c2 => ?_)
    · have hstep : bitsS cq.toNat (crcReg (sum ^^^ 4294967295) (l.take i)) (k + 1) = bitS (bitsS cq.toNat (crcReg (sum ^^^ 4294967295) (l.take i)) k) cq.toNat k := rfl
      have hlt2 := bitsS_lt (c := cq.toNat) hreg (k + 1)
      rw [hstep] at hlt2
      have hck : cq.toNat / 2 ^ k < 256 := Nat.lt_of_le_of_lt (Nat.div_le_self _ _) hc256
      generalize bitsS cq.toNat (crcReg (sum ^^^ 4294967295) (l.take i)) k = r at *
      generalize hy : cq.toNat / 2 ^ k = y at *
      refine Chk.mk (by omega) ?_
      refine LoadD.mk [byte cq] hcell ?_
      refine ToD.to ((cq.toNat : Nat) : Int) (wrap_u rfl (by omega) (by show (cq.toNat : Int) < 2 ^ 32; omega)) ?_
      refine ToD.to (k : Int) (wrap_u rfl (by omega) (by show (k : Int) < 2 ^ 64; omega)) ?_
      refine Chk.mk (by omega) ?_
      refine ToD.to (y : Int) (by rw [← hy]; exact shr_nat32 _ _ (by omega)) ?_
      refine Chk.mk (by decide) ?_
      refine ToD.rem (by omega) ?_
      refine Chk.mk (by decide) ?_
      refine ToD.rem (by omega) ?_
      refine Chk.mk (by decide) ?_
      refine ToD.to ((r / 2 : Nat) : Int) (by rw [Int.tdiv_eq_ediv_of_nonneg (by omega)]; show IntKind.u32.wrap ((r : Int) / 2) = _; rw [show (r : Int) / 2 = ((r / 2 : Nat) : Int) by omega]; exact wrap_u32 _ (by omega)) ?_
      unfold bitS at hstep hlt2
      rw [hy] at hstep hlt2
      refine CmpD.split (fun c3 => ?_) (fun c3 => ?_)
      · have c3' : y % 2 = r % 2 := by omega
        rw [if_pos c3'] at hstep
        refine ToD.i64 (by omega) (by omega) ?_
        refine ⟨_, Drop.refl _, ⟨k + 1, by omega, by rw [hstep]; rfl, rfl, rfl⟩, ?_⟩
        show ((8 : Int) - ((k : Int) + 1)).toNat < ((8 : Int) - (k : Int)).toNat
        omega
      · have c3' : ¬ y % 2 = r % 2 := by omega
        rw [if_neg c3'] at hstep hlt2
        refine ToD.to ((r / 2 ^^^ 2197175160 : Nat) : Int) (u32_xor_nat (r / 2) 2197175160 (by omega) (by decide)) ?_
        refine ToD.i64 (by omega) (by omega) ?_
        refine ⟨_, Drop.refl _, ⟨k + 1, by omega, by rw [hstep]; rfl, rfl, rfl⟩, ?_⟩
        show ((8 : Int) - ((k : Int) + 1)).toNat < ((8 : Int) - (k : Int)).toNat
        omega
    · obtain rfl : k = 8 := by omega
      have hsn : crcReg (sum ^^^ 4294967295) (l.take (i + 1)) = bitsS cq.toNat (crcReg (sum ^^^ 4294967295) (l.take i)) 8 := by rw [htk, crcReg_snoc, bitsS_8 _ hc256]
      refine ToD.i64 (by omega) (by omega) ?_
      refine ⟨_, Drop.refl _, ⟨i + 1, by omega, by rw [hsn]; rfl, rfl, rfl⟩, ?_⟩
      show ((len : Int) - ((i : Int) + 1)).toNat < ((len : Int) - (i : Int)).toNat
      omega
  · obtain rfl : i = len := by omega
    rw [List.take_of_length_le (by omega)] at hreg ⊢
    refine ToD.to ((crcMore sum l : Nat) : Int) ?_ ?_
    · unfold crcMore
      rw [← sub_xor _ hreg, wrap_u rfl (by omega) (by show (4294967295 : Int) - _ < 2 ^ 32; omega)]; omega
    exact Done.mk ⟨rfl, rfl, rfl⟩
end Go.Proofs.Ytbpdbgcndfcilaa
namespace Go.Proofs.Ytbpdbgcndfcilaa
open Go.RowKit Go.Sl
set_option maxRecDepth 20000

theorem ref_Add' {I : Imm} {S : St} {a : Option Addr} {len cap : Nat} {l : Dat} (h : SlC I S a len (bts l)) (hlen : len ≤ 1000000) (v : Nat) (hv : v < 18446744073709551616) (n : Nat) (hn : n ≤ 8) :
    Tri Try.prog 159 #[.slice a len cap, .int .u64 v, .int .i64 n] I S fun r J S' => ∃ a' cap' ch, r = .slice a' (len + n) cap' ∧ OwnB ch a' (len + n) cap' (l ++ be v n) ∧ I = J ∧ S' = S ++ [ch] := by
  refine Tri.pack ((ref_Add S.flatten h.pack hlen v hv n hn).mono ?_)
  rintro r J S' hJ ⟨a', cap', ch, rfl, hown, rfl, rfl⟩
  exact ⟨[ch], rfl, a', cap', ch, rfl, hown, rfl, rfl⟩
theorem ref_add {I : Imm} {S : St} {a : Option Addr} {len cap : Nat} {l : Dat} (h : SlC I S a len (bts l)) (hlen : len ≤ 1000000) (x : Int) (hx : 0 ≤ x ∧ x ≤ 9223372036854775807) (n : Nat) (hn : n ≤ 8) :
    Tri Try.prog 147 #[.slice a len cap, .int .i64 x, .int .i64 n] I S fun r J S' => ∃ a' cap' ch, r = .slice a' (len + n) cap' ∧ OwnB ch a' (len + n) cap' (l ++ be x.toNat n) ∧ I = J ∧ S' = S ++ [ch] := by
  obtain ⟨k, rfl⟩ : ∃ k : Nat, x = k := ⟨x.toNat, by omega⟩
  refine Tri.of (args := [.slice a len cap, .int .i64 k, .int .i64 n]) tabOk Try.func147 rfl (by kernel_rfl) (by kernel_rfl) ?_
  refine ToD.to (k : Int) (wrap_u64 k (by omega)) ?_
  refine Tri.mono (ref_Add' h hlen k (by omega) n hn) ?_
  rintro r J S' hJ ⟨a', cap', ch, rfl, hown, rfl, rfl⟩
  exact Done.mk ⟨a', cap', ch, rfl, hown, rfl, rfl⟩
theorem zeros_snoc (l : Dat) (n : Nat) : l ++ List.replicate n 0 ++ [0] = l ++ List.replicate (n + 1) (0 : UInt8) := by
  rw [List.append_assoc, ← List.replicate_succ']
set_option maxHeartbeats 2000000 in
theorem ref_PutSuper (s : Sup) (I : Imm) : Tri Try.prog 112 #[s.v] I [] fun v J S' => I = J ∧
    ((¬ RightS s ∧ v = .tuple #[.slice none 0 0, .int .i64 2] ∧ S' = []) ∨ (RightS s ∧ ∃ a cap ch, v = .tuple #[.slice a 4096 cap, .int .i64 0] ∧ OwnB ch a 4096 cap (supL s) ∧ S' = [ch])) := by
  refine Tri.drop ?_ (fun _ _ _ _ h => h)
  refine Tri.of (args := [s.v]) tabOk Try.func112 rfl (by kernel_rfl) (by kernel_rfl) ?_
  conv => whnf
  intro b
  repeat (first
    | refine LoadD.own 0 rfl _ rfl rfl ?_
    | refine LoadP.at 0 rfl _ rfl rfl ?_
    | refine StoreD.st 0 rfl rfl rfl ?_
    | refine CmpD.yes rfl ?_
    | refine CmpD.yes (by decide) ?_
    | refine CmpD.no (by decide) ?_
    | refine Chk.mk ⟨rfl, trivial⟩ ?_
    | refine Chk.mk ⟨rfl, rfl, trivial⟩ ?_
    | refine Chk.mk ⟨rfl, rfl, rfl, trivial⟩ ?_
    | refine Chk.mk ⟨rfl, rfl, rfl, rfl, trivial⟩ ?_
    | refine Chk.mk ⟨rfl, rfl, rfl, rfl, rfl, trivial⟩ ?_
    | refine Chk.mk ⟨rfl, rfl, rfl, rfl, rfl, rfl, trivial⟩ ?_)
  by_cases hR : RightS s
  rotate_left
  · have fin : ∃ S'', Drop [[(b, row [.int .i64 s.blocks, .int .i64 s.epoch, .int .i64 s.seq, .int .i64 s.tail] 56)]] S'' ∧ I = I ∧ ((¬ RightS s ∧ Value.tuple #[.slice none 0 0, .int .i64 2] = .tuple #[.slice none 0 0, .int .i64 2] ∧ S'' = []) ∨ (RightS s ∧ ∃ a cap ch, Value.tuple #[.slice none 0 0, .int .i64 2] = .tuple #[.slice a 4096 cap, .int .i64 0] ∧ OwnB ch a 4096 cap (supL s) ∧ S'' = [ch])) :=
      ⟨[], ⟨_, List.Perm.refl _⟩, rfl, .inl ⟨hR, rfl, rfl⟩⟩
    refine CmpD.split (fun c1 => ?_) (fun c1 => ?_)
    · exact Done.mk fin
    repeat (first
      | refine LoadD.own 0 rfl _ rfl rfl ?_
      | refine LoadP.at 0 rfl _ rfl rfl ?_
      | refine StoreD.st 0 rfl rfl rfl ?_
      | refine CmpD.yes rfl ?_
      | refine CmpD.yes (by decide) ?_
      | refine CmpD.no (by decide) ?_
      | refine Chk.mk ⟨rfl, trivial⟩ ?_
      | refine Chk.mk ⟨rfl, rfl, trivial⟩ ?_
      | refine Chk.mk ⟨rfl, rfl, rfl, trivial⟩ ?_
      | refine Chk.mk ⟨rfl, rfl, rfl, rfl, trivial⟩ ?_
      | refine Chk.mk ⟨rfl, rfl, rfl, rfl, rfl, trivial⟩ ?_
      | refine Chk.mk ⟨rfl, rfl, rfl, rfl, rfl, rfl, trivial⟩ ?_)
    refine CmpD.split (fun c2 => ?_) (fun c2 => ?_)
    · exact Done.mk fin
    repeat (first
      | refine LoadD.own 0 rfl _ rfl rfl ?_
      | refine LoadP.at 0 rfl _ rfl rfl ?_
      | refine StoreD.st 0 rfl rfl rfl ?_
      | refine CmpD.yes rfl ?_
      | refine CmpD.yes (by decide) ?_
      | refine CmpD.no (by decide) ?_
      | refine Chk.mk ⟨rfl, trivial⟩ ?_
      | refine Chk.mk ⟨rfl, rfl, trivial⟩ ?_
      | refine Chk.mk ⟨rfl, rfl, rfl, trivial⟩ ?_
      | refine Chk.mk ⟨rfl, rfl, rfl, rfl, trivial⟩ ?_
      | refine Chk.mk ⟨rfl, rfl, rfl, rfl, rfl, trivial⟩ ?_
      | refine Chk.mk ⟨rfl, rfl, rfl, rfl, rfl, rfl, trivial⟩ ?_)
    refine CmpD.split (fun c3 => ?_) (fun c3 => ?_)
    · exact Done.mk fin
    repeat (first
      | refine LoadD.own 0 rfl _ rfl rfl ?_
      | refine LoadP.at 0 rfl _ rfl rfl ?_
      | refine StoreD.st 0 rfl rfl rfl ?_
      | refine CmpD.yes rfl ?_
      | refine CmpD.yes (by decide) ?_
      | refine CmpD.no (by decide) ?_
      | refine Chk.mk ⟨rfl, trivial⟩ ?_
      | refine Chk.mk ⟨rfl, rfl, trivial⟩ ?_
      | refine Chk.mk ⟨rfl, rfl, rfl, trivial⟩ ?_
      | refine Chk.mk ⟨rfl, rfl, rfl, rfl, trivial⟩ ?_
      | refine Chk.mk ⟨rfl, rfl, rfl, rfl, rfl, trivial⟩ ?_
      | refine Chk.mk ⟨rfl, rfl, rfl, rfl, rfl, rfl, trivial⟩ ?_)
    refine CmpD.split (fun c4 => ?_) (fun c4 => ?_)
    · exact Done.mk fin
    repeat (first
      | refine LoadD.own 0 rfl _ rfl rfl ?_
      | refine LoadP.at 0 rfl _ rfl rfl ?_
      | refine StoreD.st 0 rfl rfl rfl ?_
      | refine CmpD.yes rfl ?_
      | refine CmpD.yes (by decide) ?_
      | refine CmpD.no (by decide) ?_
      | refine Chk.mk ⟨rfl, trivial⟩ ?_
      | refine Chk.mk ⟨rfl, rfl, trivial⟩ ?_
      | refine Chk.mk ⟨rfl, rfl, rfl, trivial⟩ ?_
      | refine Chk.mk ⟨rfl, rfl, rfl, rfl, trivial⟩ ?_
      | refine Chk.mk ⟨rfl, rfl, rfl, rfl, rfl, trivial⟩ ?_
      | refine Chk.mk ⟨rfl, rfl, rfl, rfl, rfl, rfl, trivial⟩ ?_)
    refine CmpD.split (fun c5 => ?_) (fun c5 => ?_)
    · exact Done.mk fin
    repeat (first
      | refine LoadD.own 0 rfl _ rfl rfl ?_
      | refine LoadP.at 0 rfl _ rfl rfl ?_
      | refine StoreD.st 0 rfl rfl rfl ?_
      | refine CmpD.yes rfl ?_
      | refine CmpD.yes (by decide) ?_
      | refine CmpD.no (by decide) ?_
      | refine Chk.mk ⟨rfl, trivial⟩ ?_
      | refine Chk.mk ⟨rfl, rfl, trivial⟩ ?_
      | refine Chk.mk ⟨rfl, rfl, rfl, trivial⟩ ?_
      | refine Chk.mk ⟨rfl, rfl, rfl, rfl, trivial⟩ ?_
      | refine Chk.mk ⟨rfl, rfl, rfl, rfl, rfl, trivial⟩ ?_
      | refine Chk.mk ⟨rfl, rfl, rfl, rfl, rfl, rfl, trivial⟩ ?_)
    refine CmpD.split (fun c6 => ?_) (fun c6 => ?_)
    · exact Done.mk fin
    repeat (first
      | refine LoadD.own 0 rfl _ rfl rfl ?_
      | refine LoadP.at 0 rfl _ rfl rfl ?_
      | refine StoreD.st 0 rfl rfl rfl ?_
      | refine CmpD.yes rfl ?_
      | refine CmpD.yes (by decide) ?_
      | refine CmpD.no (by decide) ?_
      | refine Chk.mk ⟨rfl, trivial⟩ ?_
      | refine Chk.mk ⟨rfl, rfl, trivial⟩ ?_
      | refine Chk.mk ⟨rfl, rfl, rfl, trivial⟩ ?_
      | refine Chk.mk ⟨rfl, rfl, rfl, rfl, trivial⟩ ?_
      | refine Chk.mk ⟨rfl, rfl, rfl, rfl, rfl, trivial⟩ ?_
      | refine Chk.mk ⟨rfl, rfl, rfl, rfl, rfl, rfl, trivial⟩ ?_)
    refine CmpD.split (fun c7 => ?_) (fun c7 => ?_)
    · exact Done.mk fin
    repeat (first
      | refine LoadD.own 0 rfl _ rfl rfl ?_
      | refine LoadP.at 0 rfl _ rfl rfl ?_
      | refine StoreD.st 0 rfl rfl rfl ?_
      | refine CmpD.yes rfl ?_
      | refine CmpD.yes (by decide) ?_
      | refine CmpD.no (by decide) ?_
      | refine Chk.mk ⟨rfl, trivial⟩ ?_
      | refine Chk.mk ⟨rfl, rfl, trivial⟩ ?_
      | refine Chk.mk ⟨rfl, rfl, rfl, trivial⟩ ?_
      | refine Chk.mk ⟨rfl, rfl, rfl, rfl, trivial⟩ ?_
      | refine Chk.mk ⟨rfl, rfl, rfl, rfl, rfl, trivial⟩ ?_
      | refine Chk.mk ⟨rfl, rfl, rfl, rfl, rfl, rfl, trivial⟩ ?_)
    refine CmpD.split (fun c8 => ?_) (fun c8 => ?_)
    · exact Done.mk fin
    exact absurd ⟨by omega, by omega, by omega, by omega, by omega, by omega, by omega, by omega⟩ hR
  have hR2 := hR
  unfold RightS at hR2
  repeat (first
    | refine LoadD.own 0 rfl _ rfl rfl ?_
    | refine LoadP.at 0 rfl _ rfl rfl ?_
    | refine StoreD.st 0 rfl rfl rfl ?_
    | refine CmpD.yes rfl ?_
    | refine CmpD.yes (by decide) ?_
    | refine CmpD.no (by decide) ?_
    | refine Chk.mk ⟨rfl, trivial⟩ ?_
    | refine Chk.mk ⟨rfl, rfl, trivial⟩ ?_
    | refine Chk.mk ⟨rfl, rfl, rfl, trivial⟩ ?_
    | refine Chk.mk ⟨rfl, rfl, rfl, rfl, trivial⟩ ?_
    | refine Chk.mk ⟨rfl, rfl, rfl, rfl, rfl, trivial⟩ ?_
    | refine Chk.mk ⟨rfl, rfl, rfl, rfl, rfl, rfl, trivial⟩ ?_
    | refine ToD.i64 (by omega) (by omega) ?_
    | refine Chk.mk (by omega) ?_
    | refine CmpD.yes (by omega) ?_
    | refine CmpD.no (by omega) ?_)
  refine CodeF.sched [[], [0], [], [2], [0, 1, 2, 3], [], [5], [0, 1, 2, 3, 4, 5, 6], [], [8], [0, 1, 2, 3, 4, 5, 6, 7, 8, 9], [], [11], [0, 1, 2, 3, 4, 5, 6, 7, 8, 9, 10, 11, 12], [0, 1, 2, 3, 4, 5, 6, 7, 8, 9, 10, 11, 12, 13]] [2, 3, 5, 6, 8, 9, 11, 12, 0, 1, 4, 7, 10, 13, 14] (by kernel_rfl) ?_
  repeat (first
    | refine LoadD.own 0 rfl _ rfl rfl ?_
    | refine LoadP.at 0 rfl _ rfl rfl ?_
    | refine StoreD.st 0 rfl rfl rfl ?_
    | refine CmpD.yes rfl ?_
    | refine CmpD.yes (by decide) ?_
    | refine CmpD.no (by decide) ?_
    | refine Chk.mk ⟨rfl, trivial⟩ ?_
    | refine Chk.mk ⟨rfl, rfl, trivial⟩ ?_
    | refine Chk.mk ⟨rfl, rfl, rfl, trivial⟩ ?_
    | refine Chk.mk ⟨rfl, rfl, rfl, rfl, trivial⟩ ?_
    | refine Chk.mk ⟨rfl, rfl, rfl, rfl, rfl, trivial⟩ ?_
    | refine Chk.mk ⟨rfl, rfl, rfl, rfl, rfl, rfl, trivial⟩ ?_)
  conv => whnf
  intro bM
  repeat (first
    | refine LoadD.own 0 rfl _ rfl rfl ?_
    | refine LoadD.own 1 rfl _ rfl rfl ?_
    | refine LoadP.at 0 rfl _ rfl rfl ?_
    | refine LoadP.at 1 rfl _ rfl rfl ?_
    | refine StoreD.st 0 rfl rfl rfl ?_
    | refine StoreD.st 1 rfl rfl rfl ?_
    | refine CmpD.yes rfl ?_
    | refine CmpD.yes (by decide) ?_
    | refine CmpD.no (by decide) ?_
    | refine Chk.mk ⟨rfl, trivial⟩ ?_
    | refine Chk.mk ⟨rfl, rfl, trivial⟩ ?_
    | refine Chk.mk ⟨rfl, rfl, rfl, trivial⟩ ?_
    | refine Chk.mk ⟨rfl, rfl, rfl, rfl, trivial⟩ ?_
    | refine Chk.mk ⟨rfl, rfl, rfl, rfl, rfl, trivial⟩ ?_
    | refine Chk.mk ⟨rfl, rfl, rfl, rfl, rfl, rfl, trivial⟩ ?_)
  refine convMarkD tabOk rfl rfl rfl rfl 1 rfl ?_
  repeat (first
    | refine LoadD.own 0 rfl _ rfl rfl ?_
    | refine LoadD.own 1 rfl _ rfl rfl ?_
    | refine LoadP.at 0 rfl _ rfl rfl ?_
    | refine LoadP.at 1 rfl _ rfl rfl ?_
    | refine StoreD.st 0 rfl rfl rfl ?_
    | refine StoreD.st 1 rfl rfl rfl ?_
    | refine CmpD.yes rfl ?_
    | refine CmpD.yes (by decide) ?_
    | refine CmpD.no (by decide) ?_
    | refine Chk.mk ⟨rfl, trivial⟩ ?_
    | refine Chk.mk ⟨rfl, rfl, trivial⟩ ?_
    | refine Chk.mk ⟨rfl, rfl, rfl, trivial⟩ ?_
    | refine Chk.mk ⟨rfl, rfl, rfl, rfl, trivial⟩ ?_
    | refine Chk.mk ⟨rfl, rfl, rfl, rfl, rfl, trivial⟩ ?_
    | refine Chk.mk ⟨rfl, rfl, rfl, rfl, rfl, rfl, trivial⟩ ?_)
  refine Tri.nf (ref_add (l := magicL) ?_ (by omega) s.blocks (by omega) 8 (by omega)) ?_
  · exact ⟨rfl, .inr ⟨bM, 0, rfl, _, _, _, .own 1 List.mem_cons_self, rfl, rfl⟩⟩
  rintro v J S' hJ ⟨a1, cap1, ch1, rfl, h1, rfl, rfl⟩
  repeat (first
    | refine LoadD.own 0 rfl _ rfl rfl ?_
    | refine LoadD.own 1 rfl _ rfl rfl ?_
    | refine LoadP.at 0 rfl _ rfl rfl ?_
    | refine LoadP.at 1 rfl _ rfl rfl ?_
    | refine StoreD.st 0 rfl rfl rfl ?_
    | refine StoreD.st 1 rfl rfl rfl ?_
    | refine CmpD.yes rfl ?_
    | refine CmpD.yes (by decide) ?_
    | refine CmpD.no (by decide) ?_
    | refine Chk.mk ⟨rfl, trivial⟩ ?_
    | refine Chk.mk ⟨rfl, rfl, trivial⟩ ?_
    | refine Chk.mk ⟨rfl, rfl, rfl, trivial⟩ ?_
    | refine Chk.mk ⟨rfl, rfl, rfl, rfl, trivial⟩ ?_
    | refine Chk.mk ⟨rfl, rfl, rfl, rfl, rfl, trivial⟩ ?_
    | refine Chk.mk ⟨rfl, rfl, rfl, rfl, rfl, rfl, trivial⟩ ?_)
  refine Tri.nf (ref_add (h1.slC1 2 rfl) (by omega) s.epoch (by omega) 8 (by omega)) ?_
  rintro v J S' hJ ⟨a2, cap2, ch2, rfl, h2, rfl, rfl⟩
  repeat (first
    | refine LoadD.own 0 rfl _ rfl rfl ?_
    | refine LoadD.own 1 rfl _ rfl rfl ?_
    | refine LoadP.at 0 rfl _ rfl rfl ?_
    | refine LoadP.at 1 rfl _ rfl rfl ?_
    | refine StoreD.st 0 rfl rfl rfl ?_
    | refine StoreD.st 1 rfl rfl rfl ?_
    | refine CmpD.yes rfl ?_
    | refine CmpD.yes (by decide) ?_
    | refine CmpD.no (by decide) ?_
    | refine Chk.mk ⟨rfl, trivial⟩ ?_
    | refine Chk.mk ⟨rfl, rfl, trivial⟩ ?_
    | refine Chk.mk ⟨rfl, rfl, rfl, trivial⟩ ?_
    | refine Chk.mk ⟨rfl, rfl, rfl, rfl, trivial⟩ ?_
    | refine Chk.mk ⟨rfl, rfl, rfl, rfl, rfl, trivial⟩ ?_
    | refine Chk.mk ⟨rfl, rfl, rfl, rfl, rfl, rfl, trivial⟩ ?_)
  refine Tri.nf (ref_add (h2.slC1 3 rfl) (by omega) s.seq (by omega) 8 (by omega)) ?_
  rintro v J S' hJ ⟨a3, cap3, ch3, rfl, h3, rfl, rfl⟩
  repeat (first
    | refine LoadD.own 0 rfl _ rfl rfl ?_
    | refine LoadD.own 1 rfl _ rfl rfl ?_
    | refine LoadP.at 0 rfl _ rfl rfl ?_
    | refine LoadP.at 1 rfl _ rfl rfl ?_
    | refine StoreD.st 0 rfl rfl rfl ?_
    | refine StoreD.st 1 rfl rfl rfl ?_
    | refine CmpD.yes rfl ?_
    | refine CmpD.yes (by decide) ?_
    | refine CmpD.no (by decide) ?_
    | refine Chk.mk ⟨rfl, trivial⟩ ?_
    | refine Chk.mk ⟨rfl, rfl, trivial⟩ ?_
    | refine Chk.mk ⟨rfl, rfl, rfl, trivial⟩ ?_
    | refine Chk.mk ⟨rfl, rfl, rfl, rfl, trivial⟩ ?_
    | refine Chk.mk ⟨rfl, rfl, rfl, rfl, rfl, trivial⟩ ?_
    | refine Chk.mk ⟨rfl, rfl, rfl, rfl, rfl, rfl, trivial⟩ ?_)
  refine Tri.nf (ref_add (h3.slC1 4 rfl) (by omega) s.tail (by omega) 8 (by omega)) ?_
  rintro v J S' hJ ⟨a4, cap4, ch4, rfl, h4, rfl, rfl⟩
  repeat (first
    | refine LoadD.own 0 rfl _ rfl rfl ?_
    | refine LoadD.own 1 rfl _ rfl rfl ?_
    | refine LoadP.at 0 rfl _ rfl rfl ?_
    | refine LoadP.at 1 rfl _ rfl rfl ?_
    | refine StoreD.st 0 rfl rfl rfl ?_
    | refine StoreD.st 1 rfl rfl rfl ?_
    | refine CmpD.yes rfl ?_
    | refine CmpD.yes (by decide) ?_
    | refine CmpD.no (by decide) ?_
    | refine Chk.mk ⟨rfl, trivial⟩ ?_
    | refine Chk.mk ⟨rfl, rfl, trivial⟩ ?_
    | refine Chk.mk ⟨rfl, rfl, rfl, trivial⟩ ?_
    | refine Chk.mk ⟨rfl, rfl, rfl, rfl, trivial⟩ ?_
    | refine Chk.mk ⟨rfl, rfl, rfl, rfl, rfl, trivial⟩ ?_
    | refine Chk.mk ⟨rfl, rfl, rfl, rfl, rfl, rfl, trivial⟩ ?_)
  have h40 : OwnB ch4 a4 (8 + 8 + 8 + 8 + 8) cap4 (sup40 s) := h4
  refine Tri.nf (ref_More 0 (by decide) (h40.slC1 5 rfl) (by omega)) ?_
  rintro v J S' hJ ⟨rfl, rfl, rfl⟩
  have hcrc : crcMore 0 (sup40 s) < 4294967296 := Nat.xor_lt_two_pow (n := 32) (crcReg_lt (by decide) _) (by decide)
  refine ToD.to ((crcMore 0 (sup40 s) : Nat) : Int) (wrap_i64 (by omega) (by omega)) ?_
  refine Tri.nf (ref_add (h40.slC1 5 rfl) (by omega) _ (by omega) 4 (by omega)) ?_
  rintro v J S' hJ ⟨a5, cap5, ch5, rfl, h5, rfl, rfl⟩
  have h44 : OwnB ch5 a5 44 cap5 (sup44 s) := h5
  refine CodeF.loopD [4] (fun vs J' S' => ∃ (i : Nat) (a : Option Addr) (cap : Nat) (ch : List Blk), i ≤ 4052 ∧ OwnB ch a (44 + i) cap (sup44 s ++ List.replicate i 0) ∧ vs = [.slice a (44 + i) cap] ∧ I = J' ∧ S' = [ch])
    (fun vs _ _ => match vs with | [.slice _ l _] => 4096 - l | _ => 0) ?_ ?_
  · exact ⟨_, Drop.pick [6] _ rfl, 0, a5, cap5, ch5, by omega, by rw [List.replicate_zero, List.append_nil]; exact h44, rfl, rfl, rfl⟩
  rintro vs gE J' S' hJ' ⟨i, a, cap, ch, hi, hown, rfl, rfl, rfl⟩
  refine CmpD.split (fun c1 => ?_) (fun c1 => ?_)
  · conv => whnf
    intro bN
    refine appendD tabOk rfl rfl rfl rfl rfl rfl rfl 0 rfl hown (SrcOk.slice (n := 1) (news := bts [0]) tabOk rfl ((OwnC.whole (len := 1) (size := 1) rfl).slC 1 rfl) (bts_plain _)) rfl (by show (44 + i + 1) * 1 ≤ _; omega) (by omega) ?_
    intro a2 cap2 ch2 hown2
    refine ⟨_, Drop.pick [0] _ rfl, ⟨i + 1, a2, cap2, ch2, by omega, by rw [OwnB, ← zeros_snoc, bts_append]; exact hown2, rfl, rfl, rfl⟩, ?_⟩
    show 4096 - (44 + i + 1) < 4096 - (44 + i)
    omega
  · obtain rfl : i = 4052 := by omega
    exact Done.mk ⟨[ch], Drop.refl _, rfl, .inr ⟨hR, a, cap, ch, rfl, hown, rfl⟩⟩
/-- law 10's superblock as bytes, fixed -/
def superOf (epoch seq : Int) : Sup := ⟨64, epoch, seq, 0⟩
theorem law_of (epoch seq : Int) (I : Imm) : Tri Try.prog 61 #[.int .i64 epoch, .int .i64 seq] I [] fun v J _ => v = (superOf epoch seq).v ∧ I = J := by
  refine Tri.of (args := [.int .i64 epoch, .int .i64 seq]) tabOk Try.func61 rfl (by kernel_rfl) (by kernel_rfl) ?_
  conv => whnf
  intro b
  repeat (first
    | refine LoadD.own 0 rfl _ rfl rfl ?_
    | refine LoadP.at 0 rfl _ rfl rfl ?_
    | refine StoreD.st 0 rfl rfl rfl ?_
    | refine CmpD.yes rfl ?_
    | refine CmpD.yes (by decide) ?_
    | refine CmpD.no (by decide) ?_
    | refine Chk.mk ⟨rfl, trivial⟩ ?_
    | refine Chk.mk ⟨rfl, rfl, trivial⟩ ?_
    | refine Chk.mk ⟨rfl, rfl, rfl, trivial⟩ ?_
    | refine Chk.mk ⟨rfl, rfl, rfl, rfl, trivial⟩ ?_
    | refine Chk.mk ⟨rfl, rfl, rfl, rfl, rfl, trivial⟩ ?_
    | refine Chk.mk ⟨rfl, rfl, rfl, rfl, rfl, rfl, trivial⟩ ?_)
  exact Done.mk ⟨rfl, rfl⟩
theorem law_bytes (epoch seq : Int) (hR : RightS (superOf epoch seq)) (I : Imm) : Tri Try.prog 59 #[.int .i64 epoch, .int .i64 seq] I [] fun v J _ => ∃ a cap, v = .slice a 4096 cap ∧ Rds J a 4096 (bts (supL (superOf epoch seq))) := by
  have own : Tri Try.prog 59 #[.int .i64 epoch, .int .i64 seq] I [] fun v J S' => ∃ a cap ch, v = .slice a 4096 cap ∧ OwnB ch a 4096 cap (supL (superOf epoch seq)) ∧ S' = [ch] := by
    refine Tri.of (args := [.int .i64 epoch, .int .i64 seq]) tabOk Try.func59 rfl (by kernel_rfl) (by kernel_rfl) ?_
    refine Tri.free (law_of epoch seq I) ?_
    rintro v J _ hJ ⟨rfl, rfl⟩
    refine Tri.nf (ref_PutSuper (superOf epoch seq) I) ?_
    rintro v J S' hJ ⟨rfl, ⟨h, _⟩ | ⟨_, a, cap, ch, rfl, hown, rfl⟩⟩
    · exact absurd hR h
    · exact Done.mk ⟨a, cap, ch, rfl, hown, rfl⟩
  refine Tri.fixed own ?_
  rintro v J S' hJ ⟨a, cap, ch, rfl, hown, rfl⟩
  exact ⟨0, ch, rfl, fun J' hJ' hm => ⟨a, cap, rfl, Rds.of_own hown hm⟩⟩
theorem law_layout64 (I : Imm) : Tri Try.prog 51 #[] I [] fun v J _ => v = layV 64 2 (layL 64) (2 + layL 64) (3 + layL 64) (64 / 16) (3 + layL 64 + 64 / 16) ∧ I = J := by
  refine Tri.of (args := []) tabOk Try.func51 rfl (by kernel_rfl) (by kernel_rfl) ?_
  conv => whnf
  intro b
  refine Tri.free (ref_Of 64 I) ?_
  rintro v J _ hJ ⟨rfl, rfl⟩
  rw [layA, if_neg (by omega)]
  conv => whnf
  intro b2
  repeat (first
    | refine LoadD.own 0 rfl _ rfl rfl ?_
    | refine LoadD.own 1 rfl _ rfl rfl ?_
    | refine LoadP.at 0 rfl _ rfl rfl ?_
    | refine LoadP.at 1 rfl _ rfl rfl ?_
    | refine StoreD.st 0 rfl rfl rfl ?_
    | refine StoreD.st 1 rfl rfl rfl ?_
    | refine CmpD.yes rfl ?_
    | refine CmpD.yes (by decide) ?_
    | refine CmpD.no (by decide) ?_
    | refine Chk.mk ⟨rfl, trivial⟩ ?_
    | refine Chk.mk ⟨rfl, rfl, trivial⟩ ?_
    | refine Chk.mk ⟨rfl, rfl, rfl, trivial⟩ ?_
    | refine Chk.mk ⟨rfl, rfl, rfl, rfl, trivial⟩ ?_
    | refine Chk.mk ⟨rfl, rfl, rfl, rfl, rfl, trivial⟩ ?_
    | refine Chk.mk ⟨rfl, rfl, rfl, rfl, rfl, rfl, trivial⟩ ?_)
  exact Done.mk ⟨rfl, rfl⟩
end Go.Proofs.Ytbpdbgcndfcilaa
namespace Go.Proofs
open Go.Shelf
def Try.lays189_ren : Go.Shelf.Ren := ⟨fun | 189 => 139 | 125 => 163 | 257 => 162 | 128 => 177 | 129 => 178 | 294 => 168 | 295 => 169 | 296 => 170 | 297 => 171 | 298 => 172 | 299 => 173 | 216 => 174 | 300 => 175 | 301 => 176 | 328 => 179 | 329 => 180 | 330 => 181 | 331 => 182 | 332 => 183 | 215 => 184 | 343 => 185 | n => n, fun | 28 => 40 | 3 => 3 | 46 => 167 | 0 => 0 | 51 => 178 | 53 => 166 | 4 => 4 | 183 => 214 | 182 => 213 | 131 => 218 | 5 => 5 | 9 => 9 | 218 => 222 | 222 => 226 | 228 => 228 | 229 => 35 | n => n, fun | n => n⟩
theorem Try.lays189 : Go.Proofs.Lays.n189 Try.prog Try.lays189_ren := {
  mixed := by kernel_rfl
  f125 := Try.func163.trans (congrArg some (by kernel_rfl))
  f128 := Try.func177.trans (congrArg some (by kernel_rfl))
  f129 := Try.func178.trans (congrArg some (by kernel_rfl))
  f189 := Try.func139.trans (congrArg some (by kernel_rfl))
  f215 := Try.func184.trans (congrArg some (by kernel_rfl))
  f216 := Try.func174.trans (congrArg some (by kernel_rfl))
  f257 := Try.func162.trans (congrArg some (by kernel_rfl))
  f294 := Try.func168.trans (congrArg some (by kernel_rfl))
  f295 := Try.func169.trans (congrArg some (by kernel_rfl))
  f296 := Try.func170.trans (congrArg some (by kernel_rfl))
  f297 := Try.func171.trans (congrArg some (by kernel_rfl))
  f298 := Try.func172.trans (congrArg some (by kernel_rfl))
  f299 := Try.func173.trans (congrArg some (by kernel_rfl))
  f300 := Try.func175.trans (congrArg some (by kernel_rfl))
  f301 := Try.func176.trans (congrArg some (by kernel_rfl))
  f328 := Try.func179.trans (congrArg some (by kernel_rfl))
  f329 := Try.func180.trans (congrArg some (by kernel_rfl))
  f330 := Try.func181.trans (congrArg some (by kernel_rfl))
  f331 := Try.func182.trans (congrArg some (by kernel_rfl))
  f332 := Try.func183.trans (congrArg some (by kernel_rfl))
  f343 := Try.func185.trans (congrArg some (by kernel_rfl))
  t0 := Try.underlying0
  a0 := Try.isAgg0
  z0 := Try.sizeOf0
  v0 := Try.zeroValue0
  t3 := Try.underlying3
  a3 := Try.isAgg3
  z3 := Try.sizeOf3
  v3 := Try.zeroValue3
  t4 := Try.underlying4
  a4 := Try.isAgg4
  z4 := Try.sizeOf4
  v4 := Try.zeroValue4
  t5 := Try.underlying5
  a5 := Try.isAgg5
  z5 := Try.sizeOf5
  v5 := Try.zeroValue5
  t9 := Try.underlying9
  a9 := Try.isAgg9
  z9 := Try.sizeOf9
  v9 := Try.zeroValue9
  t28 := Try.underlying40
  a28 := Try.isAgg40
  z28 := Try.sizeOf40
  v28 := Try.zeroValue40
  t46 := Try.underlying167
  a46 := Try.isAgg167
  z46 := Try.sizeOf167
  v46 := Try.zeroValue167
  t51 := Try.underlying178
  a51 := Try.isAgg178
  z51 := Try.sizeOf178
  v51 := Try.zeroValue178
  t53 := Try.underlying166
  a53 := Try.isAgg166
  z53 := Try.sizeOf166
  v53 := Try.zeroValue166
  t131 := Try.underlying218
  a131 := Try.isAgg218
  z131 := Try.sizeOf218
  v131 := Try.zeroValue218
  t182 := Try.underlying213
  a182 := Try.isAgg213
  z182 := Try.sizeOf213
  v182 := Try.zeroValue213
  t183 := Try.underlying214
  a183 := Try.isAgg214
  z183 := Try.sizeOf214
  v183 := Try.zeroValue214
  t218 := Try.underlying222
  a218 := Try.isAgg222
  z218 := Try.sizeOf222
  v218 := Try.zeroValue222
  t222 := Try.underlying226
  a222 := Try.isAgg226
  z222 := Try.sizeOf226
  v222 := Try.zeroValue226
  t228 := Try.underlying228
  a228 := Try.isAgg228
  z228 := Try.sizeOf228
  v228 := Try.zeroValue228
  t229 := Try.underlying35
  a229 := Try.isAgg35
  z229 := Try.sizeOf35
  v229 := Try.zeroValue35 }
open Go.Sort Go.RowKit in
theorem Try.slices_Sort_int (blk off cap : Nat) (zs : List Int) (w : World) (hH : Holds (Value.int .i64) w blk off zs.toArray) (hblk : blk < w.heap.size) (hsz : zs.length < 4611686018427387904) :
    Calls Try.prog 139 #[.slice (some ⟨blk, off, none⟩) zs.length cap] w fun e w' =>
      e = .returned (.tuple #[]) ∧ ∃ n os, w' = grow (putRow (Value.int .i64) (Sort.ahead w n) blk off (zs.mergeSort fun x y => decide (x ≤ y)).toArray) os := Any.slices_Sort_int Try.lays189 blk off cap zs w hH hblk hsz
open Go.RowKit Go.Sort in
/-- .. and plain. (LAID: no walk: one application.) -/
theorem Try.slices_Sort_int_none (p : Option Addr) (cap : Nat) (w : World) :
    Calls Try.prog 139 #[.slice p 0 cap] w fun e w' => e = .returned (.tuple #[]) ∧ w' = w := Any.slices_Sort_int_none Try.lays189 p cap w
end Go.Proofs
namespace Go.Proofs.Ytbpdbgcndfcilaa
open Go.RowKit Go.Sl
set_option maxRecDepth 20000

theorem nodup_len {α : Type} [DecidableEq α] : ∀ (l m : List α), l.Nodup → (∀ x ∈ l, x ∈ m) → l.length ≤ m.length
  | [], _, _, _ => by simp
  | x :: l, m, h, hs => by
    have hx := hs x (by simp)
    rw [List.nodup_cons] at h
    have h1 := nodup_len l (m.erase x) h.2 (fun y hy => (List.mem_erase_of_ne (by rintro rfl; exact h.1 hy)).2 (hs y (by simp [hy])))
    rw [List.length_erase_of_mem hx] at h1
    have h2 : 0 < m.length := List.length_pos_of_mem hx
    rw [List.length_cons]; omega
theorem keys_of (r : Nat) (I : Imm) (S : St) : Tri Try.prog 105 #[.map (some r)] I S fun v J S' => ∃ b, v = .func (.func 140) #[] #[.pointer (some ⟨b, 0, none⟩)] ∧ I = J ∧ S' = S ++ [[(b, row [.map (some r)] 152)]] := by
  refine Tri.of (args := [.map (some r)]) tabOk Try.func105 rfl (by kernel_rfl) (by kernel_rfl) ?_
  conv => whnf
  intro b
  exact Done.mk ⟨b, rfl, rfl, rfl⟩
@[reducible] def keyBox (b r : Nat) : List Blk := [(b, row [.map (some r)] 152)]
theorem keys_it (b r : Nat) (ob : Obj) (l : List (Int × Value)) (hM : MapR ob l) (I : Imm) :
    SeqG Try.prog 140 #[.pointer (some ⟨b, 0, none⟩)] I [keyBox b r, [(r, ob)]] (σ := List Int) [] (fun s xs s' => ∃ n, xs = [.int .i64 n] ∧ n ∉ s ∧ n ∈ l.map Prod.fst ∧ s' = s ++ [n])
      (fun s _ R => s.Nodup ∧ (∀ n, n ∈ s ↔ n ∈ l.map Prod.fst) ∧ R = [[(r, ob)]]) (fun _ R => R = [[(r, ob)]]) := by
  intro lp inv stp J c hJ hY h0
  refine Tri.drop ?_ (fun _ _ _ _ h => h)
  refine Tri.of (args := [.func (.yield lp) #[] #[], .pointer (some ⟨b, 0, none⟩)]) tabOk Try.func140 rfl (by kernel_rfl) (by kernel_rfl) ?_
  refine LoadD.own 1 rfl [.map (some r)] rfl rfl ?_
  refine rangeMapD tabOk rfl rfl rfl 2 rfl hM ?_
  intro bi it0 hI0
  refine CodeF.loopD [0, 5] (fun vs J' S' => ∃ (s : List Int) (c' : List Blk) (it : Obj), s.Nodup ∧ (∀ n ∈ s, n ∈ l.map Prod.fst) ∧ IterR r ob it s ∧ inv s J' c' ∧ J.le J' ∧ vs = [.func (.yield lp) #[] #[], .pointer (some ⟨bi, 0, none⟩)] ∧ S' = [c', keyBox b r, [(r, ob)], [(bi, it)]])
    (fun _ _ S' => match S' with | [_, _, _, [(_, .mapIter _ _ sb _)]] => l.length + 1 - sb.size | _ => 0) ?_ ?_
  · exact ⟨_, Drop.refl _, [], c, it0, by simp, by simp, hI0, h0, J.le_refl, rfl, rfl⟩
  rintro vs g J' S' hJ' ⟨s, c', it, hnd, hsub, hI, hinv, hJJ, rfl, rfl⟩
  have hsz : ∀ it s, IterR r ob it s → ∃ a q sb t, it = .mapIter a q sb t ∧ sb.size = s.length := by
    rintro it s ⟨es, clk, sb, c0, ms, _, rfl, _, _, h1, _, h2⟩
    refine ⟨_, _, _, _, rfl, ?_⟩
    have h3 := congrArg List.length h1
    have h4 := congrArg List.length h2
    simp only [List.length_map, Array.length_toList] at h3 h4
    omega
  refine nextMapD rfl rfl 2 3 rfl rfl hM hI ?_ ?_
  · intro hall
    refine Done.mk ⟨[c', [(r, ob)]], Drop.pick [0, 2] _ rfl, c', _, rfl, .inl ⟨s, ⟨hnd, fun n => ⟨hsub n, fun hn => ?_⟩, rfl⟩, hinv⟩⟩
    obtain ⟨p, hp, rfl⟩ := List.mem_map.1 hn
    exact hall p hp
  · intro n v it' hmem hns hI'
    refine entryMapD rfl rfl 2 3 rfl rfl hM hI' ?_
    intro v' hv'
    have hnk : n ∈ l.map Prod.fst := List.mem_map.2 ⟨(n, v), hmem, rfl⟩
    refine yieldD rfl rfl rfl (args := #[.int .i64 n]) rfl 0 rfl (hY s [.int .i64 n] (s ++ [n]) J' c' hJJ ⟨n, rfl, hns, hnk, rfl⟩ hinv) ?_
    have hnd2 : (s ++ [n]).Nodup := by
      rw [List.nodup_append]
      refine ⟨hnd, by simp, ?_⟩
      intro a ha b' hb' hab
      simp only [List.mem_singleton] at hb'
      subst hb'; subst hab; exact hns ha
    have hsub2 : ∀ m ∈ s ++ [n], m ∈ l.map Prod.fst := by
      intro m hm
      rcases List.mem_append.1 hm with hm | hm
      · exact hsub m hm
      · simp only [List.mem_singleton] at hm; subst hm; exact hnk
    rintro bb J2 c2 hle (⟨rfl, hi2⟩ | ⟨rfl, hs2⟩)
    · refine ⟨_, Drop.refl _, ⟨s ++ [n], c2, it', hnd2, hsub2, hI', hi2, Imm.le_trans hJJ hle, rfl, rfl⟩, ?_⟩
      obtain ⟨a1, q1, sb1, t1, rfl, e1⟩ := hsz _ _ hI
      obtain ⟨a2, q2, sb2, t2, rfl, e2⟩ := hsz _ _ hI'
      show l.length + 1 - sb2.size < l.length + 1 - sb1.size
      have h5 : (s ++ [n]).length ≤ (l.map Prod.fst).length := nodup_len _ _ hnd2 hsub2
      rw [List.length_append, List.length_map, List.length_singleton] at h5
      rw [List.length_append, List.length_singleton] at e2
      omega
    · exact Done.mk ⟨[c2, [(r, ob)]], Drop.pick [0, 2] _ rfl, c2, _, rfl, .inr ⟨hs2, rfl⟩⟩
/-- the keys, collected -/
theorem appendSeq_keys (b r : Nat) (ob : Obj) (l : List (Int × Value)) (hM : MapR ob l) (hl : l.length ≤ 1000000) (I : Imm) :
    Tri Try.prog 161 #[.slice none 0 0, .func (.func 140) #[] #[.pointer (some ⟨b, 0, none⟩)]] I [keyBox b r, [(r, ob)]] fun v J S' =>
      ∃ a cap ch s, v = .slice a s.length cap ∧ OwnC ch 1 a s.length cap (ints s) ∧ s.Nodup ∧ (∀ n, n ∈ s ↔ n ∈ l.map Prod.fst) ∧ I.le J ∧ S' = [[(r, ob)], ch] := by
  refine Tri.drop ?_ (fun _ _ _ _ h => h)
  refine Tri.of (args := [.slice none 0 0, .func (.func 140) #[] #[.pointer (some ⟨b, 0, none⟩)]]) tabOk Try.func161 rfl (by kernel_rfl) (by kernel_rfl) ?_
  conv => whnf
  intro b2
  refine CodeF.rangeG rfl [[(b2, row [.slice none 0 0] 40)], []] [keyBox b r, [(r, ob)]] ((Drop.pick [2, 0, 1] _ rfl).trans (Drop.flat (by simp [St.at]))) (keys_it b r ob l hM I) (by rintro s xs s' ⟨n, rfl, _⟩; rfl)
    (fun s J' S' => ∃ (a : Option Addr) (cap : Nat) (ch : List Blk), s.Nodup ∧ (∀ n ∈ s, n ∈ l.map Prod.fst) ∧ S' = [[(b2, row [.slice a s.length cap] 40)], ch] ∧ OwnC ch 1 a s.length cap (ints s) ∧ I.le J')
    (fun _ _ _ => False) ⟨none, 0, [], by simp, by simp, rfl, OwnC.nil _ _, I.le_refl⟩ ?round ?done ?stop
  case round =>
    rintro s xs s' J' S' hJ' ⟨n, rfl, hns, hnk, rfl⟩ ⟨a, cap, ch, hnd, hsub, rfl, hown, hle⟩
    have hnd2 : (s ++ [n]).Nodup := by
      rw [List.nodup_append]
      refine ⟨hnd, by simp, ?_⟩
      intro a ha b' hb' hab
      simp only [List.mem_singleton] at hb'
      subst hb'; subst hab; exact hns ha
    have hsub2 : ∀ m ∈ s ++ [n], m ∈ l.map Prod.fst := by
      intro m hm
      rcases List.mem_append.1 hm with hm | hm
      · exact hsub m hm
      · simp only [List.mem_singleton] at hm; subst hm; exact hnk
    have h5 : (s ++ [n]).length ≤ (l.map Prod.fst).length := nodup_len _ _ hnd2 hsub2
    rw [List.length_append, List.length_map, List.length_singleton] at h5
    repeat (first
      | refine LoadD.own 0 rfl _ rfl rfl ?_
      | refine LoadD.own 1 rfl _ rfl rfl ?_
      | refine LoadP.at 0 rfl _ rfl rfl ?_
      | refine LoadP.at 1 rfl _ rfl rfl ?_
      | refine StoreD.st 0 rfl rfl rfl ?_
      | refine StoreD.st 1 rfl rfl rfl ?_
      | refine CmpD.yes rfl ?_
      | refine CmpD.yes (by decide) ?_
      | refine CmpD.no (by decide) ?_
      | refine Chk.mk ⟨rfl, trivial⟩ ?_
      | refine Chk.mk ⟨rfl, rfl, trivial⟩ ?_
      | refine Chk.mk ⟨rfl, rfl, rfl, trivial⟩ ?_
      | refine Chk.mk ⟨rfl, rfl, rfl, rfl, trivial⟩ ?_
      | refine Chk.mk ⟨rfl, rfl, rfl, rfl, rfl, trivial⟩ ?_
      | refine Chk.mk ⟨rfl, rfl, rfl, rfl, rfl, rfl, trivial⟩ ?_)
    conv => whnf
    intro bN
    refine appendD tabOk rfl rfl rfl rfl rfl rfl rfl 1 rfl hown (SrcOk.slice (n := 1) (news := ints [n]) tabOk rfl ((OwnC.whole (len := 1) (size := 1) rfl).slC 2 rfl) (ints_plain _)) rfl (by show (s.length + 1) * 8 ≤ _; omega) (by omega) ?_
    intro a2 cap2 ch2 hown2
    repeat (first
      | refine LoadD.own 0 rfl _ rfl rfl ?_
      | refine LoadD.own 1 rfl _ rfl rfl ?_
      | refine LoadP.at 0 rfl _ rfl rfl ?_
      | refine LoadP.at 1 rfl _ rfl rfl ?_
      | refine StoreD.st 0 rfl rfl rfl ?_
      | refine StoreD.st 1 rfl rfl rfl ?_
      | refine CmpD.yes rfl ?_
      | refine CmpD.yes (by decide) ?_
      | refine CmpD.no (by decide) ?_
      | refine Chk.mk ⟨rfl, trivial⟩ ?_
      | refine Chk.mk ⟨rfl, rfl, trivial⟩ ?_
      | refine Chk.mk ⟨rfl, rfl, rfl, trivial⟩ ?_
      | refine Chk.mk ⟨rfl, rfl, rfl, rfl, trivial⟩ ?_
      | refine Chk.mk ⟨rfl, rfl, rfl, rfl, rfl, trivial⟩ ?_
      | refine Chk.mk ⟨rfl, rfl, rfl, rfl, rfl, rfl, trivial⟩ ?_)
    refine ⟨_, Drop.pick [0, 1] _ rfl, a2, cap2, ch2, hnd2, hsub2, ?_, ?_, hle⟩
    · rw [List.length_append]; rfl
    · rw [List.length_append]; unfold ints at *; rw [List.map_append]; exact hown2
  case done =>
    rintro s J' S' R hJ' ⟨hnd, hall, rfl⟩ ⟨a, cap, ch, _, _, rfl, hown, hle⟩
    repeat (first
      | refine LoadD.own 0 rfl _ rfl rfl ?_
      | refine LoadD.own 1 rfl _ rfl rfl ?_
      | refine LoadD.own 2 rfl _ rfl rfl ?_
      | refine LoadP.at 0 rfl _ rfl rfl ?_
      | refine LoadP.at 1 rfl _ rfl rfl ?_
      | refine LoadP.at 2 rfl _ rfl rfl ?_
      | refine StoreD.st 0 rfl rfl rfl ?_
      | refine StoreD.st 1 rfl rfl rfl ?_
      | refine StoreD.st 2 rfl rfl rfl ?_
      | refine CmpD.yes rfl ?_
      | refine CmpD.yes (by decide) ?_
      | refine CmpD.no (by decide) ?_
      | refine Chk.mk ⟨rfl, trivial⟩ ?_
      | refine Chk.mk ⟨rfl, rfl, trivial⟩ ?_
      | refine Chk.mk ⟨rfl, rfl, rfl, trivial⟩ ?_
      | refine Chk.mk ⟨rfl, rfl, rfl, rfl, trivial⟩ ?_
      | refine Chk.mk ⟨rfl, rfl, rfl, rfl, rfl, trivial⟩ ?_
      | refine Chk.mk ⟨rfl, rfl, rfl, rfl, rfl, rfl, trivial⟩ ?_)
    exact Done.mk ⟨[[(r, ob)], ch], Drop.pick [2, 1] _ rfl, a, cap, ch, s, rfl, hown, hnd, hall, hle, rfl⟩
  case stop =>
    rintro e J' S' R hJ' hs _
    exact hs.elim
theorem collect_keys (b r : Nat) (ob : Obj) (l : List (Int × Value)) (hM : MapR ob l) (hl : l.length ≤ 1000000) (I : Imm) :
    Tri Try.prog 138 #[.func (.func 140) #[] #[.pointer (some ⟨b, 0, none⟩)]] I [keyBox b r, [(r, ob)]] fun v J S' =>
      ∃ a cap ch s, v = .slice a s.length cap ∧ OwnC ch 1 a s.length cap (ints s) ∧ s.Nodup ∧ (∀ n, n ∈ s ↔ n ∈ l.map Prod.fst) ∧ I.le J ∧ S' = [[(r, ob)], ch] := by
  refine Tri.of (args := [.func (.func 140) #[] #[.pointer (some ⟨b, 0, none⟩)]]) tabOk Try.func138 rfl (by kernel_rfl) (by kernel_rfl) ?_
  refine Tri.mono (appendSeq_keys b r ob l hM hl I) ?_
  rintro v J S' hJ ⟨a, cap, ch, s, rfl, h1, h2, h3, h4, rfl⟩
  exact Done.mk ⟨a, cap, ch, s, rfl, h1, h2, h3, h4, rfl⟩
end Go.Proofs.Ytbpdbgcndfcilaa
namespace Go.Proofs.Ytbpdbgcndfcilaa
open Go.RowKit Go.Sl
set_option maxRecDepth 20000

def sortI (l : List Int) : List Int := l.mergeSort fun x y => decide (x ≤ y)
theorem sortI_perm (l : List Int) : (sortI l).Perm l := List.mergeSort_perm _ _
theorem putCells_mid (pre post : List Value) (zs : List Int) (cs : List Value) (hc : cs.length = zs.length) :
    (Go.Sort.putCells (Value.int .i64) pre.length zs.toArray (pre ++ cs ++ post).toArray).toList = pre ++ ints zs ++ post := by
  apply List.ext_getElem?
  intro j
  simp only [Go.Sort.putCells, Array.toList_mapIdx, List.getElem?_mapIdx, List.size_toArray]
  have hil : (ints zs).length = zs.length := by simp [ints]
  have e : ∀ ds : List Value, ds.length = zs.length → ∀ i, (pre ++ ds ++ post)[i]? = if i < pre.length then pre[i]? else if i - pre.length < zs.length then ds[i - pre.length]? else post[i - pre.length - zs.length]? := by
    intro ds hd i
    rw [List.append_assoc]
    split
    · rename_i h; rw [List.getElem?_append_left h]
    · rename_i h
      rw [List.getElem?_append_right (by omega)]
      split
      · rename_i h2; rw [List.getElem?_append_left (by omega)]
      · rename_i h2; rw [List.getElem?_append_right (by omega), hd]
  rw [e cs hc, e (ints zs) hil]
  by_cases h1 : j < pre.length
  · rw [if_pos h1, if_pos h1, List.getElem?_eq_getElem h1]
    simp only [Option.map_some]
    rw [if_neg (by omega)]
  · rw [if_neg h1, if_neg h1]
    by_cases h2 : j - pre.length < zs.length
    · rw [if_pos h2, if_pos h2, List.getElem?_eq_getElem (by omega), List.getElem?_eq_getElem (by omega)]
      simp only [Option.map_some]
      rw [if_pos (by omega)]
      simp [ints, h2]
    · rw [if_neg h2, if_neg h2]
      cases hp : post[j - pre.length - zs.length]? with
      | none => rfl
      | some v =>
        simp only [Option.map_some]
        rw [if_neg (by omega)]
theorem Has_grow {w : World} {I : Imm} {L : List Blk} (os : Array Obj) (h : Has w I L) : Has (Go.Sort.grow w os) I L := by
  have old : ∀ (b : Nat) (x : Obj), w.heap[b]? = some x → (Go.Sort.grow w os).heap[b]? = some x := fun b x hb => by
    show (w.heap ++ os)[b]? = _
    rw [Array.getElem?_append_left (lt_of_some hb)]; exact hb
  exact ⟨fun b o hb => old _ _ (h.imm b o hb), fun x hx => old _ _ (h.mem x hx), h.nodup, h.disj⟩
theorem sort_ints {I : Imm} {S : St} (k : Nat) {ch : List Blk} (hk : S[k]? = some ch) {a : Option Addr} {len cap : Nat} {zs : List Int} (hown : OwnC ch 1 a len cap (ints zs)) (hlen : len ≤ 1000000000) :
    Tri Try.prog 139 #[.slice a len cap] I S fun v J S' => I = J ∧ v = .tuple #[] ∧ ∃ ch', OwnC ch' 1 a len cap (ints (sortI zs)) ∧ S' = S.set k ch' := by
  have hzl : zs.length = len := by have := hown.len1; simpa [ints] using this
  have hlt : k < S.length := by
    rcases Nat.lt_or_ge k S.length with g | g
    · exact g
    · rw [List.getElem?_eq_none g] at hk; cases hk
  have same : S.set k ch = S := by
    apply List.ext_getElem?
    intro j
    by_cases hj : k = j
    · subst hj; rw [List.getElem?_set_self hlt, hk]
    · rw [List.getElem?_set_ne hj]
  refine ⟨fun w F hw => ?_, fun w F hw => ?_⟩
  · simp [callFunc, Try.func139]
    kernel_rfl
  · rcases Nat.eq_zero_or_pos len with h0 | h0
    · subst h0
      refine (Try.slices_Sort_int_none a cap w).mono ?_
      rintro e w' ⟨rfl, rfl⟩
      have hz : zs = [] := List.length_eq_zero_iff.1 hzl
      subst hz
      exact ⟨_, I, S, rfl, I.le_refl, ⟨rfl, rfl, ch, by simpa [sortI] using hown, same.symm⟩, hw, Ext.refl _⟩
    · rcases hown.at' with q0 | ⟨b, pre, post, T, rfl, rfl, hpost⟩
      · have := hown.le; omega
      have hb : w.heap[b]? = some (row (pre ++ ints zs ++ post) T) := by
        refine In.heap (S := S) (I := I) (.own k ?_) hw
        rw [List.getD_eq_getElem?_getD, hk]; simp
      have hil : (ints zs).length = zs.length := by simp [ints]
      have hholds : Go.Sort.Holds (Value.int .i64) w b pre.length zs.toArray := by
        intro j hj
        have hj : j < zs.length := by simpa using hj
        refine ⟨?_, ?_⟩
        · rw [Go.Sl.cell_of_row hb, List.append_assoc, List.getElem?_append_right (by omega), Nat.add_sub_cancel_left, List.getElem?_append_left (by omega)]
          simp [ints, hj]
        · rw [Go.Sl.frozen_of_row hb]; simp
      have hcall := Try.slices_Sort_int b pre.length cap zs w hholds (lt_of_some hb) (by omega)
      rw [hzl] at hcall
      refine hcall.mono ?_
      rintro e w' ⟨rfl, n, os, rfl⟩
      have hblt := lt_of_some hb
      have hsz : ∀ d : Array Int, (Go.Sort.putRow (Value.int .i64) (Go.Sort.ahead w n) b pre.length d).heap.size = w.heap.size := by
        intro d; simp [Go.Sort.putRow, Go.Sort.mapBlock, Go.Sort.ahead]
      refine ⟨_, I, _, rfl, I.le_refl, ⟨rfl, rfl, [(b, row (pre ++ ints (sortI zs) ++ post) T)], ⟨?_, hown.le, .inr ⟨b, pre, post, T, rfl, rfl, hpost⟩⟩, rfl⟩, ?_, ⟨rfl, rfl, rfl, ?_⟩⟩
      · have := (sortI_perm zs).length_eq
        simp [ints, this, hzl]
      · refine Has_grow os (Has.turnAt (A := []) (B := []) hw hk ?_ ?_)
        · have hp := putCells_mid pre post (zs.mergeSort fun x y => decide (x ≤ y)) (ints zs) (by rw [hil, List.length_mergeSort])
          have : (Go.Sort.putCells (Value.int .i64) pre.length (zs.mergeSort fun x y => decide (x ≤ y)).toArray (pre ++ ints zs ++ post).toArray) = (pre ++ ints (sortI zs) ++ post).toArray := Array.ext' hp
          simp only [Go.Sort.putRow, Go.Sort.mapBlock, Go.Sort.ahead, Array.getElem?_modify, hb, if_true, Option.map_some, row, Go.Sort.onCells, this]
        · intro j hj
          simp only [Go.Sort.putRow, Go.Sort.mapBlock, Go.Sort.ahead, Array.getElem?_modify]
          rw [if_neg (Ne.symm hj)]
      · show w.heap.size ≤ (_ ++ os).size
        rw [Array.size_append, hsz]; omega
end Go.Proofs.Ytbpdbgcndfcilaa
namespace Go.Proofs.Ytbpdbgcndfcilaa
open Go.RowKit Go.Sl
set_option maxRecDepth 20000

theorem sortI_le (l : List Int) : (sortI l).Pairwise (fun a b => a ≤ b) := by
  have := List.pairwise_mergeSort (le := fun x y : Int => decide (x ≤ y)) (by intro a b c h1 h2; simp only [decide_eq_true_eq] at *; omega) (by intro a b; simp only [Bool.or_eq_true, decide_eq_true_eq]; omega) l
  exact this.imp (by intro _ _ h; simpa using h)
theorem sortI_eq {l m : List Int} (h : l.Perm m) : sortI l = sortI m :=
  List.Perm.eq_of_pairwise (le := fun a b => a ≤ b) (fun _ _ _ _ h1 h2 => Int.le_antisymm h1 h2) (sortI_le l) (sortI_le m) ((sortI_perm l).trans (h.trans (sortI_perm m).symm))
/-- the keys, in order -/
def keysOf (l : List (Int × Value)) : List Int := sortI (l.map Prod.fst)
theorem keysOf_length (l : List (Int × Value)) : (keysOf l).length = l.length := by unfold keysOf; rw [(sortI_perm _).length_eq, List.length_map]
theorem sorted_keys (b r : Nat) (ob : Obj) (l : List (Int × Value)) (hM : MapR ob l) (hl : l.length ≤ 1000000) (I : Imm) :
    Tri Try.prog 104 #[.func (.func 140) #[] #[.pointer (some ⟨b, 0, none⟩)]] I [keyBox b r, [(r, ob)]] fun v J S' =>
      ∃ a cap ch, v = .slice a l.length cap ∧ OwnC ch 1 a l.length cap (ints (keysOf l)) ∧ I.le J ∧ S' = [[(r, ob)], ch] := by
  have hnd : (l.map Prod.fst).Nodup := by obtain ⟨es, clk, _, h⟩ := hM; exact h.nodup
  refine Tri.of (args := [.func (.func 140) #[] #[.pointer (some ⟨b, 0, none⟩)]]) tabOk Try.func104 rfl (by kernel_rfl) (by kernel_rfl) ?_
  refine Tri.nf (collect_keys b r ob l hM hl I) ?_
  rintro v J S' hJ ⟨a, cap, ch, s, rfl, hown, h1, h2, h3, rfl⟩
  have hp : s.Perm (l.map Prod.fst) := (List.perm_ext_iff_of_nodup h1 hnd).2 h2
  have hsl : s.length = l.length := by rw [hp.length_eq, List.length_map]
  rw [hsl] at hown ⊢
  refine Tri.nf (sort_ints 1 rfl hown (by omega)) ?_
  rintro v J2 S' hJ2 ⟨rfl, rfl, ch', hown', rfl⟩
  exact Done.mk ⟨a, cap, ch', rfl, by unfold keysOf; rw [← sortI_eq hp]; exact hown', h3, rfl⟩
end Go.Proofs.Ytbpdbgcndfcilaa
namespace Go.Proofs.Ytbpdbgcndfcilaa
open Go.RowKit Go.Sl
set_option maxRecDepth 20000

/-- images and groups, read in what is owned or fixed -/
structure ImgR (I : Imm) (S : St) (g : Img) : Prop where
  rd : SlC I S g.a g.len (bts g.data)
structure ImgsR (I : Imm) (S : St) (a : Option Addr) (gs : List Img) : Prop where
  sl : SlC I S a (gs.length * 2) (imgCells gs)
  each : ∀ g ∈ gs, ImgR I S g
theorem ImgR.mores {I : Imm} {S : St} {g : Img} (h : ImgR I S g) (L : St) : ImgR I (S ++ L) g := ⟨h.rd.mores L⟩
/-- a group, as it lies -/
structure Grp where
  e : Int
  s : Int
  a : Option Addr
  cap : Nat
  gs : List Img
def grpCells (l : List Grp) : List Value := l.flatMap fun g => [.int .i64 g.e, .int .i64 g.s, .slice g.a g.gs.length g.cap]
theorem grpCells_at {ws : List Grp} {i : Nat} (h : i < ws.length) : ((grpCells ws).drop (i * 3)).take 3 = [.int .i64 ws[i].e, .int .i64 ws[i].s, .slice ws[i].a ws[i].gs.length ws[i].cap] := by
  induction ws generalizing i with
  | nil => simp at h
  | cons g ws ih =>
    cases i with
    | zero => rfl
    | succ i =>
      have := ih (i := i) (by simpa using h)
      have e : grpCells (g :: ws) = [.int .i64 g.e, .int .i64 g.s, .slice g.a g.gs.length g.cap] ++ grpCells ws := by simp [grpCells]
      rw [e, show (i + 1) * 3 = [Value.int .i64 g.e, .int .i64 g.s, .slice g.a g.gs.length g.cap].length + i * 3 by simp; omega, ← List.drop_drop, List.drop_left]
      simpa using this
structure GrpsR (I : Imm) (S : St) (a : Option Addr) (l : List Grp) : Prop where
  sl : SlC I S a (l.length * 3) (grpCells l)
  each : ∀ g ∈ l, ImgsR I S g.a g.gs ∧ g.gs.length ≤ 1000000
/-- the last image of each block, as a map holds it -/
def hdr (g : Img) : Int × Value := (g.blk, .slice g.a g.len g.cap)
def iput (ms : List Img) (g : Img) : List Img := if g.blk ∈ ms.map Img.blk then ms.map (fun x => if x.blk = g.blk then g else x) else ms ++ [g]
theorem iput_hdr (ms : List Img) (g : Img) : (iput ms g).map hdr = mput (ms.map hdr) g.blk (.slice g.a g.len g.cap) := by
  unfold iput mput
  have e : (ms.map hdr).map Prod.fst = ms.map Img.blk := by rw [List.map_map]; rfl
  rw [e]
  split
  · rw [List.map_map, List.map_map]
    apply List.map_congr_left
    intro x _
    show hdr (if x.blk = g.blk then g else x) = if (hdr x).1 = g.blk then (g.blk, _) else hdr x
    show hdr (if x.blk = g.blk then g else x) = if x.blk = g.blk then (g.blk, _) else hdr x
    split <;> rfl
  · rw [List.map_append]; rfl
theorem iput_mem {ms : List Img} {g x : Img} (h : x ∈ iput ms g) : x = g ∨ x ∈ ms := by
  unfold iput at h
  split at h
  · obtain ⟨y, hy, rfl⟩ := List.mem_map.1 h
    split
    · exact .inl rfl
    · exact .inr hy
  · rcases List.mem_append.1 h with h | h
    · exact .inr h
    · exact .inl (by simpa using h)
theorem iput_len (ms : List Img) (g : Img) : (iput ms g).length ≤ ms.length + 1 := by
  unfold iput; split <;> simp
/-- as values -/
def pput (ms : List PImg) (g : PImg) : List PImg := if g.1 ∈ ms.map Prod.fst then ms.map (fun x => if x.1 = g.1 then g else x) else ms ++ [g]
theorem iput_pr (ms : List Img) (g : Img) : (iput ms g).map Img.pr = pput (ms.map Img.pr) g.pr := by
  unfold iput pput
  have e : (ms.map Img.pr).map Prod.fst = ms.map Img.blk := by rw [List.map_map]; rfl
  rw [e]
  show List.map Img.pr (if g.blk ∈ ms.map Img.blk then _ else _) = if g.blk ∈ ms.map Img.blk then _ else _
  split
  · rw [List.map_map, List.map_map]
    apply List.map_congr_left
    intro x _
    show Img.pr (if x.blk = g.blk then g else x) = if x.blk = g.blk then g.pr else x.pr
    split <;> rfl
  · rw [List.map_append]; rfl
/-- images to their homes: the last of each block, in the blocks' order -/
def lastP (l : List PImg) : List PImg := l.foldl pput []
def homeP (l : List PImg) : List PImg := (sortI ((lastP l).map Prod.fst)).map fun n => (n, ((lastP l).lookup n).getD [])
def HomeOk (lay : Lay) (l : List PImg) : Prop := ∀ g ∈ l, lay.bi ≤ g.1 ∧ g.1 < lay.b
instance (lay : Lay) (l : List PImg) : Decidable (HomeOk lay l) := by unfold HomeOk; infer_instance
end Go.Proofs.Ytbpdbgcndfcilaa
