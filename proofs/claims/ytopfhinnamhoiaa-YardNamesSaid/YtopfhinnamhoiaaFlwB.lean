/- Walk: the law YardFlows, the region that reckons a node's flow and drop. -/
import Derived.Deep.DeepCutAuto
import Derived.Maps.RangeWalk
import Derived.Test.YtopfhinnamhoiaaFlwA
namespace Go.Proofs.Ytopfhinnamhoiaa
open Go.RowKit Go.Bs Go.Yd Go.Pl Go.Sort

theorem two_boxes {W0 X : World} {P1 P2 : Nat} {o1 o2 o3 o4 : Value} (a b c d : Value) (hb : Below W0.heap.size W0 X) (b1 : Blk X P1 50 [o1, o2]) (b2 : Blk X P2 50 [o3, o4]) (hne : P1 ≠ P2) (g1 : W0.heap.size ≤ P1) (g2 : W0.heap.size ≤ P2) :
    Below W0.heap.size W0 ((((X.setCell ⟨P1, 0, none⟩ a).setCell ⟨P1, 1, none⟩ b).setCell ⟨P2, 0, none⟩ c).setCell ⟨P2, 1, none⟩ d) ∧ Blk ((((X.setCell ⟨P1, 0, none⟩ a).setCell ⟨P1, 1, none⟩ b).setCell ⟨P2, 0, none⟩ c).setCell ⟨P2, 1, none⟩ d) P1 50 [a, b] ∧ Blk ((((X.setCell ⟨P1, 0, none⟩ a).setCell ⟨P1, 1, none⟩ b).setCell ⟨P2, 0, none⟩ c).setCell ⟨P2, 1, none⟩ d) P2 50 [c, d] :=
  ⟨(((hb.setCell g1 _).setCell g1 _).setCell g2 _).setCell g2 _, (((b1.set 0 a).set 1 b).other hne c).other hne d, (((b2.other (Ne.symm hne) a).other (Ne.symm hne) b).set 0 c).set 1 d⟩

set_option maxRecDepth 100000 in
set_option maxHeartbeats 8000000 in
theorem flows_r14 (g : Gd) (hf : Gd.Fit g) (A : Option Addr) (n cap k : Nat) (w wr : World) (hn : g.nodes.length = n) (hk : k < n) (hd : GdAt w A g) (hbw : Below w.heap.size w wr) (hB : Blk wr w.heap.size 37 [.slice A n cap, .int .i64 g.limit]) (K : Act → World → Prop) (Q' : Exit → Act → World → Prop) (c : Code)
    (hcode : c = part [1, 1, 1, 1, 1, 1, 1, 1, 0, 1, 2, 2, 1, 0, 2, 0] (Try.f9.body.getD .skip)) {u0 u2 u3 u4 u5 u6 u7 u8 u9 u10 u11 u12 u14 u15 u16 u17 u18 u19 u20 u21 u22 u23 u24 u25 u26 u27 u28 u29 u30 u31 u32 u33 u34 u35 u36 u37 u38 u39 u40 u41 u42 u43 u44 u45 u46 u47 u48 u49 u50 u51 u52 u53 u54 u55 u56 u57 u58 u59 u60 u61 u62 u63 u64 u65 u66 u67 u68 u69 u70 u71 u72 u73 u74 u75 u76 u77 u78 u79 u80 u81 u82 u83 u84 u85 u86 u87 u88 u89 u90 u91 u92 u93 u94 u95 u96 u97 u98 u99 u100 u101 u102 u103 u104 u105 u106 u107 u108 u109 u110 u111 u112 u113 u114 u115 u116 u117 u118 u119 u120 u121 u122 u123 u124 u125 u126 u127 u128 u129 u130 u131 u132 u133 u134 u135 u136 u137 u138 u139 u140 u141 u142 u143 u144 u145 u146 u147 u148 u149 u150 u151 u152 u153 u154 u155 u156 u157 u158 u159 u160 u161 u162 u163 u164 u165 u166 u167 u168 u169 u170 u171 u172 u173 u174 u175 u176 u177 u178 u179 u180 u181 u182 u183 u184 u185 u186 u187 u188 u189 u190 u191 u192 u193 u194 u195 u196 u197 u198 u199 u200 u201 u202 u203 u204 u205 u206 u207 u208 u209 u210 u211 u212 u213 u214 u215 u216 u217 u218 u219 u220 u221 u222 u223 u224 u225 u226 : Value}
    (hK : ∀ (v127 v128 v129 v130 v131 v132 : Value) (P1 P2 : Nat) (w' : World), Below wr.heap.size wr w' → Blk w' P1 50 [.int .i64 (Gd.flo g k), .int .i64 (Gd.fhi g k)] → Blk w' P2 50 [.int .i64 (Gd.dlo g k), .int .i64 (Gd.dhi g k)] → K { tmps := #[u0, .pointer (some ⟨w.heap.size, 0, none⟩), u2, u3, u4, u5, u6, u7, u8, u9, u10, u11, u12, .int .i64 (k : Int), .pointer (some ⟨P1, 0, none⟩), .pointer (some ⟨P2, 0, none⟩), u16, u17, u18, u19, u20, u21, u22, u23, u24, u25, u26, u27, u28, u29, u30, u31, u32, u33, u34, u35, u36, u37, u38, u39, u40, u41, u42, u43, u44, u45, u46, u47, u48, u49, u50, u51, u52, u53, u54, u55, u56, u57, u58, u59, u60, u61, u62, u63, u64, u65, u66, u67, u68, u69, u70, u71, u72, u73, u74, u75, u76, u77, u78, u79, u80, u81, u82, u83, u84, u85, u86, u87, u88, u89, u90, u91, u92, u93, u94, u95, u96, u97, u98, u99, u100, u101, u102, u103, u104, u105, u106, u107, u108, u109, u110, u111, u112, u113, u114, u115, u116, u117, u118, u119, u120, u121, u122, u123, u124, u125, u126, v127, v128, v129, v130, v131, v132, u133, u134, u135, u136, u137, u138, u139, u140, u141, u142, u143, u144, u145, u146, u147, u148, u149, u150, u151, u152, u153, u154, u155, u156, u157, u158, u159, u160, u161, u162, u163, u164, u165, u166, u167, u168, u169, u170, u171, u172, u173, u174, u175, u176, u177, u178, u179, u180, u181, u182, u183, u184, u185, u186, u187, u188, u189, u190, u191, u192, u193, u194, u195, u196, u197, u198, u199, u200, u201, u202, u203, u204, u205, u206, u207, u208, u209, u210, u211, u212, u213, u214, u215, u216, u217, u218, u219, u220, u221, u222, u223, u224, u225, u226], defers := [] } w') :
    Code.wp Try.prog c (Exit.then K Q') { tmps := #[u0, .pointer (some ⟨w.heap.size, 0, none⟩), u2, u3, u4, u5, u6, u7, u8, u9, u10, u11, u12, .int .i64 (k : Int), u14, u15, u16, u17, u18, u19, u20, u21, u22, u23, u24, u25, u26, u27, u28, u29, u30, u31, u32, u33, u34, u35, u36, u37, u38, u39, u40, u41, u42, u43, u44, u45, u46, u47, u48, u49, u50, u51, u52, u53, u54, u55, u56, u57, u58, u59, u60, u61, u62, u63, u64, u65, u66, u67, u68, u69, u70, u71, u72, u73, u74, u75, u76, u77, u78, u79, u80, u81, u82, u83, u84, u85, u86, u87, u88, u89, u90, u91, u92, u93, u94, u95, u96, u97, u98, u99, u100, u101, u102, u103, u104, u105, u106, u107, u108, u109, u110, u111, u112, u113, u114, u115, u116, u117, u118, u119, u120, u121, u122, u123, u124, u125, u126, u127, u128, u129, u130, u131, u132, u133, u134, u135, u136, u137, u138, u139, u140, u141, u142, u143, u144, u145, u146, u147, u148, u149, u150, u151, u152, u153, u154, u155, u156, u157, u158, u159, u160, u161, u162, u163, u164, u165, u166, u167, u168, u169, u170, u171, u172, u173, u174, u175, u176, u177, u178, u179, u180, u181, u182, u183, u184, u185, u186, u187, u188, u189, u190, u191, u192, u193, u194, u195, u196, u197, u198, u199, u200, u201, u202, u203, u204, u205, u206, u207, u208, u209, u210, u211, u212, u213, u214, u215, u216, u217, u218, u219, u220, u221, u222, u223, u224, u225, u226], defers := [] } wr := by
  subst hcode
  have HK := Lib.hid hK
  clear hK
  simp only [part, Try.f9, Option.getD_some]
  go_upto_region 14 with fail
  refine Dr.wp_region_plan 8 [] (.q [0, 1, 3, 4] (.e3 2 (.e3 5 (.e2 6 (.e1 7 .done) 7 (.e1 6 .done)) 6 (.e2 5 (.e1 7 .done) 7 (.e1 5 .done)) 7 (.e2 5 (.e1 6 .done) 6 (.e1 5 .done))) 6 (.e2 2 (.e2 5 (.e1 7 .done) 7 (.e1 5 .done)) 7 (.e1 2 (.e1 5 .done))) 7 (.e2 2 (.e2 5 (.e1 6 .done) 6 (.e1 5 .done)) 6 (.e1 2 (.e1 5 .done))))) (by kernel_rfl) (by kernel_rfl) ?_
  have hbW1 := ext_drew wr
  have hB1 := hB.ext (ext_drew wr)
  generalize World.drew _ = W1 at *
  have q0 := Dr.cell0 (hB1.cell (i := 0) rfl)
  have q1 := Dr.cell0 (hB1.cell (i := 1) rfl)
  refine Dr.plan_q (l := [_, _, _, _]) rfl (fun K hK => ?_)
  iterate 4 (go_big_quiet_step (fail))
  refine wpQuiet_nil (hK _ ?_); clear hK K
  clear q0 q1 hB hB1
  refine Dr.plan_e3 ?_ ?_ ?_
  · -- 2
    refine Dr.plan_e rfl (by rfl) (fun K hK => ?_)
    go_wp2_with fail
    refine (Flow_any g hf A n cap hn n k W1 hk (by omega) (hd.ext (ext_trans hbw hbW1))).mono ?_; rintro e X1 ⟨rfl, hc1⟩
    refine hK _ _ (.of hc1) ?_; clear hK K
    have hb1 := ext_trans hbW1 hc1
    refine Dr.plan_e3 ?_ ?_ ?_
    · -- 5
      refine Dr.plan_e rfl (by rfl) (fun K hK => ?_)
      go_wp2_with fail
      refine (Drop_any g hf A n cap k X1 hn hk (hd.ext (ext_trans hbw hb1))).mono ?_; rintro e X2 ⟨rfl, hc2⟩
      refine hK _ _ (.of hc2) ?_; clear hK K
      have hb2 := ext_trans hb1 hc2
      refine Dr.plan_e2 ?_ ?_
      · -- 6
        refine Dr.plan_e rfl (by rfl) (fun K hK => ?_)
        go_wp2_with fail
        refine hK _ _ (.of (ext_alloc _ _)) ?_; clear hK K
        have hc3 := ext_alloc X2 (.cells #[.int .i64 0, .int .i64 0] 50)
        have nb3 := Blk.new X2 50 [.int .i64 0, .int .i64 0]
        change Blk (X2.alloc (.cells #[.int .i64 0, .int .i64 0] 50)) _ _ _ at nb3
        generalize hX3 : X2.alloc (.cells #[.int .i64 0, .int .i64 0] 50) = X3 at *
        clear hX3
        have hb3 := ext_trans hb2 hc3
        refine Dr.plan_e rfl (by rfl) (fun K hK => ?_)
        go_wp2_with fail
        refine hK _ _ (.of (ext_alloc _ _)) ?_; clear hK K
        have hc4 := ext_alloc X3 (.cells #[.int .i64 0, .int .i64 0] 50)
        have nb4 := Blk.new X3 50 [.int .i64 0, .int .i64 0]
        change Blk (X3.alloc (.cells #[.int .i64 0, .int .i64 0] 50)) _ _ _ at nb4
        have lt4 := Blk.lt nb3
        generalize hX4 : X3.alloc (.cells #[.int .i64 0, .int .i64 0] 50) = X4 at *
        clear hX4
        have b1_4 := nb3.ext hc4
        have hb4 := ext_trans hb3 hc4
        refine Dr.plan_done (tl := [_, _]) rfl ?_
        have s1 := hb2.size
        have s2 := hb3.size
        have c0 := b1_4.cell (i := 0) rfl
        have c1 := b1_4.cell (i := 1) rfl
        have c2 := b1_4.free 0
        have c3 := b1_4.free 1
        have d0 := nb4.cell (i := 0) rfl
        have d1 := nb4.cell (i := 1) rfl
        have d2 := nb4.free 0
        have d3 := nb4.free 1
        go_wp2
        obtain ⟨r1, r2, r3⟩ := two_boxes (.int .i64 (Gd.flo g k)) (.int .i64 (Gd.fhi g k)) (.int .i64 (Gd.dlo g k)) (.int .i64 (Gd.dhi g k)) hb4 b1_4 nb4 (by omega) (by omega) (by omega)
        exact HK.out _ _ _ _ _ _ _ _ _ r1 r2 r3
      · -- 7
        refine Dr.plan_e rfl (by rfl) (fun K hK => ?_)
        go_wp2_with fail
        refine hK _ _ (.of (ext_alloc _ _)) ?_; clear hK K
        have hc5 := ext_alloc X2 (.cells #[.int .i64 0, .int .i64 0] 50)
        have nb5 := Blk.new X2 50 [.int .i64 0, .int .i64 0]
        change Blk (X2.alloc (.cells #[.int .i64 0, .int .i64 0] 50)) _ _ _ at nb5
        generalize hX5 : X2.alloc (.cells #[.int .i64 0, .int .i64 0] 50) = X5 at *
        clear hX5
        have hb5 := ext_trans hb2 hc5
        refine Dr.plan_e rfl (by rfl) (fun K hK => ?_)
        go_wp2_with fail
        refine hK _ _ (.of (ext_alloc _ _)) ?_; clear hK K
        have hc6 := ext_alloc X5 (.cells #[.int .i64 0, .int .i64 0] 50)
        have nb6 := Blk.new X5 50 [.int .i64 0, .int .i64 0]
        change Blk (X5.alloc (.cells #[.int .i64 0, .int .i64 0] 50)) _ _ _ at nb6
        have lt6 := Blk.lt nb5
        generalize hX6 : X5.alloc (.cells #[.int .i64 0, .int .i64 0] 50) = X6 at *
        clear hX6
        have b2_6 := nb5.ext hc6
        have hb6 := ext_trans hb5 hc6
        refine Dr.plan_done (tl := [_, _]) rfl ?_
        have s1 := hb5.size
        have s2 := hb2.size
        have c0 := nb6.cell (i := 0) rfl
        have c1 := nb6.cell (i := 1) rfl
        have c2 := nb6.free 0
        have c3 := nb6.free 1
        have d0 := b2_6.cell (i := 0) rfl
        have d1 := b2_6.cell (i := 1) rfl
        have d2 := b2_6.free 0
        have d3 := b2_6.free 1
        go_wp2
        obtain ⟨r1, r2, r3⟩ := two_boxes (.int .i64 (Gd.flo g k)) (.int .i64 (Gd.fhi g k)) (.int .i64 (Gd.dlo g k)) (.int .i64 (Gd.dhi g k)) hb6 nb6 b2_6 (by omega) (by omega) (by omega)
        exact HK.out _ _ _ _ _ _ _ _ _ r1 r2 r3
    · -- 6
      refine Dr.plan_e rfl (by rfl) (fun K hK => ?_)
      go_wp2_with fail
      refine hK _ _ (.of (ext_alloc _ _)) ?_; clear hK K
      have hc7 := ext_alloc X1 (.cells #[.int .i64 0, .int .i64 0] 50)
      have nb7 := Blk.new X1 50 [.int .i64 0, .int .i64 0]
      change Blk (X1.alloc (.cells #[.int .i64 0, .int .i64 0] 50)) _ _ _ at nb7
      generalize hX7 : X1.alloc (.cells #[.int .i64 0, .int .i64 0] 50) = X7 at *
      clear hX7
      have hb7 := ext_trans hb1 hc7
      refine Dr.plan_e2 ?_ ?_
      · -- 5
        refine Dr.plan_e rfl (by rfl) (fun K hK => ?_)
        go_wp2_with fail
        refine (Drop_any g hf A n cap k X7 hn hk (hd.ext (ext_trans hbw hb7))).mono ?_; rintro e X8 ⟨rfl, hc8⟩
        refine hK _ _ (.of hc8) ?_; clear hK K
        have b1_8 := nb7.ext hc8
        have hb8 := ext_trans hb7 hc8
        refine Dr.plan_e rfl (by rfl) (fun K hK => ?_)
        go_wp2_with fail
        refine hK _ _ (.of (ext_alloc _ _)) ?_; clear hK K
        have hc9 := ext_alloc X8 (.cells #[.int .i64 0, .int .i64 0] 50)
        have nb9 := Blk.new X8 50 [.int .i64 0, .int .i64 0]
        change Blk (X8.alloc (.cells #[.int .i64 0, .int .i64 0] 50)) _ _ _ at nb9
        have lt9 := Blk.lt b1_8
        generalize hX9 : X8.alloc (.cells #[.int .i64 0, .int .i64 0] 50) = X9 at *
        clear hX9
        have b1_9 := b1_8.ext hc9
        have hb9 := ext_trans hb8 hc9
        refine Dr.plan_done (tl := [_, _]) rfl ?_
        have s1 := hb1.size
        have s2 := hb8.size
        have c0 := b1_9.cell (i := 0) rfl
        have c1 := b1_9.cell (i := 1) rfl
        have c2 := b1_9.free 0
        have c3 := b1_9.free 1
        have d0 := nb9.cell (i := 0) rfl
        have d1 := nb9.cell (i := 1) rfl
        have d2 := nb9.free 0
        have d3 := nb9.free 1
        go_wp2
        obtain ⟨r1, r2, r3⟩ := two_boxes (.int .i64 (Gd.flo g k)) (.int .i64 (Gd.fhi g k)) (.int .i64 (Gd.dlo g k)) (.int .i64 (Gd.dhi g k)) hb9 b1_9 nb9 (by omega) (by omega) (by omega)
        exact HK.out _ _ _ _ _ _ _ _ _ r1 r2 r3
      · -- 7
        refine Dr.plan_e rfl (by rfl) (fun K hK => ?_)
        go_wp2_with fail
        refine hK _ _ (.of (ext_alloc _ _)) ?_; clear hK K
        have hc10 := ext_alloc X7 (.cells #[.int .i64 0, .int .i64 0] 50)
        have nb10 := Blk.new X7 50 [.int .i64 0, .int .i64 0]
        change Blk (X7.alloc (.cells #[.int .i64 0, .int .i64 0] 50)) _ _ _ at nb10
        have lt10 := Blk.lt nb7
        generalize hX10 : X7.alloc (.cells #[.int .i64 0, .int .i64 0] 50) = X10 at *
        clear hX10
        have b1_10 := nb7.ext hc10
        have hb10 := ext_trans hb7 hc10
        refine Dr.plan_e rfl (by rfl) (fun K hK => ?_)
        go_wp2_with fail
        refine (Drop_any g hf A n cap k X10 hn hk (hd.ext (ext_trans hbw hb10))).mono ?_; rintro e X11 ⟨rfl, hc11⟩
        refine hK _ _ (.of hc11) ?_; clear hK K
        have b1_11 := b1_10.ext hc11
        have b2_11 := nb10.ext hc11
        have hb11 := ext_trans hb10 hc11
        refine Dr.plan_done (tl := [_, _]) rfl ?_
        have s1 := hb1.size
        have s2 := hb7.size
        have c0 := b1_11.cell (i := 0) rfl
        have c1 := b1_11.cell (i := 1) rfl
        have c2 := b1_11.free 0
        have c3 := b1_11.free 1
        have d0 := b2_11.cell (i := 0) rfl
        have d1 := b2_11.cell (i := 1) rfl
        have d2 := b2_11.free 0
        have d3 := b2_11.free 1
        go_wp2
        obtain ⟨r1, r2, r3⟩ := two_boxes (.int .i64 (Gd.flo g k)) (.int .i64 (Gd.fhi g k)) (.int .i64 (Gd.dlo g k)) (.int .i64 (Gd.dhi g k)) hb11 b1_11 b2_11 (by omega) (by omega) (by omega)
        exact HK.out _ _ _ _ _ _ _ _ _ r1 r2 r3
    · -- 7
      refine Dr.plan_e rfl (by rfl) (fun K hK => ?_)
      go_wp2_with fail
      refine hK _ _ (.of (ext_alloc _ _)) ?_; clear hK K
      have hc12 := ext_alloc X1 (.cells #[.int .i64 0, .int .i64 0] 50)
      have nb12 := Blk.new X1 50 [.int .i64 0, .int .i64 0]
      change Blk (X1.alloc (.cells #[.int .i64 0, .int .i64 0] 50)) _ _ _ at nb12
      generalize hX12 : X1.alloc (.cells #[.int .i64 0, .int .i64 0] 50) = X12 at *
      clear hX12
      have hb12 := ext_trans hb1 hc12
      refine Dr.plan_e2 ?_ ?_
      · -- 5
        refine Dr.plan_e rfl (by rfl) (fun K hK => ?_)
        go_wp2_with fail
        refine (Drop_any g hf A n cap k X12 hn hk (hd.ext (ext_trans hbw hb12))).mono ?_; rintro e X13 ⟨rfl, hc13⟩
        refine hK _ _ (.of hc13) ?_; clear hK K
        have b2_13 := nb12.ext hc13
        have hb13 := ext_trans hb12 hc13
        refine Dr.plan_e rfl (by rfl) (fun K hK => ?_)
        go_wp2_with fail
        refine hK _ _ (.of (ext_alloc _ _)) ?_; clear hK K
        have hc14 := ext_alloc X13 (.cells #[.int .i64 0, .int .i64 0] 50)
        have nb14 := Blk.new X13 50 [.int .i64 0, .int .i64 0]
        change Blk (X13.alloc (.cells #[.int .i64 0, .int .i64 0] 50)) _ _ _ at nb14
        have lt14 := Blk.lt b2_13
        generalize hX14 : X13.alloc (.cells #[.int .i64 0, .int .i64 0] 50) = X14 at *
        clear hX14
        have b2_14 := b2_13.ext hc14
        have hb14 := ext_trans hb13 hc14
        refine Dr.plan_done (tl := [_, _]) rfl ?_
        have s1 := hb13.size
        have s2 := hb1.size
        have c0 := nb14.cell (i := 0) rfl
        have c1 := nb14.cell (i := 1) rfl
        have c2 := nb14.free 0
        have c3 := nb14.free 1
        have d0 := b2_14.cell (i := 0) rfl
        have d1 := b2_14.cell (i := 1) rfl
        have d2 := b2_14.free 0
        have d3 := b2_14.free 1
        go_wp2
        obtain ⟨r1, r2, r3⟩ := two_boxes (.int .i64 (Gd.flo g k)) (.int .i64 (Gd.fhi g k)) (.int .i64 (Gd.dlo g k)) (.int .i64 (Gd.dhi g k)) hb14 nb14 b2_14 (by omega) (by omega) (by omega)
        exact HK.out _ _ _ _ _ _ _ _ _ r1 r2 r3
      · -- 6
        refine Dr.plan_e rfl (by rfl) (fun K hK => ?_)
        go_wp2_with fail
        refine hK _ _ (.of (ext_alloc _ _)) ?_; clear hK K
        have hc15 := ext_alloc X12 (.cells #[.int .i64 0, .int .i64 0] 50)
        have nb15 := Blk.new X12 50 [.int .i64 0, .int .i64 0]
        change Blk (X12.alloc (.cells #[.int .i64 0, .int .i64 0] 50)) _ _ _ at nb15
        have lt15 := Blk.lt nb12
        generalize hX15 : X12.alloc (.cells #[.int .i64 0, .int .i64 0] 50) = X15 at *
        clear hX15
        have b2_15 := nb12.ext hc15
        have hb15 := ext_trans hb12 hc15
        refine Dr.plan_e rfl (by rfl) (fun K hK => ?_)
        go_wp2_with fail
        refine (Drop_any g hf A n cap k X15 hn hk (hd.ext (ext_trans hbw hb15))).mono ?_; rintro e X16 ⟨rfl, hc16⟩
        refine hK _ _ (.of hc16) ?_; clear hK K
        have b2_16 := b2_15.ext hc16
        have b1_16 := nb15.ext hc16
        have hb16 := ext_trans hb15 hc16
        refine Dr.plan_done (tl := [_, _]) rfl ?_
        have s1 := hb12.size
        have s2 := hb1.size
        have c0 := b1_16.cell (i := 0) rfl
        have c1 := b1_16.cell (i := 1) rfl
        have c2 := b1_16.free 0
        have c3 := b1_16.free 1
        have d0 := b2_16.cell (i := 0) rfl
        have d1 := b2_16.cell (i := 1) rfl
        have d2 := b2_16.free 0
        have d3 := b2_16.free 1
        go_wp2
        obtain ⟨r1, r2, r3⟩ := two_boxes (.int .i64 (Gd.flo g k)) (.int .i64 (Gd.fhi g k)) (.int .i64 (Gd.dlo g k)) (.int .i64 (Gd.dhi g k)) hb16 b1_16 b2_16 (by omega) (by omega) (by omega)
        exact HK.out _ _ _ _ _ _ _ _ _ r1 r2 r3
  · -- 6
    refine Dr.plan_e rfl (by rfl) (fun K hK => ?_)
    go_wp2_with fail
    refine hK _ _ (.of (ext_alloc _ _)) ?_; clear hK K
    have hc17 := ext_alloc W1 (.cells #[.int .i64 0, .int .i64 0] 50)
    have nb17 := Blk.new W1 50 [.int .i64 0, .int .i64 0]
    change Blk (W1.alloc (.cells #[.int .i64 0, .int .i64 0] 50)) _ _ _ at nb17
    generalize hX17 : W1.alloc (.cells #[.int .i64 0, .int .i64 0] 50) = X17 at *
    clear hX17
    have hb17 := ext_trans hbW1 hc17
    refine Dr.plan_e2 ?_ ?_
    · -- 2
      refine Dr.plan_e rfl (by rfl) (fun K hK => ?_)
      go_wp2_with fail
      refine (Flow_any g hf A n cap hn n k X17 hk (by omega) (hd.ext (ext_trans hbw hb17))).mono ?_; rintro e X18 ⟨rfl, hc18⟩
      refine hK _ _ (.of hc18) ?_; clear hK K
      have b1_18 := nb17.ext hc18
      have hb18 := ext_trans hb17 hc18
      refine Dr.plan_e2 ?_ ?_
      · -- 5
        refine Dr.plan_e rfl (by rfl) (fun K hK => ?_)
        go_wp2_with fail
        refine (Drop_any g hf A n cap k X18 hn hk (hd.ext (ext_trans hbw hb18))).mono ?_; rintro e X19 ⟨rfl, hc19⟩
        refine hK _ _ (.of hc19) ?_; clear hK K
        have b1_19 := b1_18.ext hc19
        have hb19 := ext_trans hb18 hc19
        refine Dr.plan_e rfl (by rfl) (fun K hK => ?_)
        go_wp2_with fail
        refine hK _ _ (.of (ext_alloc _ _)) ?_; clear hK K
        have hc20 := ext_alloc X19 (.cells #[.int .i64 0, .int .i64 0] 50)
        have nb20 := Blk.new X19 50 [.int .i64 0, .int .i64 0]
        change Blk (X19.alloc (.cells #[.int .i64 0, .int .i64 0] 50)) _ _ _ at nb20
        have lt20 := Blk.lt b1_19
        generalize hX20 : X19.alloc (.cells #[.int .i64 0, .int .i64 0] 50) = X20 at *
        clear hX20
        have b1_20 := b1_19.ext hc20
        have hb20 := ext_trans hb19 hc20
        refine Dr.plan_done (tl := [_, _]) rfl ?_
        have s1 := hbW1.size
        have s2 := hb19.size
        have c0 := b1_20.cell (i := 0) rfl
        have c1 := b1_20.cell (i := 1) rfl
        have c2 := b1_20.free 0
        have c3 := b1_20.free 1
        have d0 := nb20.cell (i := 0) rfl
        have d1 := nb20.cell (i := 1) rfl
        have d2 := nb20.free 0
        have d3 := nb20.free 1
        go_wp2
        obtain ⟨r1, r2, r3⟩ := two_boxes (.int .i64 (Gd.flo g k)) (.int .i64 (Gd.fhi g k)) (.int .i64 (Gd.dlo g k)) (.int .i64 (Gd.dhi g k)) hb20 b1_20 nb20 (by omega) (by omega) (by omega)
        exact HK.out _ _ _ _ _ _ _ _ _ r1 r2 r3
      · -- 7
        refine Dr.plan_e rfl (by rfl) (fun K hK => ?_)
        go_wp2_with fail
        refine hK _ _ (.of (ext_alloc _ _)) ?_; clear hK K
        have hc21 := ext_alloc X18 (.cells #[.int .i64 0, .int .i64 0] 50)
        have nb21 := Blk.new X18 50 [.int .i64 0, .int .i64 0]
        change Blk (X18.alloc (.cells #[.int .i64 0, .int .i64 0] 50)) _ _ _ at nb21
        have lt21 := Blk.lt b1_18
        generalize hX21 : X18.alloc (.cells #[.int .i64 0, .int .i64 0] 50) = X21 at *
        clear hX21
        have b1_21 := b1_18.ext hc21
        have hb21 := ext_trans hb18 hc21
        refine Dr.plan_e rfl (by rfl) (fun K hK => ?_)
        go_wp2_with fail
        refine (Drop_any g hf A n cap k X21 hn hk (hd.ext (ext_trans hbw hb21))).mono ?_; rintro e X22 ⟨rfl, hc22⟩
        refine hK _ _ (.of hc22) ?_; clear hK K
        have b1_22 := b1_21.ext hc22
        have b2_22 := nb21.ext hc22
        have hb22 := ext_trans hb21 hc22
        refine Dr.plan_done (tl := [_, _]) rfl ?_
        have s1 := hbW1.size
        have s2 := hb18.size
        have c0 := b1_22.cell (i := 0) rfl
        have c1 := b1_22.cell (i := 1) rfl
        have c2 := b1_22.free 0
        have c3 := b1_22.free 1
        have d0 := b2_22.cell (i := 0) rfl
        have d1 := b2_22.cell (i := 1) rfl
        have d2 := b2_22.free 0
        have d3 := b2_22.free 1
        go_wp2
        obtain ⟨r1, r2, r3⟩ := two_boxes (.int .i64 (Gd.flo g k)) (.int .i64 (Gd.fhi g k)) (.int .i64 (Gd.dlo g k)) (.int .i64 (Gd.dhi g k)) hb22 b1_22 b2_22 (by omega) (by omega) (by omega)
        exact HK.out _ _ _ _ _ _ _ _ _ r1 r2 r3
    · -- 7
      refine Dr.plan_e rfl (by rfl) (fun K hK => ?_)
      go_wp2_with fail
      refine hK _ _ (.of (ext_alloc _ _)) ?_; clear hK K
      have hc23 := ext_alloc X17 (.cells #[.int .i64 0, .int .i64 0] 50)
      have nb23 := Blk.new X17 50 [.int .i64 0, .int .i64 0]
      change Blk (X17.alloc (.cells #[.int .i64 0, .int .i64 0] 50)) _ _ _ at nb23
      have lt23 := Blk.lt nb17
      generalize hX23 : X17.alloc (.cells #[.int .i64 0, .int .i64 0] 50) = X23 at *
      clear hX23
      have b1_23 := nb17.ext hc23
      have hb23 := ext_trans hb17 hc23
      refine Dr.plan_e rfl (by rfl) (fun K hK => ?_)
      go_wp2_with fail
      refine (Flow_any g hf A n cap hn n k X23 hk (by omega) (hd.ext (ext_trans hbw hb23))).mono ?_; rintro e X24 ⟨rfl, hc24⟩
      refine hK _ _ (.of hc24) ?_; clear hK K
      have b1_24 := b1_23.ext hc24
      have b2_24 := nb23.ext hc24
      have hb24 := ext_trans hb23 hc24
      refine Dr.plan_e rfl (by rfl) (fun K hK => ?_)
      go_wp2_with fail
      refine (Drop_any g hf A n cap k X24 hn hk (hd.ext (ext_trans hbw hb24))).mono ?_; rintro e X25 ⟨rfl, hc25⟩
      refine hK _ _ (.of hc25) ?_; clear hK K
      have b1_25 := b1_24.ext hc25
      have b2_25 := b2_24.ext hc25
      have hb25 := ext_trans hb24 hc25
      refine Dr.plan_done (tl := [_, _]) rfl ?_
      have s1 := hbW1.size
      have s2 := hb17.size
      have c0 := b1_25.cell (i := 0) rfl
      have c1 := b1_25.cell (i := 1) rfl
      have c2 := b1_25.free 0
      have c3 := b1_25.free 1
      have d0 := b2_25.cell (i := 0) rfl
      have d1 := b2_25.cell (i := 1) rfl
      have d2 := b2_25.free 0
      have d3 := b2_25.free 1
      go_wp2
      obtain ⟨r1, r2, r3⟩ := two_boxes (.int .i64 (Gd.flo g k)) (.int .i64 (Gd.fhi g k)) (.int .i64 (Gd.dlo g k)) (.int .i64 (Gd.dhi g k)) hb25 b1_25 b2_25 (by omega) (by omega) (by omega)
      exact HK.out _ _ _ _ _ _ _ _ _ r1 r2 r3
  · -- 7
    refine Dr.plan_e rfl (by rfl) (fun K hK => ?_)
    go_wp2_with fail
    refine hK _ _ (.of (ext_alloc _ _)) ?_; clear hK K
    have hc26 := ext_alloc W1 (.cells #[.int .i64 0, .int .i64 0] 50)
    have nb26 := Blk.new W1 50 [.int .i64 0, .int .i64 0]
    change Blk (W1.alloc (.cells #[.int .i64 0, .int .i64 0] 50)) _ _ _ at nb26
    generalize hX26 : W1.alloc (.cells #[.int .i64 0, .int .i64 0] 50) = X26 at *
    clear hX26
    have hb26 := ext_trans hbW1 hc26
    refine Dr.plan_e2 ?_ ?_
    · -- 2
      refine Dr.plan_e rfl (by rfl) (fun K hK => ?_)
      go_wp2_with fail
      refine (Flow_any g hf A n cap hn n k X26 hk (by omega) (hd.ext (ext_trans hbw hb26))).mono ?_; rintro e X27 ⟨rfl, hc27⟩
      refine hK _ _ (.of hc27) ?_; clear hK K
      have b2_27 := nb26.ext hc27
      have hb27 := ext_trans hb26 hc27
      refine Dr.plan_e2 ?_ ?_
      · -- 5
        refine Dr.plan_e rfl (by rfl) (fun K hK => ?_)
        go_wp2_with fail
        refine (Drop_any g hf A n cap k X27 hn hk (hd.ext (ext_trans hbw hb27))).mono ?_; rintro e X28 ⟨rfl, hc28⟩
        refine hK _ _ (.of hc28) ?_; clear hK K
        have b2_28 := b2_27.ext hc28
        have hb28 := ext_trans hb27 hc28
        refine Dr.plan_e rfl (by rfl) (fun K hK => ?_)
        go_wp2_with fail
        refine hK _ _ (.of (ext_alloc _ _)) ?_; clear hK K
        have hc29 := ext_alloc X28 (.cells #[.int .i64 0, .int .i64 0] 50)
        have nb29 := Blk.new X28 50 [.int .i64 0, .int .i64 0]
        change Blk (X28.alloc (.cells #[.int .i64 0, .int .i64 0] 50)) _ _ _ at nb29
        have lt29 := Blk.lt b2_28
        generalize hX29 : X28.alloc (.cells #[.int .i64 0, .int .i64 0] 50) = X29 at *
        clear hX29
        have b2_29 := b2_28.ext hc29
        have hb29 := ext_trans hb28 hc29
        refine Dr.plan_done (tl := [_, _]) rfl ?_
        have s1 := hb28.size
        have s2 := hbW1.size
        have c0 := nb29.cell (i := 0) rfl
        have c1 := nb29.cell (i := 1) rfl
        have c2 := nb29.free 0
        have c3 := nb29.free 1
        have d0 := b2_29.cell (i := 0) rfl
        have d1 := b2_29.cell (i := 1) rfl
        have d2 := b2_29.free 0
        have d3 := b2_29.free 1
        go_wp2
        obtain ⟨r1, r2, r3⟩ := two_boxes (.int .i64 (Gd.flo g k)) (.int .i64 (Gd.fhi g k)) (.int .i64 (Gd.dlo g k)) (.int .i64 (Gd.dhi g k)) hb29 nb29 b2_29 (by omega) (by omega) (by omega)
        exact HK.out _ _ _ _ _ _ _ _ _ r1 r2 r3
      · -- 6
        refine Dr.plan_e rfl (by rfl) (fun K hK => ?_)
        go_wp2_with fail
        refine hK _ _ (.of (ext_alloc _ _)) ?_; clear hK K
        have hc30 := ext_alloc X27 (.cells #[.int .i64 0, .int .i64 0] 50)
        have nb30 := Blk.new X27 50 [.int .i64 0, .int .i64 0]
        change Blk (X27.alloc (.cells #[.int .i64 0, .int .i64 0] 50)) _ _ _ at nb30
        have lt30 := Blk.lt b2_27
        generalize hX30 : X27.alloc (.cells #[.int .i64 0, .int .i64 0] 50) = X30 at *
        clear hX30
        have b2_30 := b2_27.ext hc30
        have hb30 := ext_trans hb27 hc30
        refine Dr.plan_e rfl (by rfl) (fun K hK => ?_)
        go_wp2_with fail
        refine (Drop_any g hf A n cap k X30 hn hk (hd.ext (ext_trans hbw hb30))).mono ?_; rintro e X31 ⟨rfl, hc31⟩
        refine hK _ _ (.of hc31) ?_; clear hK K
        have b2_31 := b2_30.ext hc31
        have b1_31 := nb30.ext hc31
        have hb31 := ext_trans hb30 hc31
        refine Dr.plan_done (tl := [_, _]) rfl ?_
        have s1 := hb27.size
        have s2 := hbW1.size
        have c0 := b1_31.cell (i := 0) rfl
        have c1 := b1_31.cell (i := 1) rfl
        have c2 := b1_31.free 0
        have c3 := b1_31.free 1
        have d0 := b2_31.cell (i := 0) rfl
        have d1 := b2_31.cell (i := 1) rfl
        have d2 := b2_31.free 0
        have d3 := b2_31.free 1
        go_wp2
        obtain ⟨r1, r2, r3⟩ := two_boxes (.int .i64 (Gd.flo g k)) (.int .i64 (Gd.fhi g k)) (.int .i64 (Gd.dlo g k)) (.int .i64 (Gd.dhi g k)) hb31 b1_31 b2_31 (by omega) (by omega) (by omega)
        exact HK.out _ _ _ _ _ _ _ _ _ r1 r2 r3
    · -- 6
      refine Dr.plan_e rfl (by rfl) (fun K hK => ?_)
      go_wp2_with fail
      refine hK _ _ (.of (ext_alloc _ _)) ?_; clear hK K
      have hc32 := ext_alloc X26 (.cells #[.int .i64 0, .int .i64 0] 50)
      have nb32 := Blk.new X26 50 [.int .i64 0, .int .i64 0]
      change Blk (X26.alloc (.cells #[.int .i64 0, .int .i64 0] 50)) _ _ _ at nb32
      have lt32 := Blk.lt nb26
      generalize hX32 : X26.alloc (.cells #[.int .i64 0, .int .i64 0] 50) = X32 at *
      clear hX32
      have b2_32 := nb26.ext hc32
      have hb32 := ext_trans hb26 hc32
      refine Dr.plan_e rfl (by rfl) (fun K hK => ?_)
      go_wp2_with fail
      refine (Flow_any g hf A n cap hn n k X32 hk (by omega) (hd.ext (ext_trans hbw hb32))).mono ?_; rintro e X33 ⟨rfl, hc33⟩
      refine hK _ _ (.of hc33) ?_; clear hK K
      have b2_33 := b2_32.ext hc33
      have b1_33 := nb32.ext hc33
      have hb33 := ext_trans hb32 hc33
      refine Dr.plan_e rfl (by rfl) (fun K hK => ?_)
      go_wp2_with fail
      refine (Drop_any g hf A n cap k X33 hn hk (hd.ext (ext_trans hbw hb33))).mono ?_; rintro e X34 ⟨rfl, hc34⟩
      refine hK _ _ (.of hc34) ?_; clear hK K
      have b2_34 := b2_33.ext hc34
      have b1_34 := b1_33.ext hc34
      have hb34 := ext_trans hb33 hc34
      refine Dr.plan_done (tl := [_, _]) rfl ?_
      have s1 := hb26.size
      have s2 := hbW1.size
      have c0 := b1_34.cell (i := 0) rfl
      have c1 := b1_34.cell (i := 1) rfl
      have c2 := b1_34.free 0
      have c3 := b1_34.free 1
      have d0 := b2_34.cell (i := 0) rfl
      have d1 := b2_34.cell (i := 1) rfl
      have d2 := b2_34.free 0
      have d3 := b2_34.free 1
      go_wp2
      obtain ⟨r1, r2, r3⟩ := two_boxes (.int .i64 (Gd.flo g k)) (.int .i64 (Gd.fhi g k)) (.int .i64 (Gd.dlo g k)) (.int .i64 (Gd.dhi g k)) hb34 b1_34 b2_34 (by omega) (by omega) (by omega)
      exact HK.out _ _ _ _ _ _ _ _ _ r1 r2 r3
end Go.Proofs.Ytopfhinnamhoiaa
