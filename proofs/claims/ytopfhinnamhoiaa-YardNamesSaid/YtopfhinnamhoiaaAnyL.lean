/- Walk: the law YardAny, its second loop. -/
import Derived.Deep.DeepCutAuto
import Derived.Test.YtopfhinnamhoiaaAnyA
import Derived.Test.YtopfhinnamhoiaaLiftC
namespace Go.Proofs.Ytopfhinnamhoiaa
open Go.RowKit Go.Bs Go.Yd Go.Pl Go.Sort

/-- a part of a function's text: 0 and 1 a sequence's halves, 2 into a block or a loop, 3 and 4 a test's ways -/
def part : List Nat → Code → Code
  | [], c => c
  | k :: ks, c => part ks (match k, c with
    | 0, .seq a _ => a
    | 1, .seq _ b => b
    | 2, .block _ b => b
    | 2, .loop b => b
    | 3, .cond _ a _ => a
    | 4, .cond _ _ b => b
    | _, c => c)
/-- what the walk of YardAny keeps of its own rows, from world W0 on -/
structure AnI (W0 W : World) (n Bf Bd : Nat) (f d : Nat → Int) : Prop where
  bl : Below W0.heap.size W0 W
  F : IArr W Bf 3 (tab n f)
  D : IArr W Bd 3 (tab n d)
  lf : W0.heap.size ≤ Bf
  ld : W0.heap.size ≤ Bd
  ne : Bf ≠ Bd
section
variable {W0 W W' : World} {n Bf Bd : Nat} {f d : Nat → Int}
theorem AnI.ext (h : AnI W0 W n Bf Bd f d) (hb : Below W.heap.size W W') : AnI W0 W' n Bf Bd f d :=
  ⟨ext_trans h.bl hb, h.F.ext hb, h.D.ext hb, h.lf, h.ld, h.ne⟩
theorem AnI.setF (h : AnI W0 W n Bf Bd f d) (i : Nat) (v : Int) : AnI W0 (W.setCell ⟨Bf, i, none⟩ (.int .i64 v)) n Bf Bd (upd f i v) d :=
  ⟨h.bl.setCell h.lf _, by have := h.F.set i v; rwa [tab_set] at this, h.D.other (by have := h.ne; simp; omega) _, h.lf, h.ld, h.ne⟩
theorem AnI.setD (h : AnI W0 W n Bf Bd f d) (i : Nat) (v : Int) : AnI W0 (W.setCell ⟨Bd, i, none⟩ (.int .i64 v)) n Bf Bd f (upd d i v) :=
  ⟨h.bl.setCell h.ld _, h.F.other (by have := h.ne; simp; omega) _, by have := h.D.set i v; rwa [tab_set] at this, h.lf, h.ld, h.ne⟩
theorem AnI.atF (h : AnI W0 W n Bf Bd f d) {i : Nat} (hi : i < n) : W.cell? ⟨Bf, i, none⟩ = some (.int .i64 (f i)) := h.F.cell (tab_get f hi)
theorem AnI.atD (h : AnI W0 W n Bf Bd f d) {i : Nat} (hi : i < n) : W.cell? ⟨Bd, i, none⟩ = some (.int .i64 (d i)) := h.D.cell (tab_get d hi)
end

set_option maxRecDepth 100000 in
set_option maxHeartbeats 8000000 in
theorem any_loop2 (g : Gd) (hok : g.ok) (lp F : Nat → Int) (A : Option Addr) (q cap : Nat) (Af Ag Aa Ab Ac Ad : Option Addr) (cf cg ca cb cc cd : Nat) (la lb lc ld : List Int) (w W0 wr : World) (Bf Bd : Nat)
    (hlen : 1 ≤ g.nodes.length ∧ g.nodes.length ≤ 30) (hn : g.nodes.length = q) (hd : GdAt w A g) (hbW : Below w.heap.size w W0) (hBW : Blk W0 w.heap.size 37 [.slice A q cap, .int .i64 g.limit])
    (hFl : Cells W0 Af 2 Rng.enc (rngs (Gd.flo g) (Gd.fhi g) q)) (hDr : Cells W0 Ag 2 Rng.enc (rngs (Gd.dlo g) (Gd.dhi g) q)) (ha : Cells W0 Aa 1 encI la) (hb : Cells W0 Ab 1 encI lb) (hc : Cells W0 Ac 1 encI lc) (hdd : Cells W0 Ad 1 encI ld)
    (ho1 : la.length ≤ q) (ho2 : lb.length ≤ q) (ho3 : lc.length ≤ q) (ho4 : ld.length ≤ q) (hmid : Gd.Mid g lp) (hFF : g.flow lp = F)
    (b1 : ∀ k, k < q → Gd.blowB g F k = true → (k : Int) ∈ la) (b2 : ∀ k, Gd.blowB g F k = false → ¬ (k : Int) ∈ lb) (b3 : ∀ k, k < q → Gd.lowB g (g.drop F) k = true → (k : Int) ∈ lc) (b4 : ∀ k, Gd.lowB g (g.drop F) k = false → ¬ (k : Int) ∈ ld)
    (hS : AnI W0 wr q Bf Bd F (g.dr F 0)) (K : Act → World → Prop) (Q' : Exit → Act → World → Prop) (c : Code) (hQ : Hid (Q' = bodyPost Try.prog Try.f7 fun e w' => e = .returned (.bool true) ∧ Below w.heap.size w w'))
    (hcode : c = part [1, 1, 1, 1, 1, 1, 1, 1, 0, 1, 2] (Try.f7.body.getD .skip)) (hK : ∀ a w, Code.wp Try.prog (part [1, 1, 1, 1, 1, 1, 1, 1, 1] (Try.f7.body.getD .skip)) Q' a w → K a w)
    {u0 u1 u3 u4 u7 u10 u13 u16 u17 u19 u20 u21 u22 u23 u24 u25 u26 u27 u28 u29 u30 u31 u32 u33 u34 u35 u36 u37 u38 u39 u40 u41 u42 u43 u44 u45 u46 u47 u48 u49 u50 u51 u52 u53 u54 u55 u56 u57 u58 u59 u60 u61 u62 u63 u64 u65 u66 u67 u68 u69 u70 u71 u72 u73 u74 u75 u76 u77 u78 u79 u80 u81 u82 u83 u84 u85 u86 u87 u88 u89 u90 u91 u92 u93 u94 u95 u96 u97 u98 u99 u100 u101 u102 u103 u104 u105 u106 u107 u108 u109 u110 u111 u112 u113 u114 u115 u116 u117 u118 u119 u120 u121 u122 u123 u124 u125 u126 u127 u128 u129 u130 u131 u132 u133 u134 u135 u136 u137 u138 u139 u140 u141 u142 u143 u144 u145 u146 u147 u148 u149 u150 u151 u152 u153 u154 u155 u156 u157 u158 u159 u160 u161 u162 u163 u164 u165 u166 u167 u168 u169 u170 u171 u172 u173 u174 u175 u176 u177 u178 u179 u180 u181 u182 u183 u184 u185 u186 u187 u188 u189 u190 u191 u192 u193 u194 u195 u196 u197 u198 u199 u200 u201 u202 u203 u204 u205 u206 u207 u208 u209 u210 u211 u212 u213 u214 u215 u216 u217 u218 u219 u220 u221 u222 u223 u224 u225 u226 u227 u228 u229 u230 u231 u232 u233 u234 u235 u236 u237 u238 u239 u240 u241 u242 u243 u244 u245 u246 u247 u248 u249 u250 u251 u252 u253 u254 u255 u256 u257 u258 u259 u260 u261 u262 u263 u264 u265 u266 u267 u268 u269 u270 u271 u272 : Value} : Code.wp Try.prog c (Exit.inBlock 2 (Exit.then K Q')) { tmps := #[u0, u1, .pointer (some ⟨w.heap.size, 0, none⟩), u3, u4, .slice Af q cf, .slice Ag q cg, u7, .slice Aa la.length ca, .slice Ab lb.length cb, u10, .slice Ac lc.length cc, .slice Ad ld.length cd, u13, .slice (some ⟨Bf, 0, none⟩) q q, .slice (some ⟨Bd, 0, none⟩) q q, u16, u17, .int .i64 0, u19, u20, u21, u22, u23, u24, u25, u26, u27, u28, u29, u30, u31, u32, u33, u34, u35, u36, u37, u38, u39, u40, u41, u42, u43, u44, u45, u46, u47, u48, u49, u50, u51, u52, u53, u54, u55, u56, u57, u58, u59, u60, u61, u62, u63, u64, u65, u66, u67, u68, u69, u70, u71, u72, u73, u74, u75, u76, u77, u78, u79, u80, u81, u82, u83, u84, u85, u86, u87, u88, u89, u90, u91, u92, u93, u94, u95, u96, u97, u98, u99, u100, u101, u102, u103, u104, u105, u106, u107, u108, u109, u110, u111, u112, u113, u114, u115, u116, u117, u118, u119, u120, u121, u122, u123, u124, u125, u126, u127, u128, u129, u130, u131, u132, u133, u134, u135, u136, u137, u138, u139, u140, u141, u142, u143, u144, u145, u146, u147, u148, u149, u150, u151, u152, u153, u154, u155, u156, u157, u158, u159, u160, u161, u162, u163, u164, u165, u166, u167, u168, u169, u170, u171, u172, u173, u174, u175, u176, u177, u178, u179, u180, u181, u182, u183, u184, u185, u186, u187, u188, u189, u190, u191, u192, u193, u194, u195, u196, u197, u198, u199, u200, u201, u202, u203, u204, u205, u206, u207, u208, u209, u210, u211, u212, u213, u214, u215, u216, u217, u218, u219, u220, u221, u222, u223, u224, u225, u226, u227, u228, u229, u230, u231, u232, u233, u234, u235, u236, u237, u238, u239, u240, u241, u242, u243, u244, u245, u246, u247, u248, u249, u250, u251, u252, u253, u254, u255, u256, u257, u258, u259, u260, u261, u262, u263, u264, u265, u266, u267, u268, u269, u270, u271, u272], defers := [] } wr := by
  subst hcode
  have Hn := Lib.hid hn
  have Hm := Lib.hid hmid
  have HFF := Lib.hid hFF
  have Hb1 := Lib.hid b1
  have Hb2 := Lib.hid b2
  have Hb3 := Lib.hid b3
  have Hb4 := Lib.hid b4
  clear hmid hFF b1 b2 b3 b4
  simp only [part, Try.f7, Option.getD_some] at hK ⊢
  obtain rfl := hQ.out
  have x0 : wr.cell? ⟨w.heap.size, 0, none⟩ = _ := (hBW.ext hS.bl).cell rfl
  go_loopw [18] (fun v wr => ∃ k : Nat, v = .int .i64 k ∧ k ≤ q ∧ AnI W0 wr q Bf Bd F (g.dr F k)) (fun v _ => q - (intOf v).toNat)
  case atStart => exact ⟨0, rfl, by omega, hS⟩
  case round =>
    clear hS x0
    obtain ⟨k, rfl, hk, hS⟩ := hrel
    have x0 : wr.cell? ⟨w.heap.size, 0, none⟩ = _ := (hBW.ext hS.bl).cell rfl
    by_cases hkn : k < q
    · have hkn' : (k : Int) < (q : Int) := by omega
      have hk0 : (0 : Int) ≤ (k : Int) := by omega
      obtain ⟨b, off, eA, -, c0, c1, c2, c3, c4⟩ := (hd.ext (ext_trans hbW hS.bl)).node (k := k) (by omega)
      subst eA
      have hS2 := hS.ext (ext_alloc wr (.cells #[.int .i64 (g.node k).parent, .int .i64 (g.node k).load.lo, .int .i64 (g.node k).load.hi, .int .i64 (g.node k).fuse, .int .i64 (g.node k).sag] 52))
      have hbx := Blk.new wr 52 (Nd.enc (g.node k))
      have hDlt := Blk.lt hS.D
      have hdr : g.dr F (k + 1) = if 0 < k then upd (g.dr F k) k (g.dr F k (g.par k) + (g.node k).sag * F k) else g.dr F k := rfl
      have Hdr := Lib.hid hdr
      have hFb := Hm.out.flow k
      have hfit := Gd.ok_fit hok
      have hFb2 := (hfit.fl k)
      have Hdb := Lib.hid (Hm.out.dr k (by omega))
      have hdrop : g.drop F k = g.dr F (k + 1) k := Gd.drop_dr g F (Nat.lt_succ_self k) (by omega)
      have hDb := Hm.out.drop k
      rw [HFF.out] at hFb hDb
      rw [hdrop] at hDb
      have Hdrop := Lib.hid hdrop
      clear hS hdr hdrop
      go_upto_region 20 with fail
      change Blk (wr.alloc (.cells #[.int .i64 (g.node k).parent, .int .i64 (g.node k).load.lo, .int .i64 (g.node k).load.hi, .int .i64 (g.node k).fuse, .int .i64 (g.node k).sag] 52)) wr.heap.size 52 [.int .i64 (g.node k).parent, .int .i64 (g.node k).load.lo, .int .i64 (g.node k).load.hi, .int .i64 (g.node k).fuse, .int .i64 (g.node k).sag] at hbx
      clear x0 c0 c1 c2 c3 c4
      generalize wr.alloc (.cells #[.int .i64 (g.node k).parent, .int .i64 (g.node k).load.lo, .int .i64 (g.node k).load.hi, .int .i64 (g.node k).fuse, .int .i64 (g.node k).sag] 52) = W2 at *
      go_upto_if 157 with fail
      go_cut [19] (fun z W' => z = .pointer (some ⟨wr.heap.size, 0, none⟩) ∧ AnI W0 W' q Bf Bd F (g.dr F (k + 1)) ∧ Blk W' wr.heap.size 52 [.int .i64 (g.node k).parent, .int .i64 (g.node k).load.lo, .int .i64 (g.node k).load.hi, .int .i64 (g.node k).fuse, .int .i64 (g.node k).sag])
      case first =>
        by_cases h0 : 0 < k
        · have h0' : (0 : Int) < (k : Int) := by omega
          have hst := Hdr.out
          rw [if_pos h0] at hst
          have Hst := Lib.hid hst
          have hpar := Gd.par_lt hok h0 (by omega)
          have hpn : g.par k < q := by omega
          have hpp : (0 : Int) ≤ (g.par k : Int) := by omega
          have hpp' : (g.par k : Int) < (q : Int) := by omega
          have d0 := hbx.cell (i := 0) rfl
          rw [hpar.2] at d0
          have d4 := hbx.cell (i := 4) rfl
          have hin := (hok.nodes k (by omega)).inn h0
          have m1 := mul_bd hin.2.2.1 hin.2.2.2 (show 0 ≤ F k by omega) (show F k ≤ 60000000 by omega)
          have m2 := Hdb.out (g.par k)
          rw [HFF.out] at m2
          clear hst Hdr
          go_upto_region 21 with fail
          refine Dr.wp_region_plan 16 [] (.q [0, 1, 2, 3, 4, 5, 6, 7, 8, 9, 10, 11, 12, 13, 14, 15] .done) (by kernel_rfl) (by kernel_rfl) ?_
          have hS5 := hS2.ext (ext_drew W2)
          have hb5 := hbx.ext (ext_drew W2)
          have e0 := cell_ext d0 (ext_drew W2)
          have e4 := cell_ext d4 (ext_drew W2)
          clear hS2 hbx d0 d4
          generalize World.drew _ = W5 at *
          have q0 := Dr.cell0 e0
          have q1 := Dr.cell0 e4
          have q2 := Dr.cell0 (hS5.atF hkn)
          have q3 := Dr.cell0 (hS5.atD hpn)
          generalize (g.node k).sag = sg at *
          generalize hp0 : sg * F k = p0 at *
          generalize g.dr F k (g.par k) = dp at *
          refine Dr.plan_q (l := [_, _, _, _, _, _, _, _, _, _, _, _, _, _, _, _]) rfl (fun K hK => ?_)
          iterate 16 (go_big_quiet_step (fail))
          refine wpQuiet_nil (hK _ ?_); clear hK K
          refine Dr.plan_done (tl := [_]) rfl ?_
          clear q0 q1 q2 q3 e0 e4
          have f0' := hS5.D.free k
          have fc := hS5.atD hkn
          have hS6 := hS5.setD k (dp + p0)
          have hb6 := hb5.other (p := ⟨Bd, k, none⟩) (show wr.heap.size ≠ Bd by omega) (.int .i64 (dp + p0))
          clear hS5 hb5
          go_wp2
          go_meet
          case rel => exact ⟨rfl, by rw [Hst.out]; exact hS6, hb6⟩
        · have h0' : ¬ (0 : Int) < (k : Int) := by omega
          have hst := Hdr.out
          rw [if_neg h0] at hst
          have Hst := Lib.hid hst
          clear hst Hdr
          go_wp2
          go_meet
          case rel => exact ⟨rfl, by rw [Hst.out]; exact hS2, hbx⟩
      case rest =>
        obtain ⟨rfl, hS3, hbx3⟩ := hcut
        clear hS2 hbx Hdb
        have hdk := hS3.atD hkn
        generalize hDk : g.dr F (k + 1) k = dk at *
        have HDk := Lib.hid hDk
        clear hDk
        have c1 : ¬ F k < Gd.flo g k := by omega
        have c2 : ¬ Gd.fhi g k < F k := by omega
        have c3 : ¬ dk < Gd.dlo g k := by omega
        have c4 : ¬ Gd.dhi g k < dk := by omega
        go_upto_region 22 with fail
        refine Dr.wp_region_plan 46 [] (.q [0, 1, 2, 3, 4, 5, 6, 7, 8, 9, 10, 11, 12, 13, 14, 15, 16, 17, 18, 19, 20, 21, 22, 23, 24, 25, 26, 27, 28, 29, 30, 31, 32, 33, 34, 35, 36, 37, 38, 39, 40, 41, 42, 43, 44, 45] .done) (by kernel_rfl) (by kernel_rfl) ?_
        have hS5 := hS3.ext (ext_drew wc)
        have hb5 := hbx3.ext (ext_drew wc)
        have hdk5 := cell_ext hdk (ext_drew wc)
        clear hS3 hbx3 hdk
        generalize World.drew _ = W5 at *
        have er : Rng.enc ((rngs (Gd.flo g) (Gd.fhi g) q)[k]'(by rw [rngs_len]; exact hkn)) = [.int .i64 (Gd.flo g k), .int .i64 (Gd.fhi g k)] := by simp [rngs, Rng.enc]
        have er2 : Rng.enc ((rngs (Gd.dlo g) (Gd.dhi g) q)[k]'(by rw [rngs_len]; exact hkn)) = [.int .i64 (Gd.dlo g k), .int .i64 (Gd.dhi g k)] := by simp [rngs, Rng.enc]
        obtain ⟨bf, of, rfl, -, e0, e1⟩ := (hFl.ext hS5.bl).at2 (k := k) (by rw [rngs_len]; exact hkn) er
        obtain ⟨bg, og, rfl, -, e2, e3⟩ := (hDr.ext hS5.bl).at2 (k := k) (by rw [rngs_len]; exact hkn) er2
        have q0 := Dr.cell0 (hS5.atF hkn)
        have q1 := Dr.cell0 hdk5
        have q2 := Dr.cell0 e0
        have q3 := Dr.cell0 e1
        have q4 := Dr.cell0 e2
        have q5 := Dr.cell0 e3
        clear er er2 e0 e1 e2 e3
        refine Dr.plan_q (l := (_ :: _ :: _ :: _ :: _ :: _ :: _ :: _ :: _ :: _ :: _ :: _ :: _ :: _ :: _ :: _ :: _ :: _ :: _ :: _ :: _ :: _ :: _ :: _ :: _ :: _ :: _ :: _ :: _ :: _ :: _ :: _ :: _ :: _ :: _ :: _ :: _ :: _ :: _ :: _ :: _ :: _ :: _ :: _ :: _ :: _ :: [])) rfl (fun K hK => ?_)
        iterate 46 (go_big_quiet_step (fail))
        refine wpQuiet_nil (hK _ ?_); clear hK K
        refine Dr.plan_end rfl ?_
        clear q0 q1 q2 q3 q4 q5 c1 c2 c3 c4 hFb hFb2 hDb
        go_upto_region 24 with fail
        have Hlow := Lib.hid (show Gd.lowB g (g.drop F) k = decide (g.limit < dk) by unfold Gd.lowB; rw [Hdrop.out])
        go_cut [20, 21] (fun u v W' => u = .bool (Gd.blowB g F k) ∧ v = .bool (Gd.lowB g (g.drop F) k) ∧ AnI W0 W' q Bf Bd F (g.dr F (k + 1)))
        case first =>
          have bl : Gd.blowB g F k = decide (0 < k ∧ (g.node k).fuse < F k) := rfl
          have Hbl := Lib.hid bl
          clear bl
          refine Dr.wp_region_plan 20 [] (.q [0, 1, 2, 3, 4, 5, 6, 7, 8, 9, 10, 11, 12, 13, 14, 15, 16, 17, 18, 19] .done) (by kernel_rfl) (by kernel_rfl) ?_
          have hS6 := hS5.ext (ext_drew W5)
          have hb6 := hb5.ext (ext_drew W5)
          have hdk6 := cell_ext hdk5 (ext_drew W5)
          clear hS5 hb5 hdk5
          generalize World.drew _ = W6 at *
          have q0 := Dr.cell0 (hS6.atF hkn)
          have q1 := Dr.cell0 hdk6
          have q2 := Dr.cell0 (hb6.cell (i := 3) rfl)
          have q3 := Dr.cell0 ((hBW.ext hS6.bl).cell (i := 1) rfl)
          by_cases h0 : 0 < k
          · have h0' : (0 : Int) < (k : Int) := by omega
            have Hb := Lib.hid (show Gd.blowB g F k = decide ((g.node k).fuse < F k) by rw [Hbl.out]; simp [h0])
            refine Dr.plan_q (l := [_, _, _, _, _, _, _, _, _, _, _, _, _, _, _, _, _, _, _, _]) rfl (fun K hK => ?_)
            iterate 20 (go_big_quiet_step (fail))
            refine wpQuiet_nil (hK _ ?_); clear hK K
            refine Dr.plan_end rfl ?_
            go_wp2
            go_meet
            case rel => exact ⟨by rw [Hb.out], by rw [Hlow.out], hS6⟩
          · have h0' : ¬ (0 : Int) < (k : Int) := by omega
            have Hb := Lib.hid (show Gd.blowB g F k = false by rw [Hbl.out]; simp [h0])
            refine Dr.plan_q (l := [_, _, _, _, _, _, _, _, _, _, _, _, _, _, _, _, _, _, _, _]) rfl (fun K hK => ?_)
            iterate 20 (go_big_quiet_step (fail))
            refine wpQuiet_nil (hK _ ?_); clear hK K
            refine Dr.plan_end rfl ?_
            go_wp2
            go_meet
            case rel => exact ⟨by rw [Hb.out], by rw [Hlow.out], hS6⟩
        case rest =>
          obtain ⟨rfl, rfl, hS6⟩ := hcut
          clear hS5 hb5 hdk5
          have ha6 := ha.ext hS6.bl
          have hb6 := hb.ext hS6.bl
          have hc6 := hc.ext hS6.bl
          have hd6 := hdd.ext hS6.bl
          cases hbl : Gd.blowB g F k
          · have C1 := Lib.hid (has_f (n := lb.length) (c := cb) (Hb2.out k hbl) rfl (by omega) hb6)
            cases hlw : Gd.lowB g (g.drop F) k
            · have C2 := Lib.hid (has_f (n := ld.length) (c := cd) (Hb4.out k hlw) rfl (by omega) hd6)
              clear hbl hlw
              go_wp2_with fail
              refine C1.out.mono ?_; rintro e w5 ⟨rfl, rfl⟩
              go_wp2_with fail
              refine C2.out.mono ?_; rintro e w5 ⟨rfl, rfl⟩
              go_wp2
              go_roundw
              case rel => exact ⟨k + 1, by go_num, by omega, hS6⟩
              case measure => simp [intOf]; omega
            · have C2 := Lib.hid (has_t (n := lc.length) (c := cc) (Hb3.out k hkn hlw) rfl (by omega) hc6)
              clear hbl hlw
              go_wp2_with fail
              refine C1.out.mono ?_; rintro e w5 ⟨rfl, rfl⟩
              go_wp2_with fail
              refine C2.out.mono ?_; rintro e w5 ⟨rfl, rfl⟩
              go_wp2
              go_roundw
              case rel => exact ⟨k + 1, by go_num, by omega, hS6⟩
              case measure => simp [intOf]; omega
          · have C1 := Lib.hid (has_t (n := la.length) (c := ca) (Hb1.out k hkn hbl) rfl (by omega) ha6)
            cases hlw : Gd.lowB g (g.drop F) k
            · have C2 := Lib.hid (has_f (n := ld.length) (c := cd) (Hb4.out k hlw) rfl (by omega) hd6)
              clear hbl hlw
              go_wp2_with fail
              refine C1.out.mono ?_; rintro e w5 ⟨rfl, rfl⟩
              go_wp2_with fail
              refine C2.out.mono ?_; rintro e w5 ⟨rfl, rfl⟩
              go_wp2
              go_roundw
              case rel => exact ⟨k + 1, by go_num, by omega, hS6⟩
              case measure => simp [intOf]; omega
            · have C2 := Lib.hid (has_t (n := lc.length) (c := cc) (Hb3.out k hkn hlw) rfl (by omega) hc6)
              clear hbl hlw
              go_wp2_with fail
              refine C1.out.mono ?_; rintro e w5 ⟨rfl, rfl⟩
              go_wp2_with fail
              refine C2.out.mono ?_; rintro e w5 ⟨rfl, rfl⟩
              go_wp2
              go_roundw
              case rel => exact ⟨k + 1, by go_num, by omega, hS6⟩
              case measure => simp [intOf]; omega
    · obtain rfl : k = q := by omega
      go_wp2_with fail
      refine (wakes_any _).mono ?_; rintro e w9 ⟨rfl, hb9⟩
      go_wp2
      go_ret
      exact ⟨rfl, ext_trans (ext_trans hbW hS.bl) hb9⟩
end Go.Proofs.Ytopfhinnamhoiaa
