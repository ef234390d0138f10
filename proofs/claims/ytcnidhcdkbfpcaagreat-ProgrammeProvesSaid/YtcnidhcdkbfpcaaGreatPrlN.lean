/- Walk: bounded (the bound of a table, and whether it is right). -/
import Derived.Test.YtcnidhcdkbfpcaaGreatPrlM
import Derived.Test.YtcnidhcdkbfpcaaGreatPrlI
namespace Go.Proofs.YtcnidhcdkbfpcaaGreat
open Go.RowKit Go.Bs Go.Pg Go.Pl Go.Sort
theorem bnd_take {s : Sh} (T : List (List Int)) {k : Nat} (h : k < s.firsts.length) : minL maxT ((s.firsts.take (k + 1)).map fun a => s.atT T (Sh.one a)) = min (minL maxT ((s.firsts.take k).map fun a => s.atT T (Sh.one a))) (s.atT T (Sh.one s.firsts[k])) := by
  rw [List.take_succ_eq_append_getElem h, List.map_append, minL_append]
  rfl
theorem rowB_all {s : Sh} {T : List (List Int)} (rs : List RwV) (h : rs.map RwV.r = T) (hl : T.length = s.whole + 1) : (rs.all fun x => rowB s x.r) = s.shapeB T := by
  unfold Sh.shapeB
  rw [decide_eq_true hl, Bool.true_and, ← h, List.all_map]
  rfl
/-- what bounded returns -/
def BndR (s : Sh) (T : List (List Int)) (e : Ending) : Prop := e = .returned (.tuple #[.int .i64 (if s.rightT T = true then s.bound T else 0), .bool (s.rightT T)])
set_option maxRecDepth 100000 in
set_option maxHeartbeats 4000000 in
theorem bounded_any (s : Sh) (p : ShP) (A : Option Addr) (m c : Nat) (T : List (List Int)) (w : World) (h : ShM w s p) (hok : s.Ok) (hm : T.length = m) (hm9 : m ≤ 9223372036854775807) (hr9 : ∀ r ∈ T, r.length ≤ 9223372036854775807) (hT : TabA w A T) :
    Calls Tryz.prog 33 #[shV s p, .slice A m c] w fun e w' => BndR s T e ∧ Below w.heap.size w w' := by
  have n8 := hok.n8
  have Hok := Lib.hid hok
  have Hm := Lib.hid hm
  have Hr9 := Lib.hid hr9
  have HR := Lib.hid (show s.rightT T = (s.shapeB T && s.cellsB T) from rfl)
  have HC := Lib.hid (fun t a b h1 h2 h3 h4 => cells_bad (s := s) (T := T) (t := t) (a := a) (b := b) h1 h2 h3 h4)
  have HD := Lib.hid (fun h => cells_good (s := s) (T := T) h)
  have HF := Lib.hid (show s.rightT T = false → BndR s T (.returned (.tuple #[.int .i64 0, .bool false])) from fun hx => by unfold BndR; rw [hx]; simp)
  have HG := Lib.hid (show s.rightT T = true → ∀ z : Int, z = s.bound T → BndR s T (.returned (.tuple #[.int .i64 z, .bool true])) from fun hx z hz => by unfold BndR; rw [hx, hz]; simp)
  have HB := Lib.hid (show s.bound T = minL maxT (s.firsts.map fun a => s.atT T (Sh.one a)) from rfl)
  have hb0 : Below w.heap.size w ((w.alloc (.cells (shC s p).toArray 37)).alloc (.cells #[.slice A m c] 27)) := ((Below.refl _ _).alloc (Nat.le_refl _) _).alloc (by simp) _
  have hS : Blk ((w.alloc (.cells (shC s p).toArray 37)).alloc (.cells #[.slice A m c] 27)) w.heap.size 37 (shC s p) := (Blk.new w 37 (shC s p)).alloc _
  have hTB : Blk ((w.alloc (.cells (shC s p).toArray 37)).alloc (.cells #[.slice A m c] 27)) (w.heap.size + 1) 27 [.slice A m c] := by
    have := Blk.new (w.alloc (.cells (shC s p).toArray 37)) 27 [.slice A m c]
    simpa using this
  have h0 := h.ext hb0
  have hT0 := hT.ext hb0
  generalize s.rightT T = res at *
  generalize s.bound T = bd at *
  clear h hok hm hT hr9
  unfold shV at *
  unfold shC at *
  go_enter Tryz.func33, Tryz.ntmps33
  go_upto_region 1 with fail
  change Below w.heap.size w ((w.alloc (.cells #[.slice p.A s.acts.length p.cA, .slice p.R s.rest.length p.cR, .slice p.I s.ins.length p.cI, .slice p.O s.outs.length p.cO, .int .i64 s.cover, .int .i64 s.dull, .slice p.B s.before.length p.cB] 37)).alloc (.cells #[.slice A m c] 27)) at hb0
  change ShM ((w.alloc (.cells #[.slice p.A s.acts.length p.cA, .slice p.R s.rest.length p.cR, .slice p.I s.ins.length p.cI, .slice p.O s.outs.length p.cO, .int .i64 s.cover, .int .i64 s.dull, .slice p.B s.before.length p.cB] 37)).alloc (.cells #[.slice A m c] 27)) _ _ at h0
  change TabA ((w.alloc (.cells #[.slice p.A s.acts.length p.cA, .slice p.R s.rest.length p.cR, .slice p.I s.ins.length p.cI, .slice p.O s.outs.length p.cO, .int .i64 s.cover, .int .i64 s.dull, .slice p.B s.before.length p.cB] 37)).alloc (.cells #[.slice A m c] 27)) _ _ at hT0
  change Blk ((w.alloc (.cells #[.slice p.A s.acts.length p.cA, .slice p.R s.rest.length p.cR, .slice p.I s.ins.length p.cI, .slice p.O s.outs.length p.cO, .int .i64 s.cover, .int .i64 s.dull, .slice p.B s.before.length p.cB] 37)).alloc (.cells #[.slice A m c] 27)) _ _ _ at hS
  change Blk ((w.alloc (.cells #[.slice p.A s.acts.length p.cA, .slice p.R s.rest.length p.cR, .slice p.I s.ins.length p.cI, .slice p.O s.outs.length p.cO, .int .i64 s.cover, .int .i64 s.dull, .slice p.B s.before.length p.cB] 37)).alloc (.cells #[.slice A m c] 27)) _ _ _ at hTB
  generalize (w.alloc (.cells #[.slice p.A s.acts.length p.cA, .slice p.R s.rest.length p.cR, .slice p.I s.ins.length p.cI, .slice p.O s.outs.length p.cO, .int .i64 s.cover, .int .i64 s.dull, .slice p.B s.before.length p.cB] 37)).alloc (.cells #[.slice A m c] 27) = W0 at *
  have x0 : W0.cell? ⟨w.heap.size, 0, none⟩ = _ := hS.cell (i := 0) rfl
  go_upto_region 2 with fail
  clear x0
  have hbn := ext_alloc W0 (.cells #[.int .i64 s.acts.length] 3)
  have hNB := Blk.new W0 3 [.int .i64 s.acts.length]
  change Blk (W0.alloc (.cells #[.int .i64 s.acts.length] 3)) _ _ _ at hNB
  have hb1 := ext_trans hb0 hbn
  have hS1 := hS.ext hbn
  have hTB1 := hTB.ext hbn
  have h1 := h0.ext hbn
  have hT1 := hT0.ext hbn
  clear hb0 hS hTB h0 hT0 hbn
  generalize W0.heap.size = NB at *
  generalize W0.alloc (.cells #[.int .i64 s.acts.length] 3) = W1 at *
  go_upto_region 3 with fail
  have hbf := ext_alloc W1 (.cells #[.func (.func 55) #[] #[.pointer (some ⟨w.heap.size + 1, 0, none⟩), .pointer (some ⟨NB, 0, none⟩)]] 60)
  have hFB := Blk.new W1 60 [.func (.func 55) #[] #[.pointer (some ⟨w.heap.size + 1, 0, none⟩), .pointer (some ⟨NB, 0, none⟩)]]
  change Blk (W1.alloc (.cells #[.func (.func 55) #[] #[.pointer (some ⟨w.heap.size + 1, 0, none⟩), .pointer (some ⟨NB, 0, none⟩)]] 60)) _ _ _ at hFB
  have hb2 := ext_trans hb1 hbf
  have hS2 := hS1.ext hbf
  have hTB2 := hTB1.ext hbf
  have hNB2 := hNB.ext hbf
  have h2 := h1.ext hbf
  have hT2 := hT1.ext hbf
  clear hb1 hS1 hTB1 hNB h1 hT1 hbf
  generalize W1.heap.size = FB at *
  generalize W1.alloc (.cells #[.func (.func 55) #[] #[.pointer (some ⟨w.heap.size + 1, 0, none⟩), .pointer (some ⟨NB, 0, none⟩)]] 60) = W2 at *
  have HE := Lib.hid (fun W (hW : Below W2.heap.size W2 W) => And.intro (h2.ext hW) (And.intro (hT2.ext hW) (And.intro (hS2.ext hW) (And.intro (hTB2.ext hW) (And.intro (hNB2.ext hW) (And.intro (hFB.ext hW) (ext_trans hb2 hW)))))))
  have hb2' := Below.refl W2.heap.size W2
  clear hb2 hS2 hTB2 hNB2 h2 hT2 hFB
  refine Dr.wp_region_plan 13 [] (.q [0, 1, 2] (.e1 3 (.q [4, 5, 6, 7, 8, 9] (.e1 10 (.q [11, 12] .done))))) (by kernel_rfl) (by kernel_rfl) ?_
  have hbd := hb2'.drew
  clear hb2'
  generalize World.drew _ = V0 at *
  obtain ⟨e1, e2, e3, e4, e5, e6, e7⟩ := HE.out V0 hbd
  have q8 := Dr.cell0 (e4.cell (i := 0) rfl)
  have q0 := Dr.cell0 (e3.cell (i := 0) rfl)
  have q1 := Dr.cell0 (e3.cell (i := 1) rfl)
  have q2 := Dr.cell0 (e3.cell (i := 2) rfl)
  have q3 := Dr.cell0 (e3.cell (i := 3) rfl)
  have q4 := Dr.cell0 (e3.cell (i := 4) rfl)
  have q5 := Dr.cell0 (e3.cell (i := 5) rfl)
  have q6 := Dr.cell0 (e3.cell (i := 6) rfl)
  have CW := Lib.hid (whole_any s p V0 n8)
  clear e1 e2 e3 e4 e5 e6 e7
  refine Dr.plan_q (l := [_, _, _]) rfl (fun K hK => ?_)
  iterate 3 (go_big_quiet_step (fail))
  refine wpQuiet_nil (hK _ ?_); clear hK K q0 q1 q2 q3 q4 q5 q6 q8
  refine Dr.plan_e rfl (by rfl) (fun K hK => ?_)
  go_wp2_with fail
  refine CW.out.mono ?_; rintro e V1 ⟨rfl, hb3⟩
  refine hK _ _ (.of hb3) ?_; clear hK K CW
  have hbd1 := hbd.trans (hb3.mono hbd.size)
  clear hbd hb3
  obtain ⟨e1, e2, e3, e4, e5, e6, e7⟩ := HE.out V1 hbd1
  have hwb : s.whole ≤ 255 := by unfold Sh.whole; have := pow_le8 n8; omega
  obtain ⟨rs, hrs, hrc, hrx⟩ := e2
  have q8 := Dr.cell0 (e4.cell (i := 0) rfl)
  have hrl : rs.length = m := by rw [← Hm.out, ← hrs, List.length_map]
  have CA := Lib.hid (all_row 57 #[] #[.pointer (some ⟨NB, 0, none⟩)] (fun x => rowB s x.r) A m c rs V1 (enters_of Tryz.func57 (by kernel_rfl) rfl) hrl hm9 hrc (fun W x hx hW => by
    show Calls Tryz.prog 57 #[RwV.val x, .pointer (some ⟨NB, 0, none⟩)] W _
    exact row_any s NB x W n8 (cell_ext (e5.cell (i := 0) rfl) hW) ((hrx x hx).ext hW) (Hr9.out _ (by rw [← hrs]; exact List.mem_map_of_mem hx))))
  have HX := Lib.hid (rowB_all (s := s) rs hrs)
  clear e1 e3 e4 e5 e6 e7 hrc hrx hrs hrl
  by_cases hmw : m = s.whole + 1
  rotate_left
  · have hne : ((m : Int) != (s.whole : Int) + 1) = true := by simp; omega
    have hr : res = false := by
      rw [HR.out]
      cases hsb : s.shapeB T
      · rfl
      · exact absurd (Hm.out.symm.trans (shape_bad hsb).1) hmw
    have HF2 := Lib.hid (HF.out hr)
    obtain ⟨-, -, -, -, -, -, hbw⟩ := HE.out V1 hbd1
    clear hr hmw HX CA
    refine Dr.plan_q (l := [_, _, _, _, _, _]) rfl (fun K hK => ?_)
    iterate 6 (go_big_quiet_step (fail))
    refine wpQuiet_nil (hK _ ?_); clear hK K q8
    refine Dr.plan_e_skip rfl (by rfl) ?_; go_frame
    refine Dr.plan_q (l := [_, _]) rfl (fun K hK => ?_)
    iterate 2 (go_big_quiet_step (fail))
    refine wpQuiet_nil (hK _ ?_); clear hK K
    refine Dr.plan_end rfl ?_
    go_wp2
    refine bodyPost_ret (v := .tuple #[.int .i64 0, .bool false]) (by simp [results, Tryz.results33, go_sem]) rfl ?_
    exact ⟨HF2.out, hbw⟩
  have hne : ((m : Int) != (s.whole : Int) + 1) = false := by simp; omega
  have HS := Lib.hid (HX.out (Hm.out.trans hmw))
  have Hmw := Lib.hid hmw
  have hmw2 : m ≤ 256 := by omega
  clear hmw HX
  generalize (rs.all fun x => rowB s x.r) = al at *
  refine Dr.plan_q (l := [_, _, _, _, _, _]) rfl (fun K hK => ?_)
  iterate 6 (go_big_quiet_step (fail))
  refine wpQuiet_nil (hK _ ?_); clear hK K q8
  refine Dr.plan_e rfl (by rfl) (fun K hK => ?_)
  go_wp2_with fail
  refine CA.out.mono ?_; rintro e V2 ⟨rfl, hb4⟩
  refine hK _ _ (.of hb4) ?_; clear hK K CA
  have hbd2 := hbd1.trans (hb4.mono hbd1.size)
  clear hbd1 hb4 hne
  refine Dr.plan_q (l := [_, _]) rfl (fun K hK => ?_)
  iterate 2 (go_big_quiet_step (fail))
  refine wpQuiet_nil (hK _ ?_); clear hK K
  refine Dr.plan_end rfl ?_
  cases al
  · have HF2 := Lib.hid (HF.out (by rw [HR.out, ← HS.out]; rfl))
    obtain ⟨-, -, -, -, -, -, hbw⟩ := HE.out V2 hbd2
    go_wp2
    refine bodyPost_ret (v := .tuple #[.int .i64 0, .bool false]) (by simp [results, Tryz.results33, go_sem]) rfl ?_
    exact ⟨HF2.out, hbw⟩
  have Hsh := Lib.hid (show s.shapeB T = true from HS.out.symm)
  have HR2 := Lib.hid (show res = s.cellsB T from by rw [HR.out, Hsh.out]; rfl)
  have Hcb := Lib.hid (fun t a b h1 h2 h3 (h4 : s.cellB T ⟨t, a, b⟩ = false) => HF.out (HC.out t a b h1 h2 h3 h4))
  have Hcg := Lib.hid (fun h => HG.out (HR2.out.trans (HD.out h)))
  have Hv := Lib.hid (show ∀ z, StOk s z → 0 ≤ s.atT T z ∧ s.atT T z ≤ 1000000 from fun z hz => by
    obtain ⟨hs1, hs2⟩ := shape_bad Hsh.out
    have h1 : z.set < T.length := by
      rw [hs1]
      have := hz.set
      unfold Sh.whole
      have := Nat.two_pow_pos s.acts.length
      omega
    have hi : z.last * s.acts.length + z.sec < T[z.set].length := by rw [(hs2 _ h1).1]; exact tab_bd hz.last hz.sec
    rw [atT_eq h1 hi]
    exact (hs2 _ h1).2 _ hi)
  have HAt := Lib.hid (fun x W h hx => at_any s A m c T (w.heap.size + 1) NB x W h Hok.out Hm.out Hsh.out hx)
  have HTs := Lib.hid (fun XB x y W h hx hy hF h0 h1 h2 => test_any s A m c T (w.heap.size + 1) NB FB XB x y W h Hok.out Hm.out Hsh.out hx hy hF h0 h1 h2 Hv.out)
  have HAE := Lib.hid (fun W hW => show AtB s A m c T (w.heap.size + 1) NB W from ⟨(HE.out W hW).2.2.2.1.cell (i := 0) rfl, (HE.out W hW).2.2.2.2.1.cell (i := 0) rfl, (HE.out W hW).2.1⟩)
  clear HF HG HR HC HD HS HR2
  go_upto_region 5 with fail
  have y0 : V2.cell? ⟨w.heap.size + 1, 0, none⟩ = _ := (HE.out V2 hbd2).2.2.2.1.cell (i := 0) rfl
  go_upto_block 0 with fail
  clear y0
  simp only [Bool.not_true]
  go_wp2
  go_loopw [34] (fun t wr => ∃ i : Nat, t = .int .i64 i ∧ i ≤ m ∧ Hid (∀ t, t < i → ∀ a, a < s.acts.length → ∀ b, b < s.acts.length → s.cellB T ⟨t, a, b⟩ = true) ∧ Below W2.heap.size W2 wr) (fun t _ => m - (intOf t).toNat)
  case atStart => exact ⟨0, rfl, by omega, Lib.hid (by intro t hj; omega), hbd2⟩
  case round =>
    clear hbd2
    obtain ⟨t, rfl, ht, Ht, hbr⟩ := hrel
    by_cases hlt : t < m
    · have hlt' : (t : Int) < (m : Int) := by omega
      have ht0 : (0 : Int) ≤ (t : Int) := by omega
      have htw : t < s.whole + 1 := by have := Hmw.out; omega
      have n0 : wr.cell? ⟨NB, 0, none⟩ = _ := (HE.out wr hbr).2.2.2.2.1.cell (i := 0) rfl
      go_upto_block 2 with fail
      clear n0
      go_wp2
      generalize wr = w4 at *
      go_loopw [38] (fun t' wq => ∃ i : Nat, t' = .int .i64 i ∧ i ≤ s.acts.length ∧ Hid (∀ a, a < i → ∀ b, b < s.acts.length → s.cellB T ⟨t, a, b⟩ = true) ∧ Below W2.heap.size W2 wq) (fun t _ => s.acts.length - (intOf t).toNat)
      case atStart => exact ⟨0, rfl, by omega, Lib.hid (by intro t hj; omega), hbr⟩
      case round =>
        clear hbr
        obtain ⟨a, rfl, ha, Ha, hbr⟩ := hrel
        by_cases hlta : a < s.acts.length
        rotate_left
        · obtain rfl : a = s.acts.length := by omega
          have HN := Lib.hid (show ∀ t', t' < t + 1 → ∀ a, a < s.acts.length → ∀ b, b < s.acts.length → s.cellB T ⟨t', a, b⟩ = true from fun t' h => by
            rcases Nat.lt_or_ge t' t with h1 | h1
            · exact Ht.out t' h1
            · obtain rfl : t' = t := by omega
              exact Ha.out)
          go_wp2
          go_roundw
          case rel => exact ⟨t + 1, by go_num, by omega, HN, hbr⟩
          case measure => simp [intOf]; omega
        have hlta' : (a : Int) < (s.acts.length : Int) := by omega
        have ha0 : (0 : Int) ≤ (a : Int) := by omega
        have n0 : wr.cell? ⟨NB, 0, none⟩ = _ := (HE.out wr hbr).2.2.2.2.1.cell (i := 0) rfl
        go_upto_block 4 with fail
        clear n0
        go_wp2
        generalize wr = w5 at *
        go_loopw [42] (fun t' wq => ∃ i : Nat, t' = .int .i64 i ∧ i ≤ s.acts.length ∧ Hid (∀ b, b < i → s.cellB T ⟨t, a, b⟩ = true) ∧ Below W2.heap.size W2 wq) (fun t _ => s.acts.length - (intOf t).toNat)
        case atStart => exact ⟨0, rfl, by omega, Lib.hid (by intro t hj; omega), hbr⟩
        case round =>
          clear hbr
          obtain ⟨b, rfl, hb, Hb, hbr⟩ := hrel
          by_cases hltb : b < s.acts.length
          rotate_left
          · obtain rfl : b = s.acts.length := by omega
            have HN := Lib.hid (show ∀ a', a' < a + 1 → ∀ b, b < s.acts.length → s.cellB T ⟨t, a', b⟩ = true from fun t' h => by
              rcases Nat.lt_or_ge t' a with h1 | h1
              · exact Ha.out t' h1
              · obtain rfl : t' = a := by omega
                exact Hb.out)
            go_wp2
            go_roundw
            case rel => exact ⟨a + 1, by go_num, by omega, HN, hbr⟩
            case measure => simp [intOf]; omega
          have hltb' : (b : Int) < (s.acts.length : Int) := by omega
          have hbb0 : (0 : Int) ≤ (b : Int) := by omega
          have hxo : StOk s ⟨t, a, b⟩ := ⟨by show t < _; unfold Sh.whole at htw; have := Nat.two_pow_pos s.acts.length; omega, hlta, hltb⟩
          have Hxo := Lib.hid hxo
          have Hnext := Lib.hid (show s.cellB T ⟨t, a, b⟩ = true → ∀ b', b' < b + 1 → s.cellB T ⟨t, a, b'⟩ = true from fun hx b' h => by
            rcases Nat.lt_or_ge b' b with h1 | h1
            · exact Hb.out b' h1
            · obtain rfl : b' = b := by omega
              exact hx)
          have Hbad := Lib.hid (show s.cellB T ⟨t, a, b⟩ = false → _ from fun hx => Hcb.out t a b htw hlta hltb hx)
          have hkw : IntKind.u16.wrap (t : Int) = t := by rw [IntKind.wrap_u16]; omega
          have CRe := Lib.hid (fun W => real_any s ⟨t, a, b⟩ W Hxo.out Hok.out)
          have Hcell := Lib.hid (show s.cellB T ⟨t, a, b⟩ = (!Sh.real ⟨t, a, b⟩ || (!(decide (t = s.whole) && decide (s.atT T ⟨t, a, b⟩ ≠ 0)) && !(s.fol ⟨t, a, b⟩).any fun y => decide (s.atT T ⟨t, a, b⟩ > y.cost + s.atT T y.st))) from rfl)
          unfold St.val at CRe
          generalize Sh.real ⟨t, a, b⟩ = re at *
          go_upto_region 15 with fail
          have hbx := ext_alloc wr (.cells #[.int .u16 t, .int .i64 a, .int .i64 b] 65)
          have hXB := Blk.new wr 65 [.int .u16 t, .int .i64 a, .int .i64 b]
          change Blk (wr.alloc (.cells #[.int .u16 t, .int .i64 a, .int .i64 b] 65)) _ _ _ at hXB
          have hbs := hbr.trans (hbx.mono hbr.size)
          have hXlt := hbr.size
          clear hbr hbx
          generalize wr.heap.size = XB at *
          generalize wr.alloc (.cells #[.int .u16 t, .int .i64 a, .int .i64 b] 65) = w6 at *
          have z0 : w6.cell? ⟨XB, 0, none⟩ = _ := hXB.cell (i := 0) rfl
          have z1 : w6.cell? ⟨XB, 1, none⟩ = _ := hXB.cell (i := 1) rfl
          have z2 : w6.cell? ⟨XB, 2, none⟩ = _ := hXB.cell (i := 2) rfl
          go_wp2_with fail
          refine (CRe.out w6).mono ?_; rintro e w7 ⟨rfl, hb7⟩
          have hbt := hbs.trans (hb7.mono hbs.size)
          have hXt := hXB.ext hb7
          clear hbs hb7 hXB CRe z0 z1 z2
          cases re
          · have HN := Lib.hid (Hnext.out (by rw [Hcell.out]; rfl))
            go_wp2
            go_roundw
            case rel => exact ⟨b + 1, by go_num, by omega, HN, hbt⟩
            case measure => simp [intOf]; omega
          go_upto_region 16 with fail
          refine Dr.wp_region_plan 18 [] (.q [0, 1, 2] (.e1 3 (.q [4, 5, 6, 7] (.e1 8 (.q [9, 10, 11, 12, 13, 15] (.e1 14 (.e1 16 (.q [17] .done)))))))) (by kernel_rfl) (by kernel_rfl) ?_
          have hbu := hbt.drew
          have hXu := hXt.ext (ext_drew w7)
          clear hbt hXt
          generalize World.drew _ = U0 at *
          obtain ⟨e1, e2, e3, e4, e5, e6, e7⟩ := HE.out U0 hbu
          have CW := Lib.hid (whole_any s p U0 n8)
          have z0 := Dr.cell0 (hXu.cell (i := 0) rfl)
          have q0 := Dr.cell0 (e3.cell (i := 0) rfl)
          have q1 := Dr.cell0 (e3.cell (i := 1) rfl)
          have q2 := Dr.cell0 (e3.cell (i := 2) rfl)
          have q3 := Dr.cell0 (e3.cell (i := 3) rfl)
          have q4 := Dr.cell0 (e3.cell (i := 4) rfl)
          have q5 := Dr.cell0 (e3.cell (i := 5) rfl)
          have q6 := Dr.cell0 (e3.cell (i := 6) rfl)
          clear e1 e2 e3 e4 e5 e6 e7
          refine Dr.plan_q (l := [_, _, _]) rfl (fun K hK => ?_)
          iterate 3 (go_big_quiet_step (fail))
          refine wpQuiet_nil (hK _ ?_); clear hK K q0 q1 q2 q3 q4 q5 q6 z0
          refine Dr.plan_e rfl (by rfl) (fun K hK => ?_)
          go_wp2_with fail
          refine CW.out.mono ?_; rintro e U1 ⟨rfl, hb8⟩
          refine hK _ _ (.of hb8) ?_; clear hK K CW
          have hb1 := hbu.trans (hb8.mono hbu.size)
          have hX1 := hXu.ext hb8
          clear hbu hb8 hXu
          have CAt := Lib.hid (fun W hW => HAt.out ⟨t, a, b⟩ W (HAE.out W hW) Hxo.out)
          have CF := Lib.hid (fun W hW => follows_any s p ⟨t, a, b⟩ W (HE.out W hW).1 Hok.out Hxo.out)
          have HCo := Lib.hid (fun W A6 c6 (hW : Below W2.heap.size W2 W) (hX : Blk W XB 65 [.int .u16 t, .int .i64 a, .int .i64 b]) (hc6 : Cells W A6 5 Nx.enc (s.fol ⟨t, a, b⟩)) => contains_nx 60 #[] #[.pointer (some ⟨FB, 0, none⟩), .pointer (some ⟨XB, 0, none⟩)] (fun y => decide (s.atT T ⟨t, a, b⟩ > y.cost + s.atT T y.st)) A6 (s.fol ⟨t, a, b⟩).length c6 (s.fol ⟨t, a, b⟩) W (enters_of Tryz.func60 (by kernel_rfl) rfl) rfl (by have := fol_len s ⟨t, a, b⟩; omega) hc6 (fun V y hy hV => by
            show Calls Tryz.prog 60 #[Nx.val y, .pointer (some ⟨FB, 0, none⟩), .pointer (some ⟨XB, 0, none⟩)] V _
            have hV2 := hW.trans (hV.mono hW.size)
            have hX2 := hX.ext hV
            exact HTs.out XB ⟨t, a, b⟩ y V (HAE.out V hV2) Hxo.out hy ((HE.out V hV2).2.2.2.2.2.1.cell (i := 0) rfl) (hX2.cell (i := 0) rfl) (hX2.cell (i := 1) rfl) (hX2.cell (i := 2) rfl)))
          generalize ((s.fol ⟨t, a, b⟩).any fun y => decide (s.atT T ⟨t, a, b⟩ > y.cost + s.atT T y.st)) = ay at *
          generalize s.atT T ⟨t, a, b⟩ = v at *
          unfold St.val at CAt CF
          by_cases htw2 : t = s.whole
          · have e8 : ((t : Int) == (s.whole : Int)) = true := by rw [int_beq]; simp [htw2]
            have hd : decide (t = s.whole) = true := by simp [htw2]
            rw [hd] at Hcell
            clear hd htw2
            have z0 := Dr.cell0 (hX1.cell (i := 0) rfl)
            have z1 := Dr.cell0 (hX1.cell (i := 1) rfl)
            have z2 := Dr.cell0 (hX1.cell (i := 2) rfl)
            have f0 := Dr.cell0 ((HE.out U1 hb1).2.2.2.2.2.1.cell (i := 0) rfl)
            refine Dr.plan_q (l := [_, _, _, _]) rfl (fun K hK => ?_)
            iterate 4 (go_big_quiet_step (fail))
            refine wpQuiet_nil (hK _ ?_); clear hK K z0 z1 z2 f0
            refine Dr.plan_e rfl (by rfl) (fun K hK => ?_)
            go_wp2_with fail
            refine (CAt.out U1 hb1).mono ?_; rintro e U2 ⟨rfl, hb9⟩
            refine hK _ _ (.of hb9) ?_; clear hK K CAt
            have hb2 := hb1.trans (hb9.mono hb1.size)
            have hX2 := hX1.ext hb9
            clear hb1 hb9 hX1
            by_cases hv0 : v = 0
            · have e9 : (v != 0) = false := by simp [hv0]
              have hd : decide (v ≠ 0) = false := by simp [hv0]
              rw [hd] at Hcell
              clear hd hv0
              have Hok2 := Lib.hid (show ay = false → _ from fun h => Hnext.out (by rw [Hcell.out, h]; rfl))
              have Hbad2 := Lib.hid (show ay = true → _ from fun h => Hbad.out (by rw [Hcell.out, h]; rfl))
              have z0 := Dr.cell0 (hX2.cell (i := 0) rfl)
              have z1 := Dr.cell0 (hX2.cell (i := 1) rfl)
              have z2 := Dr.cell0 (hX2.cell (i := 2) rfl)
              have f0 := Dr.cell0 ((HE.out U2 hb2).2.2.2.2.2.1.cell (i := 0) rfl)
              have e3 := (HE.out U2 hb2).2.2.1
              have q0 := Dr.cell0 (e3.cell (i := 0) rfl)
              have q1 := Dr.cell0 (e3.cell (i := 1) rfl)
              have q2 := Dr.cell0 (e3.cell (i := 2) rfl)
              have q3 := Dr.cell0 (e3.cell (i := 3) rfl)
              have q4 := Dr.cell0 (e3.cell (i := 4) rfl)
              have q5 := Dr.cell0 (e3.cell (i := 5) rfl)
              have q6 := Dr.cell0 (e3.cell (i := 6) rfl)
              clear e3
              refine Dr.plan_q (l := [_, _, _, _, _, _]) rfl (fun K hK => ?_)
              iterate 6 (go_big_quiet_step (fail))
              refine wpQuiet_nil (hK _ ?_); clear hK K q0 q1 q2 q3 q4 q5 q6 z0 z1 z2 f0
              refine Dr.plan_e rfl (by rfl) (fun K hK => ?_)
              go_wp2_with fail
              refine (CF.out _ hb2).mono ?_; rintro e w6 ⟨⟨vf, rfl, hvf⟩, hb6⟩
              refine hK _ _ (.of hb6) ?_; clear hK K CF
              obtain ⟨A6, c6, rfl, -, -, hc6⟩ := hvf.cells nx_len
              have CC := Lib.hid (HCo.out w6 A6 c6 (hb2.trans (hb6.mono hb2.size)) (hX2.ext hb6) hc6)
              refine Dr.plan_e rfl (by rfl) (fun K hK => ?_)
              go_wp2_with fail
              refine CC.out.mono ?_; rintro e w7 ⟨rfl, hb7⟩
              refine hK _ _ (.of hb7) ?_; clear hK K CC
              have hbe := (hb2.trans (hb6.mono hb2.size)).trans (hb7.mono (hb2.trans (hb6.mono hb2.size)).size)
              clear hb6 hb7 hc6 hvf
              refine Dr.plan_q (l := [_]) rfl (fun K hK => ?_)
              iterate 1 (go_big_quiet_step (fail))
              refine wpQuiet_nil (hK _ ?_); clear hK K
              refine Dr.plan_end rfl ?_
              cases ay
              · have HN := Lib.hid (Hok2.out rfl)
                go_wp2
                go_roundw
                case rel => exact ⟨b + 1, by go_num, by omega, HN, hbe⟩
                case measure => simp [intOf]; omega
              · have HF2 := Lib.hid (Hbad2.out rfl)
                obtain ⟨-, -, -, -, -, -, hbw⟩ := HE.out _ hbe
                go_wp2
                refine bodyPost_ret (v := .tuple #[.int .i64 0, .bool false]) (by simp [results, Tryz.results33, go_sem]) rfl ?_
                exact ⟨HF2.out, hbw⟩
            · have e9 : (v != 0) = true := by simp [hv0]
              have hd : decide (v ≠ 0) = true := by simp [hv0]
              rw [hd] at Hcell
              clear hd hv0
              have HF2 := Lib.hid (Hbad.out (by rw [Hcell.out]; rfl))
              obtain ⟨-, -, -, -, -, -, hbw⟩ := HE.out _ hb2
              refine Dr.plan_q (l := [_, _, _, _, _, _]) rfl (fun K hK => ?_)
              iterate 6 (go_big_quiet_step (fail))
              refine wpQuiet_nil (hK _ ?_); clear hK K
              refine Dr.plan_e_skip rfl (by rfl) ?_; go_frame
              refine Dr.plan_e_skip rfl (by rfl) ?_; go_frame
              refine Dr.plan_q (l := [_]) rfl (fun K hK => ?_)
              iterate 1 (go_big_quiet_step (fail))
              refine wpQuiet_nil (hK _ ?_); clear hK K
              refine Dr.plan_end rfl ?_
              go_wp2
              refine bodyPost_ret (v := .tuple #[.int .i64 0, .bool false]) (by simp [results, Tryz.results33, go_sem]) rfl ?_
              exact ⟨HF2.out, hbw⟩
          · have e8 : ((t : Int) == (s.whole : Int)) = false := by rw [int_beq]; simp [htw2]
            have hd : decide (t = s.whole) = false := by simp [htw2]
            rw [hd] at Hcell
            clear hd htw2 CAt
            refine Dr.plan_q (l := [_, _, _, _]) rfl (fun K hK => ?_)
            iterate 4 (go_big_quiet_step (fail))
            refine wpQuiet_nil (hK _ ?_); clear hK K
            refine Dr.plan_e_skip rfl (by rfl) ?_; go_frame
            have Hok2 := Lib.hid (show ay = false → _ from fun h => Hnext.out (by rw [Hcell.out, h]; rfl))
            have Hbad2 := Lib.hid (show ay = true → _ from fun h => Hbad.out (by rw [Hcell.out, h]; rfl))
            have z0 := Dr.cell0 (hX1.cell (i := 0) rfl)
            have z1 := Dr.cell0 (hX1.cell (i := 1) rfl)
            have z2 := Dr.cell0 (hX1.cell (i := 2) rfl)
            have f0 := Dr.cell0 ((HE.out U1 hb1).2.2.2.2.2.1.cell (i := 0) rfl)
            have e3 := (HE.out U1 hb1).2.2.1
            have q0 := Dr.cell0 (e3.cell (i := 0) rfl)
            have q1 := Dr.cell0 (e3.cell (i := 1) rfl)
            have q2 := Dr.cell0 (e3.cell (i := 2) rfl)
            have q3 := Dr.cell0 (e3.cell (i := 3) rfl)
            have q4 := Dr.cell0 (e3.cell (i := 4) rfl)
            have q5 := Dr.cell0 (e3.cell (i := 5) rfl)
            have q6 := Dr.cell0 (e3.cell (i := 6) rfl)
            clear e3
            refine Dr.plan_q (l := [_, _, _, _, _, _]) rfl (fun K hK => ?_)
            iterate 6 (go_big_quiet_step (fail))
            refine wpQuiet_nil (hK _ ?_); clear hK K q0 q1 q2 q3 q4 q5 q6 z0 z1 z2 f0
            refine Dr.plan_e rfl (by rfl) (fun K hK => ?_)
            go_wp2_with fail
            refine (CF.out _ hb1).mono ?_; rintro e w6 ⟨⟨vf, rfl, hvf⟩, hb6⟩
            refine hK _ _ (.of hb6) ?_; clear hK K CF
            obtain ⟨A6, c6, rfl, -, -, hc6⟩ := hvf.cells nx_len
            have CC := Lib.hid (HCo.out w6 A6 c6 (hb1.trans (hb6.mono hb1.size)) (hX1.ext hb6) hc6)
            refine Dr.plan_e rfl (by rfl) (fun K hK => ?_)
            go_wp2_with fail
            refine CC.out.mono ?_; rintro e w7 ⟨rfl, hb7⟩
            refine hK _ _ (.of hb7) ?_; clear hK K CC
            have hbe := (hb1.trans (hb6.mono hb1.size)).trans (hb7.mono (hb1.trans (hb6.mono hb1.size)).size)
            clear hb6 hb7 hc6 hvf
            refine Dr.plan_q (l := [_]) rfl (fun K hK => ?_)
            iterate 1 (go_big_quiet_step (fail))
            refine wpQuiet_nil (hK _ ?_); clear hK K
            refine Dr.plan_end rfl ?_
            cases ay
            · have HN := Lib.hid (Hok2.out rfl)
              go_wp2
              go_roundw
              case rel => exact ⟨b + 1, by go_num, by omega, HN, hbe⟩
              case measure => simp [intOf]; omega
            · have HF2 := Lib.hid (Hbad2.out rfl)
              obtain ⟨-, -, -, -, -, -, hbw⟩ := HE.out _ hbe
              go_wp2
              refine bodyPost_ret (v := .tuple #[.int .i64 0, .bool false]) (by simp [results, Tryz.results33, go_sem]) rfl ?_
              exact ⟨HF2.out, hbw⟩
    · obtain rfl : t = m := by omega
      have Hcg2 := Lib.hid (Hcg.out (fun t' h => Ht.out t' (by rw [Hmw.out]; exact h)))
      clear Hcg Hcb Ht
      have e1 := (HE.out wr hbr).1
      have e3 := (HE.out wr hbr).2.2.1
      have Hbr := Lib.hid hbr
      go_upto_region 22 with fail
      have x0 : wr.cell? ⟨w.heap.size, 0, none⟩ = _ := e3.cell (i := 0) rfl
      have x1 : wr.cell? ⟨w.heap.size, 1, none⟩ = _ := e3.cell (i := 1) rfl
      have x2 : wr.cell? ⟨w.heap.size, 2, none⟩ = _ := e3.cell (i := 2) rfl
      have x3 : wr.cell? ⟨w.heap.size, 3, none⟩ = _ := e3.cell (i := 3) rfl
      have x4 : wr.cell? ⟨w.heap.size, 4, none⟩ = _ := e3.cell (i := 4) rfl
      have x5 : wr.cell? ⟨w.heap.size, 5, none⟩ = _ := e3.cell (i := 5) rfl
      have x6 : wr.cell? ⟨w.heap.size, 6, none⟩ = _ := e3.cell (i := 6) rfl
      clear e3
      go_wp2_with fail
      refine (firsts_any s p wr e1 Hok.out).mono ?_; rintro e W5 ⟨⟨vf, rfl, hvf⟩, hb5⟩
      have hbg := hbr.trans (hb5.mono hbr.size)
      obtain ⟨A6, c6, rfl, -, -, hc6⟩ := hvf.cells encI_len
      rw [toI_len]
      clear x0 x1 x2 x3 x4 x5 x6 e1 hbr Hbr hb5 hvf
      have hfl : s.firsts.length ≤ 8 := by
        unfold Sh.firsts
        have := List.length_filter_le s.first (List.range s.acts.length)
        rw [List.length_range] at this
        omega
      have Hc6 := Lib.hid (fun W (hW : Below W5.heap.size W5 W) => hc6.ext hW)
      have hb5 := Below.refl W5.heap.size W5
      clear hc6
      go_upto_block 6 with fail
      go_wp2
      go_loopw [12, 77] (fun z t wq => ∃ k : Nat, z = .int .i64 (minL maxT ((s.firsts.take k).map fun a => s.atT T (Sh.one a))) ∧ t = .int .i64 k ∧ k ≤ s.firsts.length ∧ Below W5.heap.size W5 wq) (fun _ t _ => s.firsts.length - (intOf t).toNat)
      case atStart => exact ⟨0, rfl, rfl, by omega, hb5⟩
      case round =>
        clear hb5
        obtain ⟨k, rfl, rfl, hk, hb5⟩ := hrel
        have hbh := hbg.trans (hb5.mono hbg.size)
        by_cases hltk : k < s.firsts.length
        rotate_left
        · obtain rfl : k = s.firsts.length := by omega
          rw [List.take_length]
          have HF2 := Lib.hid (Hcg2.out (minL maxT (s.firsts.map fun a => s.atT T (Sh.one a))) HB.out.symm)
          obtain ⟨-, -, -, -, -, -, hbw⟩ := HE.out _ hbh
          generalize minL maxT (s.firsts.map fun a => s.atT T (Sh.one a)) = z at *
          go_wp2
          refine bodyPost_ret (v := .tuple #[.int .i64 z, .bool true]) (by simp [results, Tryz.results33, go_sem]) rfl ?_
          exact ⟨HF2.out, hbw⟩
        have hltk' : (k : Int) < (s.firsts.length : Int) := by omega
        have hk0 : (0 : Int) ≤ (k : Int) := by omega
        have Hst := Lib.hid (bnd_take (s := s) T hltk)
        have hfa := Sh.firsts_lt (List.getElem_mem hltk)
        obtain ⟨b0, o0, hA6, -, c0⟩ := (Hc6.out wr hb5).at1 (k := k) (by rw [toI_len]; exact hltk) rfl
        rw [toI_get hltk] at c0
        subst hA6
        generalize s.firsts[k] = a at *
        have hv1 := Hv.out (Sh.one a) (StOk.one hfa)
        have CAt := Lib.hid (fun W hW => HAt.out (Sh.one a) W (HAE.out W hW) (StOk.one hfa))
        have hpa := pow16 (show a < 16 by omega)
        unfold St.val at CAt
        have h1 : (Sh.one a).set = 2 ^ a := rfl
        have h2 : (Sh.one a).last = a := rfl
        have h3 : (Sh.one a).sec = a := rfl
        rw [h1, h2, h3] at CAt
        clear h1 h2 h3
        generalize s.atT T (Sh.one a) = v at *
        generalize minL maxT ((s.firsts.take k).map fun a => s.atT T (Sh.one a)) = bz at *
        generalize 2 ^ a = P at *
        have ha0 : (0 : Int) ≤ (a : Int) := by omega
        go_upto_region 25 with fail
        clear c0
        refine Dr.wp_region_plan 10 [] (.q [0, 1, 2, 3, 4, 5, 6] (.e1 7 (.q [8, 9] .done))) (by kernel_rfl) (by kernel_rfl) ?_
        have hb6 := hb5.drew
        clear hb5 hbh
        generalize World.drew _ = U at *
        have hbi := hbg.trans (hb6.mono hbg.size)
        have f0 := Dr.cell0 ((HE.out U hbi).2.2.2.2.2.1.cell (i := 0) rfl)
        refine Dr.plan_q (l := [_, _, _, _, _, _, _]) rfl (fun K hK => ?_)
        iterate 7 (go_big_quiet_step (fail))
        refine wpQuiet_nil (hK _ ?_); clear hK K f0
        refine Dr.plan_e rfl (by rfl) (fun K hK => ?_)
        go_wp2_with fail
        refine (CAt.out U hbi).mono ?_; rintro e U2 ⟨rfl, hb9⟩
        refine hK _ _ (.of hb9) ?_; clear hK K CAt
        refine Dr.plan_q (l := [_, _]) rfl (fun K hK => ?_)
        iterate 2 (go_big_quiet_step (fail))
        refine wpQuiet_nil (hK _ ?_); clear hK K
        refine Dr.plan_end rfl ?_
        go_wp2
        go_roundw
        case rel => exact ⟨k + 1, by rw [Hst.out], by go_num, by omega, hb6.trans (hb9.mono hb6.size)⟩
        case measure => simp [intOf]; omega
end Go.Proofs.YtcnidhcdkbfpcaaGreat

