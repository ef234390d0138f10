/- Walks: rigging: hanger of no beams, slack. -/
import Derived.Test.YtilkoooahoecfaaGreatRmD
namespace Go.Proofs.YtilkoooahoecfaaGreat.Rg
open Go.RowKit Go.Bs Go.Pl Go.Sort Go.Rg
theorem res3 {fn : Func} {p q u : Tmp} (h : fn.results = #[.cell p 76, .cell q 78, .tmp u]) (tmps : Array Value) (w : World) (P1 Q1 : Nat) (a b : Int) (f : Nat → Int) (bv : Value)
    (hp : tmps.getD p undef = .pointer (some ⟨P1, 0, none⟩)) (hq : tmps.getD q undef = .pointer (some ⟨Q1, 0, none⟩)) (hu : tmps.getD u undef = bv) (hP : Blk w P1 76 [.int .i64 a, .int .i64 b]) (hQ : RwB w Q1 f) :
    (results fn tmps).run Tryz.prog w = .ok (.tuple #[.agg #[.int .i64 a, .int .i64 b], .agg (rwC f).toArray, bv]) w := by
  have hp' : tmps[p]?.getD undef = .pointer (some ⟨P1, 0, none⟩) := by simpa using hp
  have hq' : tmps[q]?.getD undef = .pointer (some ⟨Q1, 0, none⟩) := by simpa using hq
  have hu' : tmps[u]?.getD undef = bv := by simpa using hu
  simp [results, h, hp', hq', hu', asAddr, Sem.run_bind, Result.andThen, run_loadVar_row w P1 76 76 _ _ _ hP Tryz.underlying76 rfl (by kernel_rfl), run_loadVar_row w Q1 78 78 _ _ _ hQ u78 rfl (by simpa using hi78 f)]
theorem bel_setCells {M : List Nat} {b : Nat} (hb : b ∈ M) : ∀ (r : List Value) (i : Nat) (w : World), Dr.Bel M w (w.setCells b i r)
  | [], _, _ => Dr.Bel.refl _ _
  | v :: r, i, _ => (Dr.Bel.store (p := ⟨b, i, none⟩) hb v).trans (bel_setCells hb r (i + 1) _)
theorem blk_range {w : World} {B T : Nat} {cs : List Value} (h : Blk w B T cs) : w.rangeAt B 0 cs := fun j v hv => by
  rw [Nat.zero_add]; exact Blk.cell h hv
theorem blk_there {w : World} {B T : Nat} {cs : List Value} (h : Blk w B T cs) : w.there B 0 cs.length := fun j hj => by
  rw [Nat.zero_add, h.cell (List.getElem?_eq_getElem hj)]; exact ⟨rfl, Blk.free h j⟩
set_option maxHeartbeats 2000000 in
set_option maxRecDepth 100000 in
theorem hanger_any (F : Nat) (fv : Value) (cs : List Value) (w : World) (hF : Blk w F 99 cs) (h1 : cs[1]? = some (.slice none 0 0)) :
    Calls Tryz.prog 46 #[.pointer (some ⟨F, 0, none⟩), fv] w fun e w' => e = .returned (.tuple #[.agg #[.int .i64 0, .int .i64 0], .agg (rwC fun _ => 0).toArray, .bool false]) ∧ Below w.heap.size w w' := by
  have hP := Blk.new w 76 [.int .i64 0, .int .i64 0]
  have hx := ext_alloc w (.cells #[.int .i64 0, .int .i64 0] 76)
  have hs : (w.alloc (.cells #[.int .i64 0, .int .i64 0] 76)).heap.size = w.heap.size + 1 := by simp
  have hR := RwB.zero (w.alloc (.cells #[.int .i64 0, .int .i64 0] 76))
  have hx2 := ext_alloc (w.alloc (.cells #[.int .i64 0, .int .i64 0] 76)) (.cells #[.int .i64 0, .int .i64 0, .int .i64 0, .int .i64 0, .int .i64 0, .int .i64 0, .int .i64 0, .int .i64 0, .int .i64 0, .int .i64 0, .int .i64 0, .int .i64 0, .int .i64 0, .int .i64 0, .int .i64 0, .int .i64 0, .int .i64 0, .int .i64 0, .int .i64 0, .int .i64 0, .int .i64 0] 78)
  have hP2 := Blk.ext hP hx2
  have hF2 := (hF.ext hx).ext hx2
  rw [hs] at hR
  have hxw := ext_trans hx hx2
  clear hP hx hx2 hF hs
  go_enter Tryz.func46, Tryz.ntmps46
  go_wp2
  change Blk ((w.alloc (.cells #[.int .i64 0, .int .i64 0] 76)).alloc (.cells #[.int .i64 0, .int .i64 0, .int .i64 0, .int .i64 0, .int .i64 0, .int .i64 0, .int .i64 0, .int .i64 0, .int .i64 0, .int .i64 0, .int .i64 0, .int .i64 0, .int .i64 0, .int .i64 0, .int .i64 0, .int .i64 0, .int .i64 0, .int .i64 0, .int .i64 0, .int .i64 0, .int .i64 0] 78)) _ _ _ at hP2
  refine wp_scope_straight ?_
  generalize (w.alloc (.cells #[.int .i64 0, .int .i64 0] 76)).alloc (.cells #[.int .i64 0, .int .i64 0, .int .i64 0, .int .i64 0, .int .i64 0, .int .i64 0, .int .i64 0, .int .i64 0, .int .i64 0, .int .i64 0, .int .i64 0, .int .i64 0, .int .i64 0, .int .i64 0, .int .i64 0, .int .i64 0, .int .i64 0, .int .i64 0, .int .i64 0, .int .i64 0, .int .i64 0] 78) = W1 at *
  have c1 : W1.cell? ⟨F, 1, none⟩ = _ := hF2.cell (i := 1) h1
  generalize hXe : w.heap.size = X at *
  go_wp2
  refine wp_label ?_
  go_wp2
  go_loopw [6, 7, 8, 9, 10, 17] (fun b _ _ _ _ t wr => b = .bool false ∧ t = .int .i64 0 ∧ W1 = wr) (fun _ _ _ _ _ _ _ => 0)
  case atStart => exact ⟨rfl, rfl, rfl⟩
  case round =>
    obtain ⟨rfl, rfl, rfl⟩ := hrel
    go_upto_region 11 with fail
    clear c1 hF2
    refine Dr.wp_region_plan 6 [X, X + 1] (.q [2] (.e2 0 (.e2 1 (.e1 3 (.e1 4 (.q [5] .done))) 3 (.e1 1 (.e1 4 (.q [5] .done)))) 1 (.e1 0 (.e1 3 (.e1 4 (.q [5] .done)))))) (by kernel_rfl) (by kernel_rfl) ?_
    have hP3 := hP2.drew
    have hR3 : RwB W1.drew _ _ := Blk.drew hR
    have hx3 := hxw.drew
    clear hP2 hR hxw
    generalize World.drew W1 = V at *
    have hP4 : Blk (V.setCells X 0 [.int .i64 0, .int .i64 0]) X 76 [.int .i64 0, .int .i64 0] := Blk.setAll hP3 rfl
    have hR4 : RwB (V.setCells X 0 [.int .i64 0, .int .i64 0]) (X + 1) (fun _ => 0) := Blk.apart (by omega) _ _ hR3
    have hx4 := below_setCells (b := X) (Nat.le_refl _) [.int .i64 0, .int .i64 0] 0 hx3
    have hP5 := Blk.apart (b := X + 1) (by omega) (rwC fun _ => 0) 0 hP4
    have hR5 : RwB ((V.setCells X 0 [.int .i64 0, .int .i64 0]).setCells (X + 1) 0 (rwC fun _ => 0)) (X + 1) (fun _ => 0) := Blk.setAll hR4 (by rw [rwC_len])
    have hx5 := below_setCells (b := X + 1) (by omega) (rwC fun _ => 0) 0 hx4
    with_reducible refine Dr.plan_q (l := [_]) (by with_unfolding_all exact rfl) (fun K hK => ?_)
    iterate 1 (go_big_quiet_step (fail))
    refine wpQuiet_nil (hK _ ?_); clear hK K
    refine Dr.plan_e2 ?_ ?_
    · refine Dr.plan_e rfl (by rfl) (fun K hK => ?_)
      refine wp_load_mid 76 _ rfl X 0 rfl _ _ (blk_range hP3) Tryz.underlying76 rfl (by kernel_rfl) ?_
      refine hK _ _ (Dr.Bel.refl _ _) ?_; clear hK K
      go_frame
      refine Dr.plan_e2 ?_ ?_
      · refine Dr.plan_e rfl (by rfl) (fun K hK => ?_)
        refine wp_load_mid 78 _ rfl (X + 1) 0 rfl _ _ hR3.range u78 rfl (hi78 _) ?_
        refine hK _ _ (Dr.Bel.refl _ _) ?_; clear hK K
        go_frame
        refine Dr.plan_e rfl (by rfl) (fun K hK => ?_)
        refine wp_store_mid 76 _ _ rfl X 0 _ rfl rfl (blk_there hP3) (by kernel_rfl) (by kernel_rfl) ?_
        refine hK _ _ (bel_setCells (by simp) _ _ _) ?_; clear hK K
        go_frame
        refine Dr.plan_e rfl (by rfl) (fun K hK => ?_)
        refine wp_store_mid 78 _ _ rfl (X + 1) 0 (rwC fun _ => 0).toArray rfl rfl (by simpa [rwC_len] using hR4.there) (by simpa using hi78 _) (all_oneCell_toArray (rwC_one _)) ?_
        refine hK _ _ (bel_setCells (by simp) _ _ _) ?_; clear hK K
        go_frame
        with_reducible refine Dr.plan_q (l := [_]) (by with_unfolding_all exact rfl) (fun K hK => ?_)
        iterate 1 (go_big_quiet_step (fail))
        refine wpQuiet_nil (hK _ ?_); clear hK K
        refine Dr.plan_end rfl ?_
        go_wp2
        try rw [Exit.noGoto_ret]
        exact bodyPost_ret (res3 rfl _ _ X (X + 1) 0 0 (fun _ => 0) (.bool false) rfl rfl rfl hP5 hR5) rfl ⟨rfl, hXe ▸ hx5⟩
      · refine Dr.plan_e rfl (by rfl) (fun K hK => ?_)
        refine wp_store_mid 76 _ _ rfl X 0 _ rfl rfl (blk_there hP3) (by kernel_rfl) (by kernel_rfl) ?_
        refine hK _ _ (bel_setCells (by simp) _ _ _) ?_; clear hK K
        go_frame
        refine Dr.plan_e rfl (by rfl) (fun K hK => ?_)
        refine wp_load_mid 78 _ rfl (X + 1) 0 rfl _ _ hR4.range u78 rfl (hi78 _) ?_
        refine hK _ _ (Dr.Bel.refl _ _) ?_; clear hK K
        go_frame
        refine Dr.plan_e rfl (by rfl) (fun K hK => ?_)
        refine wp_store_mid 78 _ _ rfl (X + 1) 0 (rwC fun _ => 0).toArray rfl rfl (by simpa [rwC_len] using hR4.there) (by simpa using hi78 _) (all_oneCell_toArray (rwC_one _)) ?_
        refine hK _ _ (bel_setCells (by simp) _ _ _) ?_; clear hK K
        go_frame
        with_reducible refine Dr.plan_q (l := [_]) (by with_unfolding_all exact rfl) (fun K hK => ?_)
        iterate 1 (go_big_quiet_step (fail))
        refine wpQuiet_nil (hK _ ?_); clear hK K
        refine Dr.plan_end rfl ?_
        go_wp2
        try rw [Exit.noGoto_ret]
        exact bodyPost_ret (res3 rfl _ _ X (X + 1) 0 0 (fun _ => 0) (.bool false) rfl rfl rfl hP5 hR5) rfl ⟨rfl, hXe ▸ hx5⟩
    · refine Dr.plan_e rfl (by rfl) (fun K hK => ?_)
      refine wp_load_mid 78 _ rfl (X + 1) 0 rfl _ _ hR3.range u78 rfl (hi78 _) ?_
      refine hK _ _ (Dr.Bel.refl _ _) ?_; clear hK K
      go_frame
      refine Dr.plan_e rfl (by rfl) (fun K hK => ?_)
      refine wp_load_mid 76 _ rfl X 0 rfl _ _ (blk_range hP3) Tryz.underlying76 rfl (by kernel_rfl) ?_
      refine hK _ _ (Dr.Bel.refl _ _) ?_; clear hK K
      go_frame
      refine Dr.plan_e rfl (by rfl) (fun K hK => ?_)
      refine wp_store_mid 76 _ _ rfl X 0 _ rfl rfl (blk_there hP3) (by kernel_rfl) (by kernel_rfl) ?_
      refine hK _ _ (bel_setCells (by simp) _ _ _) ?_; clear hK K
      go_frame
      refine Dr.plan_e rfl (by rfl) (fun K hK => ?_)
      refine wp_store_mid 78 _ _ rfl (X + 1) 0 (rwC fun _ => 0).toArray rfl rfl (by simpa [rwC_len] using hR4.there) (by simpa using hi78 _) (all_oneCell_toArray (rwC_one _)) ?_
      refine hK _ _ (bel_setCells (by simp) _ _ _) ?_; clear hK K
      go_frame
      with_reducible refine Dr.plan_q (l := [_]) (by with_unfolding_all exact rfl) (fun K hK => ?_)
      iterate 1 (go_big_quiet_step (fail))
      refine wpQuiet_nil (hK _ ?_); clear hK K
      refine Dr.plan_end rfl ?_
      go_wp2
      try rw [Exit.noGoto_ret]
      exact bodyPost_ret (res3 rfl _ _ X (X + 1) 0 0 (fun _ => 0) (.bool false) rfl rfl rfl hP5 hR5) rfl ⟨rfl, hXe ▸ hx5⟩
end Go.Proofs.YtilkoooahoecfaaGreat.Rg
