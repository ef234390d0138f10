/- Walk: buy. -/
import Derived.Deep.DeepCutAuto
import Derived.Test.YtopfhinnamhoiaaRoadB
import Derived.Test.YtopfhinnamhoiaaSpecB
namespace Go.Proofs.Ytopfhinnamhoiaa
open Go.RowKit Go.Bs Go.Yd Go.Pl Go.Sort

/-- What the walk of buy keeps. -/
structure BuyI (w wr : World) (A : Option Addr) (n cap : Nat) (keep : Int) (Bb Bf Bt : Nat) (f g : Nat → Int) : Prop where
  bl : Below w.heap.size w wr
  nbf : Bb ≠ Bf
  nbt : Bb ≠ Bt
  nft : Bf ≠ Bt
  lb : w.heap.size + 1 < Bb
  lf : w.heap.size + 1 < Bf
  lt : w.heap.size + 1 < Bt
  R : Blk wr (w.heap.size + 1) 148 [.slice none 0 0, .int .i64 0, .slice none 0 0, .slice none 0 0]
  x0 : wr.cell? ⟨w.heap.size, 0, none⟩ = some (.slice A n cap)
  x1 : wr.cell? ⟨w.heap.size, 1, none⟩ = some (.int .i64 keep)
  B : Blk wr Bb 148 [.slice A n cap, .int .i64 keep, .slice (some ⟨Bf, 0, none⟩) (n + 1) (n + 1), .slice (some ⟨Bt, 0, none⟩) (n + 1) (n + 1)]
  F : IArr wr Bf 3 (tab (n + 1) f)
  G : IArr wr Bt 3 (tab (n + 1) g)
section
variable {w wr wr' : World} {A : Option Addr} {n cap : Nat} {keep : Int} {Bb Bf Bt : Nat} {f g : Nat → Int}
theorem BuyI.ext (h : BuyI w wr A n cap keep Bb Bf Bt f g) (hb : Below wr.heap.size wr wr') : BuyI w wr' A n cap keep Bb Bf Bt f g :=
  { h with bl := ext_trans h.bl hb, x0 := cell_ext h.x0 hb, x1 := cell_ext h.x1 hb, B := h.B.ext hb, R := h.R.ext hb, F := h.F.ext hb, G := h.G.ext hb }
theorem BuyI.setF (h : BuyI w wr A n cap keep Bb Bf Bt f g) (i : Nat) (v : Int) : BuyI w (wr.setCell ⟨Bf, i, none⟩ (.int .i64 v)) A n cap keep Bb Bf Bt (upd f i v) g :=
  { h with
    bl := h.bl.setCell (by have := h.lf; simp; omega) _
    x0 := (World.cell?_setCell_other wr ⟨Bf, i, none⟩ _ _ (by have := h.lf; intro e; injection e; omega)).trans h.x0
    x1 := (World.cell?_setCell_other wr ⟨Bf, i, none⟩ _ _ (by have := h.lf; intro e; injection e; omega)).trans h.x1
    R := h.R.other (by have := h.lf; simp; omega) _
    B := h.B.other h.nbf _
    F := by have := h.F.set i v; rwa [tab_set] at this
    G := h.G.other h.nft.symm _ }
theorem BuyI.setG (h : BuyI w wr A n cap keep Bb Bf Bt f g) (i : Nat) (v : Int) : BuyI w (wr.setCell ⟨Bt, i, none⟩ (.int .i64 v)) A n cap keep Bb Bf Bt f (upd g i v) :=
  { h with
    bl := h.bl.setCell (by have := h.lt; simp; omega) _
    x0 := (World.cell?_setCell_other wr ⟨Bt, i, none⟩ _ _ (by have := h.lt; intro e; injection e; omega)).trans h.x0
    x1 := (World.cell?_setCell_other wr ⟨Bt, i, none⟩ _ _ (by have := h.lt; intro e; injection e; omega)).trans h.x1
    R := h.R.other (by have := h.lt; simp; omega) _
    B := h.B.other h.nbt _
    F := h.F.other h.nft _
    G := by have := h.G.set i v; rwa [tab_set] at this }
theorem BuyI.f_at (h : BuyI w wr A n cap keep Bb Bf Bt f g) {i : Nat} (hi : i ≤ n) : wr.cell? ⟨Bf, i, none⟩ = some (.int .i64 (f i)) := h.F.cell (tab_get f (by omega))
theorem BuyI.g_at (h : BuyI w wr A n cap keep Bb Bf Bt f g) {i : Nat} (hi : i ≤ n) : wr.cell? ⟨Bt, i, none⟩ = some (.int .i64 (g i)) := h.G.cell (tab_get g (by omega))
theorem BuyI.b0 (h : BuyI w wr A n cap keep Bb Bf Bt f g) : wr.cell? ⟨Bb, 0, none⟩ = some (.slice A n cap) := h.B.cell rfl
theorem BuyI.b1 (h : BuyI w wr A n cap keep Bb Bf Bt f g) : wr.cell? ⟨Bb, 1, none⟩ = some (.int .i64 keep) := h.B.cell rfl
theorem BuyI.b2 (h : BuyI w wr A n cap keep Bb Bf Bt f g) : wr.cell? ⟨Bb, 2, none⟩ = some (.slice (some ⟨Bf, 0, none⟩) (n + 1) (n + 1)) := h.B.cell rfl
theorem BuyI.b3 (h : BuyI w wr A n cap keep Bb Bf Bt f g) : wr.cell? ⟨Bb, 3, none⟩ = some (.slice (some ⟨Bt, 0, none⟩) (n + 1) (n + 1)) := h.B.cell rfl
end

theorem BuyI.start {w W W3 : World} {A : Option Addr} {n cap : Nat} {keep : Int} {Bb Bf Bt : Nat}
    (hW : W = ((w.alloc (.cells #[.slice A n cap, .int .i64 keep] 92)).alloc (.cells #[.slice none 0 0, .int .i64 0, .slice none 0 0, .slice none 0 0] 148)).drew)
    (hb : Below W.heap.size W W3) (nbf : Bb ≠ Bf) (nbt : Bb ≠ Bt) (nft : Bf ≠ Bt) (lb : W.heap.size ≤ Bb) (lf : W.heap.size ≤ Bf) (lt : W.heap.size ≤ Bt)
    (B : Blk W3 Bb 148 [.slice A n cap, .int .i64 keep, .slice (some ⟨Bf, 0, none⟩) (n + 1) (n + 1), .slice (some ⟨Bt, 0, none⟩) (n + 1) (n + 1)])
    (F : IArr W3 Bf 3 (tab (n + 1) fun _ => 0)) (G : IArr W3 Bt 3 (tab (n + 1) fun _ => 0)) : BuyI w W3 A n cap keep Bb Bf Bt (fun _ => 0) (fun _ => 0) := by
  have h0 : W.heap.size = w.heap.size + 2 := by rw [hW]; simp
  have hw : Below w.heap.size w W := by rw [hW]; exact ((ext_alloc w _).alloc (by simp) _).drew
  have h1 : W.cell? ⟨w.heap.size, 0, none⟩ = some (.slice A n cap) := by rw [hW]; simp
  have h2 : W.cell? ⟨w.heap.size, 1, none⟩ = some (.int .i64 keep) := by rw [hW]; simp
  have h3 : Blk W (w.heap.size + 1) 148 [.slice none 0 0, .int .i64 0, .slice none 0 0, .slice none 0 0] := by
    rw [hW]
    have := (Blk.new (w.alloc (.cells #[.slice A n cap, .int .i64 keep] 92)) 148 [.slice none 0 0, .int .i64 0, .slice none 0 0, .slice none 0 0]).drew
    simpa using this
  exact { bl := ext_trans hw hb, nbf, nbt, nft, lb := by omega, lf := by omega, lt := by omega, B, F, G, x0 := cell_ext h1 hb, x1 := cell_ext h2 hb, R := h3.ext hb }

theorem BuyI.fin {w wr : World} {A : Option Addr} {n cap : Nat} {keep : Int} {Bb Bf Bt : Nat} {f g : Nat → Int} (h : BuyI w wr A n cap keep Bb Bf Bt f g) (v0 v1 v2 v3 : Value) :
    ∃ W, (((wr.setCell ⟨w.heap.size + 1, 0, none⟩ v0).setCell ⟨w.heap.size + 1, 1, none⟩ v1).setCell ⟨w.heap.size + 1, 2, none⟩ v2).setCell ⟨w.heap.size + 1, 3, none⟩ v3 = W ∧
      Below w.heap.size w W ∧ IArr W Bf 3 (tab (n + 1) f) ∧ IArr W Bt 3 (tab (n + 1) g) ∧ Blk W (w.heap.size + 1) 148 [v0, v1, v2, v3] := by
  have l1 := h.lf
  have l2 := h.lt
  refine ⟨_, rfl, (((h.bl.setCell (by simp) _).setCell (by simp) _).setCell (by simp) _).setCell (by simp) _, ?_, ?_, ?_⟩
  · exact (((h.F.other (by simp; omega) _).other (by simp; omega) _).other (by simp; omega) _).other (by simp; omega) _
  · exact (((h.G.other (by simp; omega) _).other (by simp; omega) _).other (by simp; omega) _).other (by simp; omega) _
  · exact (((h.R.set 0 v0).set 1 v1).set 2 v2).set 3 v3

theorem info3 : (Try.prog.info? 3).map (fun i => (i.zero, i.size, i.bytes)) = some (some (.int .i64 0), 1, 8) := by kernel_rfl
theorem mk24 (x : Int) (h0 : 0 ≤ x) (h1 : x ≤ 1000000000000) (w : World) :
    (Instr.makeSlice 24 (.int .i64 x) (.int .i64 x)).run Try.prog w = .ok (.slice (some ⟨w.heap.size, 0, none⟩) x.toNat x.toNat) (w.alloc (.cells ((tab x.toNat fun _ => 0).map (Value.int .i64)).toArray 3)) := by
  obtain ⟨i0, hi, hz0, hz1, hz2⟩ := info_parts info3
  exact run_mk Try.underlying24 hi hz0 hz1 hz2 x h0 h1 w

/-- What buy hands back. -/
def BuyPost (r : Rd) (A : Option Addr) (n cap : Nat) (w : World) (e : Ending) (w' : World) : Prop :=
  ∃ Bf Bt : Nat, e = .returned (.agg #[.slice A n cap, .int .i64 r.keep, .slice (some ⟨Bf, 0, none⟩) (n + 1) (n + 1), .slice (some ⟨Bt, 0, none⟩) (n + 1) (n + 1)]) ∧
    Below w.heap.size w w' ∧ IArr w' Bf 3 (tab (n + 1) r.frm) ∧ IArr w' Bt 3 (tab (n + 1) r.tbl) ∧ w.heap.size ≤ Bf ∧ w.heap.size ≤ Bt ∧ Bf ≠ Bt

set_option maxRecDepth 100000 in
set_option maxHeartbeats 4000000 in
theorem buy_any (r : Rd) (A : Option Addr) (n cap : Nat) (w : World) (hok : r.ok) (hn : r.days.length = n) (hcap : n ≤ cap) (hd : RdAt w A r) :
    Calls Try.prog 90 #[.agg #[.slice A n cap, .int .i64 r.keep]] w (BuyPost r A n cap w) := by
  have hn30 := hok.1
  obtain ⟨b, off, rfl, -, -, -, -, -⟩ := hd.day (k := 0) (by omega)
  have hmk := fun w => mk24 ((n : Int) + 1) (by omega) (by omega) w
  go_enter Try.func90, Try.ntmps90
  go_wp2
  go_cut [4] (fun t4 W => ∃ Bb Bf Bt, t4 = .pointer (some ⟨Bb, 0, none⟩) ∧ BuyI w W (some ⟨b, off, none⟩) n cap r.keep Bb Bf Bt (fun _ => 0) (fun _ => 0))
  case first =>
    refine Dr.wp_region_plan 9 [] (.q [0, 1, 2, 4, 5] (.e3 3 (.e2 6 (.q [7] (.e1 8 .done)) 8 (.e1 6 (.q [7] .done))) 6 (.e2 3 (.q [7] (.e1 8 .done)) 8 (.e1 3 (.q [7] .done))) 8 (.e2 3 (.e1 6 (.q [7] .done)) 6 (.e1 3 (.q [7] .done))))) (by kernel_rfl) (by kernel_rfl) ?_
    generalize hW : World.drew _ = W
    have q0 := Dr.cell0 (w := W) (a := ⟨w.heap.size, 0, none⟩) (v := .slice (some ⟨b, off, none⟩) n cap) (by rw [← hW]; simp)
    have q1 := Dr.cell0 (w := W) (a := ⟨w.heap.size, 1, none⟩) (v := .int .i64 r.keep) (by rw [← hW]; simp)
    have HW := Lib.hid hW
    clear hW
    refine Dr.plan_q (l := [_, _, _, _, _]) rfl (fun K hK => ?_)
    iterate 5 (go_big_quiet_step (fail))
    refine wpQuiet_nil (hK _ ?_); clear hK K
    refine Dr.plan_e3 ?_ ?_ ?_
    · refine Dr.plan_e rfl (by rfl) (fun K hK => ?_)
      go_wp2_with fail
      refine hK _ _ (.of (ext_alloc _ _)) ?_; clear hK K
      refine Dr.plan_e2 ?_ ?_
      · refine Dr.plan_e rfl (by rfl) (fun K hK => ?_)
        go_wp2_with fail
        refine hK _ _ (.of (ext_alloc _ _)) ?_; clear hK K
        refine Dr.plan_q (l := [_]) rfl (fun K hK => ?_)
        iterate 1 (go_big_quiet_step (fail))
        refine wpQuiet_nil (hK _ ?_); clear hK K
        refine Dr.plan_e rfl (by rfl) (fun K hK => ?_)
        go_wp2_with fail
        refine hK _ _ (.of (ext_alloc _ _)) ?_; clear hK K
        refine Dr.plan_done (tl := [_]) rfl ?_
        go_wp2
        go_meet
        case rel => exact ⟨W.heap.size + 1 + 1, W.heap.size, W.heap.size + 1, rfl, BuyI.start HW.out.symm (((ext_alloc W _).alloc (by simp) _).alloc (by simp; omega) _) (by omega) (by omega) (by omega) (by omega) (by omega) (by omega) (push3_2 W.heap _ _ _) (push3_0 W.heap _ _ _) (push3_1 W.heap _ _ _)⟩
      · refine Dr.plan_e rfl (by rfl) (fun K hK => ?_)
        go_wp2_with fail
        refine hK _ _ (.of (ext_alloc _ _)) ?_; clear hK K
        refine Dr.plan_e rfl (by rfl) (fun K hK => ?_)
        go_wp2_with fail
        refine hK _ _ (.of (ext_alloc _ _)) ?_; clear hK K
        refine Dr.plan_q (l := [_]) rfl (fun K hK => ?_)
        iterate 1 (go_big_quiet_step (fail))
        refine wpQuiet_nil (hK _ ?_); clear hK K
        refine Dr.plan_done (tl := [_]) rfl ?_
        go_wp2
        go_meet
        case rel => exact ⟨W.heap.size + 1, W.heap.size, W.heap.size + 1 + 1, rfl, BuyI.start HW.out.symm (((ext_alloc W _).alloc (by simp) _).alloc (by simp; omega) _) (by omega) (by omega) (by omega) (by omega) (by omega) (by omega) (push3_1 W.heap _ _ _) (push3_0 W.heap _ _ _) (push3_2 W.heap _ _ _)⟩
    · refine Dr.plan_e rfl (by rfl) (fun K hK => ?_)
      go_wp2_with fail
      refine hK _ _ (.of (ext_alloc _ _)) ?_; clear hK K
      refine Dr.plan_e2 ?_ ?_
      · refine Dr.plan_e rfl (by rfl) (fun K hK => ?_)
        go_wp2_with fail
        refine hK _ _ (.of (ext_alloc _ _)) ?_; clear hK K
        refine Dr.plan_q (l := [_]) rfl (fun K hK => ?_)
        iterate 1 (go_big_quiet_step (fail))
        refine wpQuiet_nil (hK _ ?_); clear hK K
        refine Dr.plan_e rfl (by rfl) (fun K hK => ?_)
        go_wp2_with fail
        refine hK _ _ (.of (ext_alloc _ _)) ?_; clear hK K
        refine Dr.plan_done (tl := [_]) rfl ?_
        go_wp2
        go_meet
        case rel => exact ⟨W.heap.size + 1 + 1, W.heap.size + 1, W.heap.size, rfl, BuyI.start HW.out.symm (((ext_alloc W _).alloc (by simp) _).alloc (by simp; omega) _) (by omega) (by omega) (by omega) (by omega) (by omega) (by omega) (push3_2 W.heap _ _ _) (push3_1 W.heap _ _ _) (push3_0 W.heap _ _ _)⟩
      · refine Dr.plan_e rfl (by rfl) (fun K hK => ?_)
        go_wp2_with fail
        refine hK _ _ (.of (ext_alloc _ _)) ?_; clear hK K
        refine Dr.plan_e rfl (by rfl) (fun K hK => ?_)
        go_wp2_with fail
        refine hK _ _ (.of (ext_alloc _ _)) ?_; clear hK K
        refine Dr.plan_q (l := [_]) rfl (fun K hK => ?_)
        iterate 1 (go_big_quiet_step (fail))
        refine wpQuiet_nil (hK _ ?_); clear hK K
        refine Dr.plan_done (tl := [_]) rfl ?_
        go_wp2
        go_meet
        case rel => exact ⟨W.heap.size + 1, W.heap.size + 1 + 1, W.heap.size, rfl, BuyI.start HW.out.symm (((ext_alloc W _).alloc (by simp) _).alloc (by simp; omega) _) (by omega) (by omega) (by omega) (by omega) (by omega) (by omega) (push3_1 W.heap _ _ _) (push3_2 W.heap _ _ _) (push3_0 W.heap _ _ _)⟩
    · refine Dr.plan_e rfl (by rfl) (fun K hK => ?_)
      go_wp2_with fail
      refine hK _ _ (.of (ext_alloc _ _)) ?_; clear hK K
      refine Dr.plan_e2 ?_ ?_
      · refine Dr.plan_e rfl (by rfl) (fun K hK => ?_)
        go_wp2_with fail
        refine hK _ _ (.of (ext_alloc _ _)) ?_; clear hK K
        refine Dr.plan_e rfl (by rfl) (fun K hK => ?_)
        go_wp2_with fail
        refine hK _ _ (.of (ext_alloc _ _)) ?_; clear hK K
        refine Dr.plan_q (l := [_]) rfl (fun K hK => ?_)
        iterate 1 (go_big_quiet_step (fail))
        refine wpQuiet_nil (hK _ ?_); clear hK K
        refine Dr.plan_done (tl := [_]) rfl ?_
        go_wp2
        go_meet
        case rel => exact ⟨W.heap.size, W.heap.size + 1, W.heap.size + 1 + 1, rfl, BuyI.start HW.out.symm (((ext_alloc W _).alloc (by simp) _).alloc (by simp; omega) _) (by omega) (by omega) (by omega) (by omega) (by omega) (by omega) (push3_0 W.heap _ _ _) (push3_1 W.heap _ _ _) (push3_2 W.heap _ _ _)⟩
      · refine Dr.plan_e rfl (by rfl) (fun K hK => ?_)
        go_wp2_with fail
        refine hK _ _ (.of (ext_alloc _ _)) ?_; clear hK K
        refine Dr.plan_e rfl (by rfl) (fun K hK => ?_)
        go_wp2_with fail
        refine hK _ _ (.of (ext_alloc _ _)) ?_; clear hK K
        refine Dr.plan_q (l := [_]) rfl (fun K hK => ?_)
        iterate 1 (go_big_quiet_step (fail))
        refine wpQuiet_nil (hK _ ?_); clear hK K
        refine Dr.plan_done (tl := [_]) rfl ?_
        go_wp2
        go_meet
        case rel => exact ⟨W.heap.size, W.heap.size + 1 + 1, W.heap.size + 1, rfl, BuyI.start HW.out.symm (((ext_alloc W _).alloc (by simp) _).alloc (by simp; omega) _) (by omega) (by omega) (by omega) (by omega) (by omega) (by omega) (push3_0 W.heap _ _ _) (push3_2 W.heap _ _ _) (push3_1 W.heap _ _ _)⟩
  case rest =>
    obtain ⟨Bb, Bf, Bt, rfl, hI⟩ := hcut
    clear hmk
    go_wp2
    go_loopw [5, 6] (fun x _ wr => ∃ (m : Nat) (t : Int), m ≤ n ∧ x = .int .i64 t ∧ Hid (t = n - 1 - m) ∧ BuyI w wr (some ⟨b, off, none⟩) n cap r.keep Bb Bf Bt (r.rows m).1 (r.rows m).2) (fun x _ _ => (intOf x + 1).toNat)
    case atStart => exact ⟨0, _, by omega, rfl, Lib.hid (by simp), hI⟩
    case round =>
      clear hI
      obtain ⟨m, x, hm, rfl, Hx, hI⟩ := hrel
      by_cases hlt : m < n
      · obtain ⟨t, rfl⟩ : ∃ t : Nat, x = t := ⟨n - 1 - m, by rw [Hx.out]; omega⟩
        have htm : n - 1 - m = t := by have := Hx.out; omega
        have htn : (t : Int) < n := by have := Hx.out; omega
        have ht0 : (0 : Int) ≤ t := by omega
        have ht1 : (t : Int) < (n : Int) + 1 := by omega
        have hrows := r.rows_bd hok m (by omega)
        have hrow1 : r.rows (m + 1) = (upd (r.rows m).1 t (r.fromAt t (r.rows m).1), upd (r.rows m).2 t (r.tabAt t (r.fromAt t (r.rows m).1) (r.rows m).2)) := by
          show (_, _) = _
          rw [hn, htm]
        generalize hf : (r.rows m).1 = f at *
        generalize hg : (r.rows m).2 = g at *
        have Hrow1 := Lib.hid hrow1
        have Hrows := Lib.hid hrows
        have Htm := Lib.hid htm
        clear hrow1 htm hf hg hrows
        go_wp2
        refine Dr.wp_region_plan 9 [Bf] (.q [0, 1, 2, 3, 4, 5, 6] (.e1 7 (.q [8] .done))) (by kernel_rfl) (by kernel_rfl) ?_
        generalize hW : World.drew _ = W
        have hI1 : BuyI w W (some ⟨b, off, none⟩) n cap r.keep Bb Bf Bt f g := by rw [← hW]; exact hI.ext (ext_drew _)
        clear hW hI
        have hnb : Bb ∉ [Bf] := by simp [hI1.nbf]
        have q2 := Dr.cls_cell (M := [Bf]) hI1.b2 hnb
        have q3 := Dr.cls_cell (M := [Bf]) hI1.b3 hnb
        have hl2 := hI1.lf
        refine Dr.plan_q (l := [_, _, _, _, _, _, _]) rfl (fun K hK => ?_)
        iterate 7 (go_big_quiet_step (fail))
        refine wpQuiet_nil (hK _ ?_); clear hK K
        have c1 := hI1.f_at (i := t) (by omega)
        have c2 := hI1.F.free t
        refine Dr.plan_e rfl (by rfl) (fun K hK => ?_)
        go_wp2_with fail
        have hI2 := hI1.setF t 1000000000
        refine hK _ _ (Dr.Bel.store (by simp) _) ?_; clear hK K
        clear hI1 q2 q3 c1 c2
        generalize W.setCell ⟨Bf, t, none⟩ (.int .i64 1000000000) = W2 at *
        refine Dr.plan_q (l := [_]) rfl (fun K hK => ?_)
        iterate 1 (go_big_quiet_step (fail))
        refine wpQuiet_nil (hK _ ?_); clear hK K
        refine Dr.plan_done (tl := [_]) rfl ?_
        have c1 := hI2.g_at (i := t) (by omega)
        have c2 := hI2.G.free t
        go_upto_region 7 with fail
        have hI3 := hI2.setG t 1000000000
        clear hI2 c1 c2
        generalize W2.setCell ⟨Bt, t, none⟩ (.int .i64 1000000000) = W3 at *
        obtain ⟨b', off', e', _, d0, d1, d2, d3⟩ := (hd.ext hI3.bl).day (k := t) (by omega)
        cases e'
        have x0 := hI3.x0
        have x1 := hI3.x1
        have hl3 := hI3.lb
        go_upto_if 37 with fail
        go_cut [6] (fun _ W => BuyI w W (some ⟨b, off, none⟩) n cap r.keep Bb Bf Bt (upd f t (r.fromAt t f)) (upd g t 1000000000))
        case first =>
          cases hop : (r.day t).opn
          · go_wp2
            go_meet
            case rel => rw [show r.fromAt t f = 1000000000 by unfold Rd.fromAt; rw [hop]; rfl]; exact hI3
          · have Hop := Lib.hid hop
            go_wp2
            clear hop
            go_loopw [6] (fun s wr => ∃ (s' k : Nat) (acc : Int), s = .int .i64 s' ∧ Hid (s' + k = n + 1) ∧ (s' ≤ n + 1 ∧ t + 1 ≤ s') ∧ (0 ≤ acc ∧ acc ≤ 1000000000) ∧ Hid (r.scan t f k s' acc = r.fromAt t f) ∧ BuyI w wr (some ⟨b, off, none⟩) n cap r.keep Bb Bf Bt (upd f t acc) (upd g t 1000000000)) (fun s _ => (n + 2 - (intOf s).toNat))
            case atStart => exact ⟨t + 1, n - t, 1000000000, by go_num, Lib.hid (by omega), by omega, by omega, Lib.hid (by unfold Rd.fromAt; rw [Hop.out, hn]; rfl), hI3⟩
            case round =>
              clear hI3 x0 x1 d0 d1 d2 d3
              obtain ⟨s, k, acc, rfl, Hk, hs1, hacc, Hsc, hI4⟩ := hrel
              by_cases hsn : s ≤ n
              · have hsn' : (s : Int) ≤ n := by omega
                have x0 := hI4.x0
                have x1 := hI4.x1
                have hfe := feeds_any r (some ⟨b, off, none⟩) n cap t s _ hok hn hcap (by omega) (by omega) (hd.ext hI4.bl)
                cases hq : r.feeds t s
                · rw [hq] at hfe
                  have Hfe := Lib.hid hfe
                  have Hq := Lib.hid hq
                  clear hfe hq
                  go_wp2_with fail
                  refine Hfe.out.mono ?_; rintro e w1 ⟨rfl, hb1⟩
                  go_wp2
                  go_meet
                  case rel =>
                    rw [← Hsc.out, show k = (n - s) + 1 by have := Hk.out; omega]
                    unfold Rd.scan
                    rw [Hq.out, if_neg (by simp)]
                    exact hI4.ext hb1
                · rw [hq] at hfe
                  have Hfe := Lib.hid hfe
                  have Hq := Lib.hid hq
                  clear hfe hq
                  go_wp2_with fail
                  refine Hfe.out.mono ?_; rintro e w1 ⟨rfl, hb1⟩
                  go_wp2
                  refine Dr.wp_region_plan 20 [] (.q [0, 1, 2, 3, 4, 5, 6, 7, 8, 9, 10, 12, 13, 14, 15, 16] (.e1 11 (.q [17, 18, 19] .done))) (by kernel_rfl) (by kernel_rfl) ?_
                  generalize hW : World.drew _ = W
                  have hI5 := (hI4.ext hb1).ext (ext_drew w1)
                  rw [hW] at hI5
                  clear hW hI4 x0 x1 hb1
                  have q0 := Dr.cell0 hI5.x0
                  have q1 := Dr.cell0 hI5.x1
                  have q2 := Dr.cell0 hI5.b2
                  have e1 := hI5.f_at (i := t) (by omega)
                  have e2 := hI5.f_at (i := s) (by omega)
                  rw [upd_self] at e1
                  rw [upd_ne _ _ (by omega)] at e2
                  have q3 := Dr.cell0 e1
                  have q4 := Dr.cell0 e2
                  have hs0 : (0 : Int) ≤ s := by omega
                  have hs2 : (s : Int) < (n : Int) + 1 := by omega
                  refine Dr.plan_q (l := [_, _, _, _, _, _, _, _, _, _, _, _, _, _, _, _]) rfl (fun K hK => ?_)
                  iterate 16 (go_big_quiet_step (fail))
                  refine wpQuiet_nil (hK _ ?_); clear hK K
                  refine Dr.plan_e rfl (by rfl) (fun K hK => ?_)
                  go_wp2_with fail
                  refine (price_any r (some ⟨b, off, none⟩) n cap t s _ hok hn hcap (by omega) (by omega) (hd.ext hI5.bl)).mono ?_; rintro e w2 ⟨rfl, hb2⟩
                  refine hK _ _ (.of hb2) ?_; clear hK K
                  have hp := r.price_nonneg hok (i := t) (by omega) s
                  have hfs := Hrows.out.1 s
                  have hI6 := hI5.ext hb2
                  clear hI5 q0 q1 q2 q3 q4 e1 e2
                  refine Dr.plan_q (l := [_, _, _]) rfl (fun K hK => ?_)
                  iterate 3 (go_big_quiet_step (fail))
                  refine wpQuiet_nil (hK _ ?_); clear hK K
                  refine Dr.plan_done (tl := [_]) rfl ?_
                  have e1 := hI6.f_at (i := t) (by omega)
                  have e2 := hI6.F.free t
                  go_upto_region 10 with fail
                  have hI7 := hI6.setF t (if r.price t s + f s < acc then r.price t s + f s else acc)
                  rw [upd_upd] at hI7
                  clear hI6 e1 e2
                  generalize w2.setCell ⟨Bf, t, none⟩ (.int .i64 (if r.price t s + f s < acc then r.price t s + f s else acc)) = W4 at *
                  rw [show (if r.price t s + f s < acc then r.price t s + f s else acc) = min acc (r.price t s + f s) by split <;> omega] at hI7
                  go_wp2
                  go_roundw
                  case rel => exact ⟨s + 1, k - 1, min acc (r.price t s + f s), by go_num, Lib.hid (by have := Hk.out; omega), by omega, by omega, Lib.hid (by
                    rw [← Hsc.out, show k = (k - 1) + 1 by have := Hk.out; omega]
                    conv => rhs; unfold Rd.scan
                    rw [Hq.out, if_pos rfl]
                    rfl), hI7⟩
                  case measure => simp [intOf]; omega
              · go_wp2
                go_meet
                case rel =>
                  rw [← Hsc.out, show k = 0 by have := Hk.out; omega]
                  exact hI4
        case rest =>
          clear hI3 x0 x1 d0 d1 d2 d3
          have hI8 := hcut
          clear hcut
          go_wp2
          refine Dr.wp_region_plan 9 [] (.q [0, 1, 2, 3, 4, 5, 6, 7, 8] .done) (by kernel_rfl) (by kernel_rfl) ?_
          generalize hW : World.drew _ = W
          have hI9 := hI8.ext (ext_drew _)
          rw [hW] at hI9
          clear hW hI8
          have q2 := Dr.cell0 hI9.b2
          have q3 := Dr.cell0 hI9.b3
          have e1 := hI9.f_at (i := t) (by omega)
          rw [upd_self] at e1
          have q4 := Dr.cell0 e1
          refine Dr.plan_q (l := [_, _, _, _, _, _, _, _, _]) rfl (fun K hK => ?_)
          iterate 9 (go_big_quiet_step (fail))
          refine wpQuiet_nil (hK _ ?_); clear hK K
          refine Dr.plan_done (tl := [_]) rfl ?_
          have e2 := hI9.g_at (i := t) (by omega)
          have e3 := hI9.G.free t
          go_upto_region 13 with fail
          have hI10 := hI9.setG t (r.fromAt t f)
          rw [upd_upd] at hI10
          clear hI9 e1 e2 e3 q2 q3 q4
          generalize W.setCell ⟨Bt, t, none⟩ (.int .i64 (r.fromAt t f)) = W5 at *
          obtain ⟨b', off', e', _, d0, d1, d2, d3⟩ := (hd.ext hI10.bl).day (k := t) (by omega)
          cases e'
          have x0 := hI10.x0
          have x1 := hI10.x1
          · by_cases hz : (r.day t).need = 0
            · have hz' : ((r.day t).need == 0) = true := by rw [hz]; rfl
              have ht : r.tabAt t (r.fromAt t f) g = min (r.fromAt t f) (g (t + 1)) := by unfold Rd.tabAt; rw [if_pos hz]
              have Ht := Lib.hid ht
              clear hz ht
              go_wp2
              refine Dr.wp_region_plan 16 [] (.q [0, 1, 2, 3, 4, 5, 6, 7, 8, 9, 10, 11, 12, 13, 14, 15] .done) (by kernel_rfl) (by kernel_rfl) ?_
              generalize hW : World.drew _ = W
              have hI11 := hI10.ext (ext_drew _)
              rw [hW] at hI11
              clear hW hI10 x0 x1 d0 d1 d2 d3
              have q3 := Dr.cell0 hI11.b3
              have e1 := hI11.g_at (i := t) (by omega)
              have e4 := hI11.g_at (i := t + 1) (by omega)
              rw [upd_self] at e1
              rw [upd_ne _ _ (by omega)] at e4
              have q4 := Dr.cell0 e1
              have q5 := Dr.cell0 e4
              have hs0 : (0 : Int) ≤ (t : Int) + 1 := by omega
              have hs2 : (t : Int) + 1 < (n : Int) + 1 := by omega
              have hfr := r.fromAt_bd hok (t := t) (by omega) Hrows.out.1
              refine Dr.plan_q (l := [_, _, _, _, _, _, _, _, _, _, _, _, _, _, _, _]) rfl (fun K hK => ?_)
              iterate 16 (go_big_quiet_step (fail))
              refine wpQuiet_nil (hK _ ?_); clear hK K
              refine Dr.plan_done (tl := [_]) rfl ?_
              have e3 := hI11.G.free t
              clear q3 q4 q5 e4
              go_wp2
              have hI13 := hI11.setG t (if g (t + 1) < r.fromAt t f then g (t + 1) else r.fromAt t f)
              rw [upd_upd] at hI13
              generalize W.setCell ⟨Bt, t, none⟩ (.int .i64 (if g (t + 1) < r.fromAt t f then g (t + 1) else r.fromAt t f)) = W6 at *
              rw [show (if g (t + 1) < r.fromAt t f then g (t + 1) else r.fromAt t f) = r.tabAt t (r.fromAt t f) g by rw [Ht.out]; split <;> omega] at hI13
              go_roundw
              case measure => simp [intOf]
              case rel => exact ⟨m + 1, _, by omega, rfl, Lib.hid (by rw [Hx.out]; omega), by rw [Hrow1.out]; exact hI13⟩
            · have hz' : ((r.day t).need == 0) = false := by simpa using hz
              have ht : r.tabAt t (r.fromAt t f) g = r.fromAt t f := by unfold Rd.tabAt; rw [if_neg hz]
              have Ht := Lib.hid ht
              clear hz ht
              go_wp2
              go_roundw
              case measure => simp [intOf]
              case rel => exact ⟨m + 1, _, by omega, rfl, Lib.hid (by rw [Hx.out]; omega), by rw [Hrow1.out, Ht.out]; exact hI10⟩
      · obtain rfl : m = n := by omega
        have hx : x = -1 := by rw [Hx.out]; omega
        subst hx
        clear Hx
        have e0 := hI.b0
        have e1 := hI.b1
        have e2 := hI.b2
        have e3 := hI.b3
        have r0 : wr.cell? ⟨w.heap.size + 1, 0, none⟩ = some (.slice none 0 0) := hI.R.cell rfl
        have r1 : wr.cell? ⟨w.heap.size + 1, 1, none⟩ = some (.int .i64 0) := hI.R.cell rfl
        have r2 : wr.cell? ⟨w.heap.size + 1, 2, none⟩ = some (.slice none 0 0) := hI.R.cell rfl
        have r3 : wr.cell? ⟨w.heap.size + 1, 3, none⟩ = some (.slice none 0 0) := hI.R.cell rfl
        have z0 := hI.R.free 0
        have z1 := hI.R.free 1
        have z2 := hI.R.free 2
        have z3 := hI.R.free 3
        go_wp2
        obtain ⟨W, hW, hb, hF, hG, hR⟩ := hI.fin (.slice (some ⟨b, off, none⟩) m cap) (.int .i64 r.keep) (.slice (some ⟨Bf, 0, none⟩) (m + 1) (m + 1)) (.slice (some ⟨Bt, 0, none⟩) (m + 1) (m + 1))
        rw [hW]
        have s0 : W.cell? ⟨w.heap.size + 1, 0, none⟩ = _ := hR.cell rfl
        have s1 : W.cell? ⟨w.heap.size + 1, 1, none⟩ = _ := hR.cell rfl
        have s2 : W.cell? ⟨w.heap.size + 1, 2, none⟩ = _ := hR.cell rfl
        have s3 : W.cell? ⟨w.heap.size + 1, 3, none⟩ = _ := hR.cell rfl
        have hlf := hI.lf
        have hlt' := hI.lt
        have hft := hI.nft
        have hfr : (r.rows m).1 = r.frm := by unfold Rd.frm; rw [hn]
        have htb : (r.rows m).2 = r.tbl := by unfold Rd.tbl; rw [hn]
        rw [hfr] at hF
        rw [htb] at hG
        clear hW hI e0 e1 e2 e3 r0 r1 r2 r3 z0 z1 z2 z3
        refine bodyPost_ret (v := .agg #[.slice (some ⟨b, off, none⟩) m cap, .int .i64 r.keep, .slice (some ⟨Bf, 0, none⟩) (m + 1) (m + 1), .slice (some ⟨Bt, 0, none⟩) (m + 1) (m + 1)]) (by simp [results, Try.results90, go_sem, s0, s1, s2, s3]) rfl ?_
        exact ⟨Bf, Bt, rfl, hb, hF, hG, by omega, by omega, hft⟩
end Go.Proofs.Ytopfhinnamhoiaa
