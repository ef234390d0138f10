/- Walk: Spare. -/
import Derived.Deep.DeepCutAuto
import Derived.Test.YtopfhinnamhoiaaSpecS
namespace Go.Proofs.Ytopfhinnamhoiaa
open Go.RowKit Go.Bs Go.Yd Go.Pl Go.Sort

theorem info4 : (Try.prog.info? 4).map (fun i => (i.zero, i.size, i.bytes)) = some (some (.bool false), 1, 1) := by kernel_rfl
theorem mk134 (n : Nat) (hn : n ≤ 1000000) (w : World) :
    (Instr.makeSlice 134 (.int .i64 (n : Int)) (.int .i64 (n : Int))).run Try.prog w = .ok (.slice (some ⟨w.heap.size, 0, none⟩) n n) (w.alloc (.cells (tabB n fun _ => false).toArray 4)) := by
  obtain ⟨i0, hi, hz0, hz1, hz2⟩ := info_parts info4
  have hr := run_make (P := Try.prog) w 134 4 i0 _ Try.underlying134 hi hz0 .i64 .i64 (n : Int) (n : Int) (by omega) (by omega) (by rw [hz2]; omega) (by omega)
  rw [hr, hz1]
  simp only [Int.toNat_natCast]
  refine congrArg (fun c => Result.ok (Value.slice (some ⟨w.heap.size, 0, none⟩) n n) (w.alloc (.cells c 4))) ?_
  apply Array.ext
  · simp [size_madeCells, tabB]
  · intro j h2 h3
    simp [madeCells, Value.cells, tabB, Nat.mod_one]
theorem mk24n (n : Nat) (hn : n ≤ 1000000) (w : World) :
    (Instr.makeSlice 24 (.int .i64 (n : Int)) (.int .i64 (n : Int))).run Try.prog w = .ok (.slice (some ⟨w.heap.size, 0, none⟩) n n) (w.alloc (.cells ((tab n fun _ => 0).map (Value.int .i64)).toArray 3)) := by
  have := mk24 (n : Int) (by omega) (by omega) w
  simpa using this

structure SpI (w W : World) (g : Gd) (A : Option Addr) (n cap Bf Bd Bo : Nat) (f : Nat → Bool) : Prop where
  bl : Below w.heap.size w W
  b0 : Blk W w.heap.size 43 [.slice A n cap, .int .i64 g.limit]
  F : IArr W Bf 73 (tab (2 * n) (il (Gd.flo g) (Gd.fhi g)))
  D : IArr W Bd 73 (tab (2 * n) (il (Gd.dlo g) (Gd.dhi g)))
  O : Blk W Bo 4 (tabB n f)
  lf : w.heap.size < Bf
  ld : w.heap.size < Bd
  lo : w.heap.size < Bo
  ff : Bf < Bo
  dd : Bd < Bo
section
variable {w W W' : World} {g : Gd} {A : Option Addr} {n cap Bf Bd Bo : Nat} {f : Nat → Bool}
theorem SpI.ext (h : SpI w W g A n cap Bf Bd Bo f) (hb : Below W.heap.size W W') : SpI w W' g A n cap Bf Bd Bo f :=
  ⟨ext_trans h.bl hb, h.b0.ext hb, h.F.ext hb, h.D.ext hb, h.O.ext hb, h.lf, h.ld, h.lo, h.ff, h.dd⟩
theorem SpI.other (h : SpI w W g A n cap Bf Bd Bo f) {p : Addr} (hp : Bo < p.block) (u : Value) : SpI w (W.setCell p u) g A n cap Bf Bd Bo f := by
  have h1 := h.lf
  have h2 := h.ld
  have h3 := h.lo
  have h4 := h.ff
  have h5 := h.dd
  exact ⟨h.bl.setCell (by omega) _, h.b0.other (by omega) _, h.F.other (by omega) _, h.D.other (by omega) _, h.O.other (by omega) _, h1, h2, h3, h4, h5⟩
theorem SpI.set (h : SpI w W g A n cap Bf Bd Bo f) (i : Nat) : SpI w (W.setCell ⟨Bo, i, none⟩ (.bool true)) g A n cap Bf Bd Bo (updB f i) := by
  have h1 := h.lf
  have h2 := h.ld
  have h3 := h.lo
  have h4 := h.ff
  have h5 := h.dd
  refine ⟨h.bl.setCell (by simp; omega) _, h.b0.other (by simp; omega) _, h.F.other (by simp; omega) _, h.D.other (by simp; omega) _, ?_, h1, h2, h3, h4, h5⟩
  have := h.O.set i (.bool true)
  rwa [tabB_set] at this
theorem SpI.x0 (h : SpI w W g A n cap Bf Bd Bo f) : W.cell? ⟨w.heap.size, 0, none⟩ = some (.slice A n cap) := h.b0.cell rfl
theorem SpI.x1 (h : SpI w W g A n cap Bf Bd Bo f) : W.cell? ⟨w.heap.size, 1, none⟩ = some (.int .i64 g.limit) := h.b0.cell rfl
theorem SpI.f1 (h : SpI w W g A n cap Bf Bd Bo f) {i : Nat} (hi : i < n) : W.cell? ⟨Bf, i * 2 + 1, none⟩ = some (.int .i64 (Gd.fhi g i)) := h.F.cell (by rw [tab_get _ (by omega), il_odd])
theorem SpI.d1 (h : SpI w W g A n cap Bf Bd Bo f) {i : Nat} (hi : i < n) : W.cell? ⟨Bd, i * 2 + 1, none⟩ = some (.int .i64 (Gd.dhi g i)) := h.D.cell (by rw [tab_get _ (by omega), il_odd])
end

def SpOut (R : Int × Int) (w : World) (e : Ending) (w' : World) : Prop := e = .returned (.tuple #[.int .i64 R.1, .int .i64 R.2]) ∧ Below w.heap.size w w'

set_option maxRecDepth 100000 in
set_option maxHeartbeats 4000000 in
theorem Spare_any (g : Gd) (A : Option Addr) (n cap : Nat) (x : Int) (w : World) (hn : g.nodes.length = n) (hm : n ≤ 9223372036854775807) (hcap : n ≤ cap) (hd : GdAt w A g) :
    Calls Try.prog 24 #[.agg #[.slice A n cap, .int .i64 g.limit], .int .i64 x] w (SpOut (spareR g x) w) := by
  have hb0 := ext_alloc w (.cells #[.slice A n cap, .int .i64 g.limit] 43)
  have HV := Lib.hid (gvalid_any g A n cap _ hn hm (hd.ext hb0))
  cases hv : g.okB
  · have hR : spareR g x = (0, 1) := by unfold spareR; rw [hv]; rfl
    have HR := Lib.hid hR
    rw [hv] at HV
    clear hv hR hn hm hcap hd
    go_enter Try.func24, Try.ntmps24
    go_wp2_with fail
    refine HV.out.mono ?_; rintro e w1 ⟨rfl, hb1⟩
    go_wp2
    rw [HR.out]
    go_ret2
    exact ⟨rfl, ext_trans hb0 hb1⟩
  · have hok := (Gd.okB_iff g).1 hv
    have hlen := hok.len
    have hn30 : n ≤ 30 := by omega
    rw [hv] at HV
    by_cases hx : 0 ≤ x ∧ x ≤ (n : Int) - 1
    · have hR : spareR g x = if Gd.bad g then (0, 9) else (Gd.spare g x.toNat, 0) := by unfold spareR; rw [hv, hn, if_pos hx]; rfl
      have HR := Lib.hid hR
      have C1 := Lib.hid (within_t hx)
      obtain ⟨i0, rfl⟩ := Int.eq_ofNat_of_zero_le hx.1
      have hi0 : i0 < n := by omega
      clear hv hR hx
      go_enter Try.func24, Try.ntmps24
      go_wp2_with fail
      refine HV.out.mono ?_; rintro e w1 ⟨rfl, hb1⟩
      have hb2 := ext_trans hb0 hb1
      have hx0 : w1.cell? ⟨w.heap.size, 0, none⟩ = some (.slice A n cap) := cell_ext (by simp) hb1
      have hx1 : w1.cell? ⟨w.heap.size, 1, none⟩ = some (.int .i64 g.limit) := cell_ext (by simp) hb1
      have hB : Blk w1 w.heap.size 43 [.slice A n cap, .int .i64 g.limit] := (Blk.new w 43 [.slice A n cap, .int .i64 g.limit]).ext hb1
      have hd2 := hd.ext hb2
      clear hb0 hb1
      go_wp2_with fail
      refine (C1.out _).mono ?_; rintro e w2 ⟨rfl, rfl⟩
      go_wp2_with fail
      refine (flows_any g A n cap _ hok hn hcap (Cells.blk hd2 (fun _ => by simp [Nd.enc]) (by omega)) hd2).mono ?_
      rintro e w2 ⟨Bf, Bd, rfl, hb3, hF, hD, h1, h2, h3⟩
      have l1 := cell_lt hx0
      rw [hn] at hF hD
      have hy0 := cell_ext hx0 hb3
      have hy1 := cell_ext hx1 hb3
      have hb4 := ext_trans hb2 hb3
      have hB4 := hB.ext hb3
      have hd4 := hd.ext hb4
      have HN := Lib.hid hn
      rw [hn]
      clear hn hx0 hx1 hB hb2 hb3 hd2
      go_wp2_with fail
      refine (above_any 78 #[.agg #[.slice A n cap, .int .i64 g.limit]] (Gd.fuseOf g) (Gd.flo g) (Gd.fhi g) Bf n w2 (enters_of Try.func78 (by kernel_rfl) rfl) (by omega) hF ?_).mono ?_
      · intro w' i hi hb
        exact fuse_any g A n cap i w' (by have := HN.out; omega) HN.out (hd4.ext hb)
      rintro e w3 ⟨v, u, rfl, hv, hu, hb5⟩
      have hy2 := cell_ext hy0 hb5
      have hy3 := cell_ext hy1 hb5
      have hb6 := ext_trans hb4 hb5
      have hB6 := hB4.ext hb5
      have hF6 := hF.ext hb5
      have hD6 := hD.ext hb5
      have hd6 := hd.ext hb6
      clear hy0 hy1 hb4 hb5 hB4 hd4 hF hD
      go_wp2_with fail
      refine (above_any 79 #[.agg #[.slice A n cap, .int .i64 g.limit]] (fun _ => g.limit) (Gd.dlo g) (Gd.dhi g) Bd n w3 (enters_of Try.func79 (by kernel_rfl) rfl) (by omega) hD6 ?_).mono ?_
      · intro w' i hi hb
        exact limit_any g A n cap (i : Int) w'
      rintro e w4 ⟨v', u', rfl, hv', hu', hb7⟩
      obtain ⟨Av, cv, rfl, -⟩ := hv
      obtain ⟨Av', cv', rfl, -⟩ := hv'
      obtain ⟨Au, cu, rfl, -⟩ := hu
      obtain ⟨Au', cu', rfl, -⟩ := hu'
      have hy4 := cell_ext hy2 hb7
      have hb8 := ext_trans hb6 hb7
      have hB8 := hB6.ext hb7
      have hF8 := hF6.ext hb7
      have hD8 := hD6.ext hb7
      clear hy2 hy3 hb6 hb7 hB6 hF6 hD6 hd6
      have hbad : Gd.bad g = decide (0 < (natsI (overN (Gd.fuseOf g) (Gd.fhi g) n)).length + (natsI (overN (fun _ => g.limit) (Gd.dhi g) n)).length) := by
        unfold Gd.bad; rw [HN.out, natsI_len, natsI_len]
      have ho1 := overN_len (Gd.fuseOf g) (Gd.fhi g) n
      have ho2 := overN_len (fun _ => g.limit) (Gd.dhi g) n
      rw [← natsI_len] at ho1 ho2
      go_upto_region 8 with fail
      generalize (natsI (overN (Gd.fuseOf g) (Gd.fhi g) n)).length = n1 at *
      generalize (natsI (overN (fun _ => g.limit) (Gd.dhi g) n)).length = n2 at *
      cases hbd : Gd.bad g
      · rw [hbd] at HR hbad
        have hz : ¬ 0 < n1 + n2 := by simpa using hbad.symm
        have hz' : ((n1 : Int) + (n2 : Int)) ≤ 0 := by omega
        have Hnb := Lib.hid (Gd.not_bad hbd)
        clear hz hbad hbd
        have hm1 := mk134 n (by omega)
        go_upto_region 12 with fail
        have hS : SpI w (w4.alloc (.cells (tabB n fun _ => false).toArray 4)) g A n cap Bf Bd w4.heap.size (fun _ => false) := by
          have q1 : Bf < w4.heap.size := hF8.lt
          have q2 : Bd < w4.heap.size := hD8.lt
          exact ⟨ext_trans hb8 (ext_alloc _ _), hB8.alloc _, Blk.alloc hF8 _, Blk.alloc hD8 _, Blk.new w4 4 _, by omega, by omega, by omega, q1, q2⟩
        clear hb8 hB8 hF8 hD8 hy4 hm1
        generalize w4.alloc (.cells (tabB n fun _ => false).toArray 4) = W5 at *
        generalize w4.heap.size = Bo at *
        generalize natsI (overN (Gd.fuseOf g) (Gd.flo g) n) = j1 at *
        generalize natsI (overN (fun _ => g.limit) (Gd.dlo g) n) = j2 at *
        go_wp2
        go_loopw [12, 14] (fun v y wr => ∃ (m : Int) (i k : Nat) (f : Nat → Bool), v = .int .i64 m ∧ y = .int .i64 i ∧ i < n ∧ Hid (i ≤ k) ∧ (-1000000000000 ≤ m ∧ m ≤ 1000000000000) ∧ Hid (mst1 g m (Gd.up g k i) = mst1 g 1000000 (Gd.up g i0 i0)) ∧ Hid (∀ j, (f j || decide (j ∈ Gd.up g k i)) = decide (j ∈ Gd.up g i0 i0)) ∧ SpI w wr g A n cap Bf Bd Bo f) (fun _ y _ => (intOf y).toNat)
        case atStart => exact ⟨1000000, i0, i0, _, rfl, rfl, hi0, Lib.hid (by omega), by omega, Lib.hid rfl, Lib.hid (fun j => by simp), hS⟩
        case round =>
          clear hS
          obtain ⟨m, i, k, f, rfl, rfl, hi, Hik, hmb, Hm, Hf, hS⟩ := hrel
          by_cases hpos : 0 < i
          · have hpos' : (0 : Int) < (i : Int) := by omega
            have hin : (i : Int) < (n : Int) := by omega
            have hi00 : (0 : Int) ≤ (i : Int) := by omega
            have hup : Gd.up g k i = i :: Gd.up g (k - 1) (g.par i) := by
              obtain ⟨k', rfl⟩ : ∃ k', k = k' + 1 := ⟨k - 1, by have := Hik.out; omega⟩
              show (if i = 0 then [] else _) = _
              rw [if_neg (by omega)]; rfl
            have hpar := Gd.par_lt hok hpos (by have := HN.out; omega)
            have Hpar := Lib.hid hpar.2
            have hp1 := hpar.1
            have Hup := Lib.hid hup
            clear hpar hup hpos
            have c0 := hS.O.cell (tabB_get f hi)
            have c1 := hS.O.free i
            go_upto_region 16 with fail
            have hS2 := (hS.set i).ext (ext_drew _)
            refine Dr.wp_region_plan 12 [] (.q [0, 1, 2, 4, 5, 6, 7, 8] (.e1 3 (.q [9, 10, 11] .done))) (by kernel_rfl) (by kernel_rfl) ?_
            clear hS c0 c1
            generalize World.drew _ = W6 at *
            have q0 := Dr.cell0 hS2.x0
            have q1 := Dr.cell0 hS2.x1
            have q2 := Dr.cell0 (hS2.f1 hi)
            refine Dr.plan_q (l := [_, _, _, _, _, _, _, _]) rfl (fun K hK => ?_)
            iterate 8 (go_big_quiet_step (fail))
            refine wpQuiet_nil (hK _ ?_); clear hK K
            refine Dr.plan_e rfl (by rfl) (fun K hK => ?_)
            go_wp2_with fail
            refine (fuse_any g A n cap i W6 (by have := HN.out; omega) HN.out (hd.ext hS2.bl)).mono ?_; rintro e w7 ⟨rfl, hb9⟩
            refine hK _ _ (.of hb9) ?_; clear hK K
            have hS3 := hS2.ext hb9
            have hfb := Gd.fuseOf_bd hok (i := i) (by have := HN.out; omega)
            have hhb := Gd.fhi_bd hok i
            clear hS2 q0 q1 q2
            refine Dr.plan_q (l := [_, _, _]) rfl (fun K hK => ?_)
            iterate 3 (go_big_quiet_step (fail))
            refine wpQuiet_nil (hK _ ?_); clear hK K
            refine Dr.plan_end rfl ?_
            have x0 := hS3.x0
            obtain ⟨b, off, e, -, d0, d1, d2, d3, d4⟩ := (hd.ext hS3.bl).node (k := i) (by have := HN.out; omega)
            subst e
            rw [Hpar.out] at d0
            go_wp2
            go_roundw
            case rel => exact ⟨_, g.par i, k - 1, updB f i, rfl, rfl, by omega, Lib.hid (by have := Hik.out; omega), by split <;> omega, Lib.hid (by rw [← Hm.out, Hup.out]; rfl), Lib.hid (fun j => by
              have h := Hf.out j
              rw [Hup.out] at h
              rw [← h]
              unfold updB
              by_cases e : j = i
              · subst e; simp
              · simp [e]), hS3⟩
            case measure => simp [intOf]; omega
          · obtain rfl : i = 0 := by omega
            have hup : Gd.up g k 0 = [] := by cases k <;> simp [Gd.up]
            have hM : m = mst1 g 1000000 (Gd.up g i0 i0) := by rw [← Hm.out, hup]; rfl
            have hfx : f = fun j => decide (j ∈ Gd.up g i0 i0) := by
              funext j
              have := Hf.out j
              rw [hup] at this
              simpa using this
            have HM := Lib.hid hM
            have Hfx := Lib.hid hfx
            clear hM hfx hup Hm Hf
            have x0 := hS.x0
            have hm2 := mk24n n (by omega)
            go_upto_region 18 with fail
            have hS2 := hS.ext (ext_alloc wr (.cells ((tab n fun _ => 0).map (Value.int .i64)).toArray 3))
            have hR2 : IArr (wr.alloc (.cells ((tab n fun _ => 0).map (Value.int .i64)).toArray 3)) wr.heap.size 3 (tab n fun _ => 0) := Blk.new wr 3 ((tab n fun _ => 0).map (Value.int .i64))
            have hbo : Bo < wr.heap.size := hS.O.lt
            have hwr : w.heap.size < wr.heap.size := hS.b0.lt
            clear hS x0 hm2
            generalize wr.alloc (.cells ((tab n fun _ => 0).map (Value.int .i64)).toArray 3) = W6 at *
            generalize wr.heap.size = Br at *
            have x0 := hS2.x0
            have Hz := Lib.hid (show mst2 g f m 0 = m from rfl)
            go_wp2
            go_loopw [12, 89] (fun v y wr => ∃ (m' : Int) (k : Nat), v = .int .i64 m' ∧ y = .int .i64 k ∧ k ≤ n ∧ (-1000000000000 ≤ m' ∧ m' ≤ 1000000000000) ∧ Hid (mst2 g f m k = m') ∧ IArr wr Br 3 (tab n (Gd.rs g f k)) ∧ SpI w wr g A n cap Bf Bd Bo f) (fun _ y _ => (n - intOf y).toNat)
            case atStart => exact ⟨m, 0, rfl, rfl, by omega, hmb, Hz, hR2, hS2⟩
            case round =>
              clear hS2 hR2 x0 Hz
              obtain ⟨m', k, rfl, rfl, hk, hmb2, Hm2, hR, hS⟩ := hrel
              by_cases hlt : k < n
              · have hlt' : (k : Int) < n := by omega
                have hk0 : (0 : Int) ≤ k := by omega
                obtain ⟨b, off, e, -, c0, c1, c2, c3, c4⟩ := (hd.ext hS.bl).node (k := k) (by have := HN.out; omega)
                have m0 := cell_lt c0
                subst e
                go_upto_region 21 with fail
                have hS2 := hS.ext (ext_alloc wr (.cells #[.int .i64 (g.node k).parent, .int .i64 (g.node k).load.lo, .int .i64 (g.node k).load.hi, .int .i64 (g.node k).fuse, .int .i64 (g.node k).sag] 136))
                have hR2 := hR.ext (ext_alloc wr (.cells #[.int .i64 (g.node k).parent, .int .i64 (g.node k).load.lo, .int .i64 (g.node k).load.hi, .int .i64 (g.node k).fuse, .int .i64 (g.node k).sag] 136))
                have hnd : Blk (wr.alloc (.cells #[.int .i64 (g.node k).parent, .int .i64 (g.node k).load.lo, .int .i64 (g.node k).load.hi, .int .i64 (g.node k).fuse, .int .i64 (g.node k).sag] 136)) wr.heap.size 136 [.int .i64 (g.node k).parent, .int .i64 (g.node k).load.lo, .int .i64 (g.node k).load.hi, .int .i64 (g.node k).fuse, .int .i64 (g.node k).sag] := Blk.new wr 136 [.int .i64 (g.node k).parent, .int .i64 (g.node k).load.lo, .int .i64 (g.node k).load.hi, .int .i64 (g.node k).fuse, .int .i64 (g.node k).sag]
                have hbr : Br < wr.heap.size := Blk.lt hR
                clear hS hR c0 c1 c2 c3 c4 m0
                generalize wr.alloc (.cells #[.int .i64 (g.node k).parent, .int .i64 (g.node k).load.lo, .int .i64 (g.node k).load.hi, .int .i64 (g.node k).fuse, .int .i64 (g.node k).sag] 136) = W7 at *
                generalize wr.heap.size = Bn at *
                have hrs : Gd.rs g f (k + 1) = if 0 < k then upd (Gd.rs g f k) k (Gd.rs g f k (g.par k) + if f k then (g.node k).sag else 0) else Gd.rs g f k := rfl
                have Hrs := Lib.hid hrs
                clear hrs
                go_upto_if 95 with fail
                go_cut [95] (fun _ W => IArr W Br 3 (tab n (Gd.rs g f (k + 1))) ∧ SpI w W g (some ⟨b, off, none⟩) n cap Bf Bd Bo f)
                case first =>
                  by_cases hpos : 0 < k
                  · have hpos' : (0 : Int) < (k : Int) := by omega
                    have hpar := Gd.par_lt hok hpos (by have := HN.out; omega)
                    have Hpar := Lib.hid hpar.2
                    have hp1 := hpar.1
                    have hpn : g.par k < n := by omega
                    have hsag := ((hok.nodes k (by have := HN.out; omega)).inn hpos).2.2
                    have hrb := Gd.rs_bd hok f k (by have := HN.out; omega) (g.par k)
                    rw [if_pos hpos] at Hrs
                    clear hpar hpos
                    have d0 := hnd.cell (i := 0) rfl
                    rw [Hpar.out] at d0
                    have d1 := hR2.cell (tab_get (Gd.rs g f k) hpn)
                    have d2 := hR2.cell (tab_get (Gd.rs g f k) hlt)
                    have d3 := hR2.free k
                    have hp0 : (0 : Int) ≤ (g.par k : Int) := by omega
                    have hpn' : (g.par k : Int) < (n : Int) := by omega
                    go_upto_region 23 with fail
                    have hR3 := hR2.set k (Gd.rs g f k (g.par k))
                    rw [tab_set] at hR3
                    have hS3 := hS2.other (p := ⟨Br, k, none⟩) (by simp; omega) (.int .i64 (Gd.rs g f k (g.par k)))
                    have hnd3 := hnd.other (p := ⟨Br, k, none⟩) (by simp; omega) (.int .i64 (Gd.rs g f k (g.par k)))
                    clear hS2 hR2 hnd d0 d1 d2 d3
                    generalize W7.setCell ⟨Br, k, none⟩ (.int .i64 (Gd.rs g f k (g.par k))) = W8 at *
                    have d4 := hS3.O.cell (tabB_get f hlt)
                    cases hfk : f k
                    · rw [hfk] at d4 Hrs
                      clear hfk
                      go_wp2
                      go_meet
                      case rel => exact ⟨by rw [Hrs.out]; simpa using hR3, hS3⟩
                    · rw [hfk] at d4 Hrs
                      clear hfk
                      go_upto_region 24 with fail
                      refine Dr.wp_region_plan 8 [] (.q [0, 1, 2, 3, 4, 5, 6, 7] .done) (by kernel_rfl) (by kernel_rfl) ?_
                      have hR4 := hR3.ext (ext_drew _)
                      have hS4 := hS3.ext (ext_drew _)
                      have hnd4 := hnd3.ext (ext_drew _)
                      clear hR3 hS3 hnd3 d4
                      generalize World.drew _ = W9 at *
                      have e0 := hR4.cell (tab_get _ hlt)
                      rw [upd_self] at e0
                      have q0 := Dr.cell0 e0
                      have q1 := Dr.cell0 (hnd4.cell (i := 4) rfl)
                      refine Dr.plan_q (l := [_, _, _, _, _, _, _, _]) rfl (fun K hK => ?_)
                      iterate 8 (go_big_quiet_step (fail))
                      refine wpQuiet_nil (hK _ ?_); clear hK K
                      refine Dr.plan_done (tl := [_]) rfl ?_
                      have e1 := hR4.free k
                      go_wp2
                      have hR5 := hR4.set k (Gd.rs g f k (g.par k) + (g.node k).sag)
                      rw [tab_set, upd_upd] at hR5
                      go_meet
                      case rel => exact ⟨by rw [Hrs.out]; simpa using hR5, hS4.other (by simp; omega) _⟩
                  · have hpos' : (k : Int) ≤ 0 := by omega
                    rw [if_neg hpos] at Hrs
                    clear hpos
                    go_wp2
                    go_meet
                    case rel => exact ⟨by rw [Hrs.out]; exact hR2, hS2⟩
                case rest =>
                  obtain ⟨hR3, hS3⟩ := hcut
                  clear hR2 hS2 hnd
                  have hst : mst2 g f m (k + 1) = stp2 g (Gd.rs g f (k + 1) k) m' k := by rw [← Hm2.out]; rfl
                  have hrb := Gd.rs_bd hok f (k + 1) (by have := HN.out; omega) k
                  have d0 := hR3.cell (tab_get (Gd.rs g f (k + 1)) hlt)
                  have Hst := Lib.hid hst
                  clear hst Hrs
                  generalize hr : Gd.rs g f (k + 1) k = r at *
                  have Hr := Lib.hid hr
                  clear hr
                  by_cases hrp : 0 < r
                  · have hst2 : stp2 g r m' k = if (g.limit - Gd.dhi g k).tdiv r < m' then (g.limit - Gd.dhi g k).tdiv r else m' := by unfold stp2; rw [if_pos hrp]
                    have Hst2 := Lib.hid hst2
                    clear hst2
                    go_upto_region 26 with fail
                    refine Dr.wp_region_plan 16 [] (.q [0, 1, 2, 3, 4, 5, 6, 7, 8, 9, 10, 11, 12, 13, 14, 15] .done) (by kernel_rfl) (by kernel_rfl) ?_
                    have hR4 := hR3.ext (ext_drew _)
                    have hS4 := hS3.ext (ext_drew _)
                    clear hR3 hS3 d0
                    generalize World.drew _ = W9 at *
                    have e0 := hR4.cell (tab_get (Gd.rs g f (k + 1)) hlt)
                    rw [Hr.out] at e0
                    have q0 := Dr.cell0 e0
                    have q1 := Dr.cell0 hS4.x1
                    have q2 := Dr.cell0 (hS4.d1 hlt)
                    have hlb := hok.lim
                    have hdb := Gd.dhi_bd hok k
                    have hdl := Hnb.out.2 k (by have := HN.out; omega)
                    refine Dr.plan_q (l := [_, _, _, _, _, _, _, _, _, _, _, _, _, _, _, _]) rfl (fun K hK => ?_)
                    have hrne : r ≠ 0 := by omega
                    have hq0 : 0 ≤ (g.limit - Gd.dhi g k).tdiv r := Int.tdiv_nonneg (by omega) (by omega)
                    have hq1 : (g.limit - Gd.dhi g k).tdiv r ≤ g.limit - Gd.dhi g k := by
                      rw [Int.tdiv_eq_ediv_of_nonneg (by omega)]
                      exact Int.ediv_le_self _ (by omega)
                    iterate 16 (go_big_quiet_step (fail))
                    refine wpQuiet_nil (hK _ ?_); clear hK K
                    refine Dr.plan_end rfl ?_
                    go_wp2
                    go_roundw
                    case rel => exact ⟨_, k + 1, rfl, by go_num, by omega, by split <;> omega, Lib.hid (by rw [Hst.out, Hst2.out]), hR4, hS4⟩
                    case measure => simp [intOf]; omega
                  · have hst2 : stp2 g r m' k = m' := by unfold stp2; rw [if_neg hrp]
                    have Hst2 := Lib.hid hst2
                    have hrp' : r ≤ 0 := by omega
                    clear hst2 hrp
                    go_wp2
                    go_roundw
                    case rel => exact ⟨m', k + 1, rfl, by go_num, by omega, hmb2, Lib.hid (by rw [Hst.out, Hst2.out]), hR3, hS3⟩
                    case measure => simp [intOf]; omega
              · obtain rfl : k = n := by omega
                have hres : spareR g (i0 : Int) = (m', 0) := by
                  rw [HR.out]
                  show (Gd.spare g i0, (0 : Int)) = _
                  unfold Gd.spare
                  rw [HN.out, ← Hfx.out, ← HM.out, Hm2.out]
                have Hres := Lib.hid hres
                clear hres
                go_wp2
                rw [Hres.out]
                go_ret2
                exact ⟨rfl, hS.bl⟩
      · rw [hbd] at HR hbad
        have hz : 0 < n1 + n2 := by simpa using hbad.symm
        have hz' : 0 < ((n1 : Int) + (n2 : Int)) := by omega
        clear hz hbad hbd
        go_wp2
        rw [HR.out]
        go_ret2
        exact ⟨rfl, hb8⟩
    · have hR : spareR g x = (0, 2) := by unfold spareR; rw [hv, hn, if_neg hx]; rfl
      have HR := Lib.hid hR
      have C1 := Lib.hid (within_f hx)
      clear hv hR hx
      go_enter Try.func24, Try.ntmps24
      go_wp2_with fail
      refine HV.out.mono ?_; rintro e w1 ⟨rfl, hb1⟩
      have hb2 := ext_trans hb0 hb1
      have hx0 : w1.cell? ⟨w.heap.size, 0, none⟩ = some (.slice A n cap) := cell_ext (by simp) hb1
      go_wp2_with fail
      refine (C1.out _).mono ?_; rintro e w2 ⟨rfl, rfl⟩
      go_wp2
      rw [HR.out]
      go_ret2
      exact ⟨rfl, hb2⟩
end Go.Proofs.Ytopfhinnamhoiaa
