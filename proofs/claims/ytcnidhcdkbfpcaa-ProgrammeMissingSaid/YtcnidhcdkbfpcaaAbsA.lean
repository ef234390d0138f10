/- Walk: ref.Missing (what becomes of an evening without a person, by the reference). -/
import Derived.Test.YtcnidhcdkbfpcaaAbsP
import Derived.Test.YtcnidhcdkbfpcaaPrlW
import Derived.Test.YtcnidhcdkbfpcaaPrlF
namespace Go.Proofs.Ytcnidhcdkbfpcaa
open Go.RowKit Go.Bs Go.Pg Go.Pl Go.Sort
/-- what ref.Missing returns -/
def MisR (bs : Nat) (s : Sh) (pn : Nat) (e : Ending) (W : World) : Prop := ∃ v, e = .returned (.agg #[v, .int .i64 (s.misE pn), .bool (s.misD pn)]) ∧ OwnL W bs 3 1 encI v (toI (s.misL pn))
/-- numbers lie in no box of an absence -/
theorem cells_off {W : World} {N U : Nat} {va : Value} {d : Bool} {A : Option Addr} {l : List Nat} (h : Cells W A 1 encI (toI l)) (hN : Blk W N U [va, .int .i64 (-1), .bool d]) (hva : ∀ x : Int, va ≠ .int .i64 x) {W' : World} (hb : Dr.Bel [N] W W') : Cells W' A 1 encI (toI l) := by
  intro i x hx
  obtain ⟨b, off, hA, hc⟩ := h i x hx
  refine ⟨b, off, hA, fun j u hj => ?_⟩
  have c0 := hc j u hj
  obtain ⟨n, rfl⟩ : ∃ n : Nat, x = n := by
    unfold toI at hx
    rw [List.getElem?_map] at hx
    obtain ⟨n, -, rfl⟩ := Option.map_eq_some_iff.1 hx
    exact ⟨n, rfl⟩
  have hu : u = .int .i64 (n : Int) := by
    rcases j with _ | j
    · simpa [encI] using hj.symm
    · simp [encI] at hj
  subst hu
  have hlt : b < W.heap.size := by
    unfold World.cell? at c0
    rcases Nat.lt_or_ge b W.heap.size with h1 | h1
    · exact h1
    · simp [h1] at c0
  have hne : b ≠ N := by
    rintro rfl
    generalize off + (i * 1 + j) = k at c0
    rcases k with _ | _ | _ | k
    · rw [hN.cell (i := 0) rfl] at c0; injection c0 with c0; exact hva _ c0
    · rw [hN.cell (i := 1) rfl] at c0; injection c0 with c0; injection c0 with _ c0; omega
    · rw [hN.cell (i := 2) rfl] at c0; injection c0 with c0; cases c0
    · unfold World.cell? at c0
      unfold Blk at hN
      rw [hN] at c0
      simp at c0
  rw [← c0]
  unfold World.cell?
  rw [hb.block b hlt (by simpa using hne)]
set_option maxRecDepth 100000 in
set_option maxHeartbeats 10000000 in
theorem RMissing_any (s : Sh) (p : ShP) (pn : Nat) (w : World) (h : ShM w s p) (hok : s.Ok) (hp : pn < s.rest.length) :
    Calls Try.prog 42 #[shV s p, .int .i64 pn] w fun e w' => MisR w.heap.size s pn e w' ∧ Below w.heap.size w w' := by
  have hb0 : Below w.heap.size w ((w.alloc (.cells (shC s p).toArray 26)).alloc (.cells #[.slice none 0 0, .int .i64 0, .bool false] 78)) := ((Below.refl _ _).alloc (Nat.le_refl _) _).alloc (by simp) _
  have hS : Blk ((w.alloc (.cells (shC s p).toArray 26)).alloc (.cells #[.slice none 0 0, .int .i64 0, .bool false] 78)) w.heap.size 26 (shC s p) := (Blk.new w 26 (shC s p)).alloc _
  have hR : Blk ((w.alloc (.cells (shC s p).toArray 26)).alloc (.cells #[.slice none 0 0, .int .i64 0, .bool false] 78)) (w.heap.size + 1) 78 [.slice none 0 0, .int .i64 0, .bool false] := by
    have := Blk.new (w.alloc (.cells (shC s p).toArray 26)) 78 [.slice none 0 0, .int .i64 0, .bool false]
    simpa using this
  have HX := Lib.hid (fun i (h1 : s.excep pn = some i) => show ∀ W, MisR w.heap.size s pn (.returned (.agg #[.slice none 0 0, .int .i64 (i : Int), .bool false])) W from fun W => ⟨.slice none 0 0, by unfold Sh.misE Sh.misD; rw [h1], by unfold Sh.misL; rw [h1]; exact OwnL.nil⟩)
  have HY := Lib.hid (fun (h1 : s.excep pn = none) mq (hm : s.misQ pn = mq) v W (h3 : OwnL W w.heap.size 3 1 encI v (toI (s.old pn (mq.getD [])))) => show MisR w.heap.size s pn (.returned (.agg #[v, .int .i64 (-1), .bool mq.isNone])) W from ⟨v, by unfold Sh.misE Sh.misD; rw [h1, hm], by unfold Sh.misL; rw [h1, hm]; exact h3⟩)
  have CW := Lib.hid (RWithout_any s p pn _ (h.ext hb0) hok hp)
  have Hok := Lib.hid hok
  have Hq := Lib.hid (fun q hq => Sh.misQ_bd (s := s) (p := pn) hok (q := q) hq)
  have hkl := Sh.keptTo_le (s := s) (p := pn) s.acts.length
  have hn8 := hok.n8
  clear h hok hp
  unfold shV at *
  unfold shC at *
  go_enter Try.func42, Try.ntmps42
  go_upto_region 1 with fail
  change Below w.heap.size w ((w.alloc (.cells #[.slice p.A s.acts.length p.cA, .slice p.R s.rest.length p.cR, .slice p.I s.ins.length p.cI, .slice p.O s.outs.length p.cO, .int .i64 s.cover, .int .i64 s.dull, .slice p.B s.before.length p.cB] 26)).alloc (.cells #[.slice none 0 0, .int .i64 0, .bool false] 78)) at hb0
  change Blk ((w.alloc (.cells #[.slice p.A s.acts.length p.cA, .slice p.R s.rest.length p.cR, .slice p.I s.ins.length p.cI, .slice p.O s.outs.length p.cO, .int .i64 s.cover, .int .i64 s.dull, .slice p.B s.before.length p.cB] 26)).alloc (.cells #[.slice none 0 0, .int .i64 0, .bool false] 78)) _ _ _ at hS
  change Blk ((w.alloc (.cells #[.slice p.A s.acts.length p.cA, .slice p.R s.rest.length p.cR, .slice p.I s.ins.length p.cI, .slice p.O s.outs.length p.cO, .int .i64 s.cover, .int .i64 s.dull, .slice p.B s.before.length p.cB] 26)).alloc (.cells #[.slice none 0 0, .int .i64 0, .bool false] 78)) _ _ _ at hR
  change Hid (Calls _ _ _ ((w.alloc (.cells #[.slice p.A s.acts.length p.cA, .slice p.R s.rest.length p.cR, .slice p.I s.ins.length p.cI, .slice p.O s.outs.length p.cO, .int .i64 s.cover, .int .i64 s.dull, .slice p.B s.before.length p.cB] 26)).alloc (.cells #[.slice none 0 0, .int .i64 0, .bool false] 78)) _) at CW
  generalize ((w.alloc (.cells #[.slice p.A s.acts.length p.cA, .slice p.R s.rest.length p.cR, .slice p.I s.ins.length p.cI, .slice p.O s.outs.length p.cO, .int .i64 s.cover, .int .i64 s.dull, .slice p.B s.before.length p.cB] 26)).alloc (.cells #[.slice none 0 0, .int .i64 0, .bool false] 78)) = W0 at *
  have hz0 := hb0.size
  have x0 : W0.cell? ⟨w.heap.size, 0, none⟩ = _ := hS.cell (i := 0) rfl
  have x1 : W0.cell? ⟨w.heap.size, 1, none⟩ = _ := hS.cell (i := 1) rfl
  have x2 : W0.cell? ⟨w.heap.size, 2, none⟩ = _ := hS.cell (i := 2) rfl
  have x3 : W0.cell? ⟨w.heap.size, 3, none⟩ = _ := hS.cell (i := 3) rfl
  have x4 : W0.cell? ⟨w.heap.size, 4, none⟩ = _ := hS.cell (i := 4) rfl
  have x5 : W0.cell? ⟨w.heap.size, 5, none⟩ = _ := hS.cell (i := 5) rfl
  have x6 : W0.cell? ⟨w.heap.size, 6, none⟩ = _ := hS.cell (i := 6) rfl
  go_wp2_with fail
  refine CW.out.mono ?_; rintro e W1 ⟨hW, hb1⟩
  clear x0 x1 x2 x3 x4 x5 x6
  have hR1 := hR.ext hb1
  have hbw := ext_trans hb0 hb1
  clear CW hS hR hb0 hb1
  unfold RwoR at hW
  rcases hW with ⟨i, hex, rfl⟩ | ⟨hex, q, vk, rfl, hq, hk⟩
  · have HR := Lib.hid (HX.out i hex)
    have hi0 : (i : Int) ≥ 0 := by omega
    clear HX HY hex Hok Hq
    go_upto_region 2 with fail
    have hAl := ext_alloc W1 (.cells #[.slice none 0 0, .slice none 0 0, .slice none 0 0, .slice none 0 0, .int .i64 0, .int .i64 0, .slice none 0 0] 26)
    have hR2 := hR1.ext hAl
    have hbw2 := ext_trans hbw hAl
    clear hR1 hbw hAl
    generalize W1.alloc (.cells #[.slice none 0 0, .slice none 0 0, .slice none 0 0, .slice none 0 0, .int .i64 0, .int .i64 0, .slice none 0 0] 26) = W2 at *
    have y0 : W2.cell? ⟨w.heap.size + 1, 0, none⟩ = some _ := hR2.cell (i := 0) rfl
    have f0 := hR2.free 0
    have y1 : W2.cell? ⟨w.heap.size + 1, 1, none⟩ = some _ := hR2.cell (i := 1) rfl
    have f1 := hR2.free 1
    have y2 : W2.cell? ⟨w.heap.size + 1, 2, none⟩ = some _ := hR2.cell (i := 2) rfl
    have f2 := hR2.free 2
    have HR3 := Lib.hid (((hR2.set 0 (.slice none 0 0)).set 1 (.int .i64 (i : Int))).set 2 (.bool false))
    have Hbz := Lib.hid (((hbw2.setCell (p := ⟨w.heap.size + 1, 0, none⟩) (by simp) (.slice none 0 0)).setCell (p := ⟨w.heap.size + 1, 1, none⟩) (by simp) (.int .i64 (i : Int))).setCell (p := ⟨w.heap.size + 1, 2, none⟩) (by simp) (.bool false))
    clear hR2 hbw2 hz0
    go_wp2
    have z0 := HR3.out.cell (i := 0) rfl
    have z1 := HR3.out.cell (i := 1) rfl
    have z2 := HR3.out.cell (i := 2) rfl
    refine bodyPost_ret (v := .agg #[.slice none 0 0, .int .i64 (i : Int), .bool false]) (by simp [results, Try.results42, go_sem, z0, z1, z2]) rfl ?_
    exact ⟨HR.out _, Hbz.out⟩
  · have Hlk := Lib.hid (fun hk0 => Sh.ok_lessW (p := pn) Hok.out hk0)
    have Hm0 := Lib.hid (show s.keptTo pn s.acts.length = [] → s.misQ pn = none from fun h => by unfold Sh.misQ; rw [if_pos h])
    have Hm1 := Lib.hid (show s.keptTo pn s.acts.length ≠ [] → s.misQ pn = (s.lessW pn).solve from fun h => by unfold Sh.misQ; rw [if_neg h])
    have Hold := Lib.hid (show ∀ qs, s.old pn qs = qs.map fun k => (s.keptTo pn s.acts.length).getD k 0 from fun _ => rfl)
    generalize hsl : s.lessW pn = sl at *
    generalize hkt : s.keptTo pn s.acts.length = kt at *
    clear hsl hkt HX Hok
    obtain ⟨Ak, ck, rfl, -, -, -⟩ := hk.cells encI_len
    rw [toI_len] at hk
    rw [toI_len]
    unfold shV
    go_upto_region 2 with fail
    have hX : Blk (W1.alloc (.cells #[.slice q.A sl.acts.length q.cA, .slice q.R sl.rest.length q.cR, .slice q.I sl.ins.length q.cI, .slice q.O sl.outs.length q.cO, .int .i64 sl.cover, .int .i64 sl.dull, .slice q.B sl.before.length q.cB] 26)) W1.heap.size 26 (shC sl q) := Blk.new W1 26 (shC sl q)
    have hAl := ext_alloc W1 (.cells #[.slice q.A sl.acts.length q.cA, .slice q.R sl.rest.length q.cR, .slice q.I sl.ins.length q.cI, .slice q.O sl.outs.length q.cO, .int .i64 sl.cover, .int .i64 sl.dull, .slice q.B sl.before.length q.cB] 26)
    have hR2 := hR1.ext hAl
    have hbw2 := ext_trans hbw hAl
    have hq2 := hq.ext hAl
    have hk2 := hk.ext hAl
    unfold shC at hX
    clear hR1 hbw hAl hq hk
    generalize W1.heap.size = X at *
    generalize W1.alloc (.cells #[.slice q.A sl.acts.length q.cA, .slice q.R sl.rest.length q.cR, .slice q.I sl.ins.length q.cI, .slice q.O sl.outs.length q.cO, .int .i64 sl.cover, .int .i64 sl.dull, .slice q.B sl.before.length q.cB] 26) = W2 at *
    go_upto_region 5 with fail
    have hN : Blk (W2.alloc (.cells #[.slice none 0 0, .int .i64 (-1), .bool true] 78)) W2.heap.size 78 [.slice none 0 0, .int .i64 (-1), .bool true] := Blk.new W2 78 _
    have hAl := ext_alloc W2 (.cells #[.slice none 0 0, .int .i64 (-1), .bool true] 78)
    have hRN := hR2.lt
    have hR3 := hR2.ext hAl
    have hX3 := hX.ext hAl
    have hbw3 := ext_trans hbw2 hAl
    have hq3 := hq2.ext hAl
    have hk3 := hk2.ext hAl
    have hNw := hbw2.size
    clear hR2 hX hbw2 hAl hq2 hk2
    generalize W2.heap.size = N at *
    generalize W2.alloc (.cells #[.slice none 0 0, .int .i64 (-1), .bool true] 78) = W3 at *
    by_cases hk0 : kt = []
    · have hmq := Hm0.out hk0
      have hkl0 : ((kt.length : Nat) : Int) = 0 := by rw [hk0]; rfl
      have hown : OwnL W3 W3.heap.size 3 1 encI (.slice none 0 0) (toI (s.old pn ((none : Option (List Nat)).getD []))) := OwnL.nil
      have hsw := hbw3.size
      have hN5 := hN
      have hR5 := hR3
      have hb5 := hbw3
      have ho5 := hown
      have hR6 := hR5.set 0 (.slice none 0 0)
      have hR7 := hR6.set 1 (.int .i64 (-1))
      have HR8 := Lib.hid (hR7.set 2 (.bool true))
      have Hb8 := Lib.hid (((hb5.setCell (p := ⟨w.heap.size + 1, 0, none⟩) (by simp) (.slice none 0 0)).setCell (p := ⟨w.heap.size + 1, 1, none⟩) (by simp) (.int .i64 (-1))).setCell (p := ⟨w.heap.size + 1, 2, none⟩) (by simp) (.bool true))
      have Ho8 := Lib.hid (HY.out hex none hmq _ _ (OwnL.up (OwnL.othr (OwnL.othr (OwnL.othr ho5 hR5 (by decide) 0 (.slice none 0 0)) hR6 (by decide) 1 (.int .i64 (-1))) hR7 (by decide) 2 (.bool true)) (by omega)))
      have nc0 : W3.cell? ⟨N, 0, none⟩ = some _ := hN.cell (i := 0) rfl
      have nc1 : W3.cell? ⟨N, 1, none⟩ = some _ := hN.cell (i := 1) rfl
      have nc2 : W3.cell? ⟨N, 2, none⟩ = some _ := hN.cell (i := 2) rfl
      have y0 : W3.cell? ⟨w.heap.size + 1, 0, none⟩ = some _ := hR3.cell (i := 0) rfl
      have f0 := hR3.free 0
      have y1 : W3.cell? ⟨w.heap.size + 1, 1, none⟩ = some _ := hR3.cell (i := 1) rfl
      have f1 := hR3.free 1
      have y2 : W3.cell? ⟨w.heap.size + 1, 2, none⟩ = some _ := hR3.cell (i := 2) rfl
      have f2 := hR3.free 2
      clear hN5 hR5 hb5 ho5 hR6 hR7 hN hR3 hbw3 hown hX3 hq3 hk3 hmq hk0 Hm0 Hm1 Hold Hlk HY hex
      go_wp2
      have z0 := HR8.out.cell (i := 0) rfl
      have z1 := HR8.out.cell (i := 1) rfl
      have z2 := HR8.out.cell (i := 2) rfl
      refine bodyPost_ret (v := .agg #[.slice none 0 0, .int .i64 (-1), .bool true]) (by simp [results, Try.results42, go_sem, z0, z1, z2]) rfl ?_
      exact ⟨Ho8.out, Hb8.out⟩
    have hkp : 0 < kt.length := List.length_pos_iff.2 hk0
    have hkp' : ¬ ((kt.length : Nat) : Int) = 0 := by omega
    have CB := Lib.hid (RBest_any sl q W3 hq3 (Hlk.out hk0))
    have hmq := Hm1.out hk0
    have hq0 : ∀ qs, sl.solve = some qs → qs.length = kt.length ∧ ∀ x ∈ qs, x < kt.length := fun qs h => Hq.out qs (hmq.trans h)
    have Hq0 := Lib.hid hq0
    have Hmq := Lib.hid hmq
    clear hmq hq0 Hq Hm0 Hm1 Hlk hk0 hq3
    generalize sl.solve = o at *
    obtain ⟨gk, hkg⟩ : ∃ gk, Ak = some ⟨gk, 0, none⟩ := by
      obtain ⟨g, cap, hv, -⟩ := hk3.blk encI_len (by rw [toI_len]; exact hkp)
      injection hv with e1 _ _
      exact ⟨g, e1⟩
    subst hkg
    have x0 : W3.cell? ⟨X, 0, none⟩ = some _ := hX3.cell (i := 0) rfl
    have x1 : W3.cell? ⟨X, 1, none⟩ = some _ := hX3.cell (i := 1) rfl
    have x2 : W3.cell? ⟨X, 2, none⟩ = some _ := hX3.cell (i := 2) rfl
    have x3 : W3.cell? ⟨X, 3, none⟩ = some _ := hX3.cell (i := 3) rfl
    have x4 : W3.cell? ⟨X, 4, none⟩ = some _ := hX3.cell (i := 4) rfl
    have x5 : W3.cell? ⟨X, 5, none⟩ = some _ := hX3.cell (i := 5) rfl
    have x6 : W3.cell? ⟨X, 6, none⟩ = some _ := hX3.cell (i := 6) rfl
    go_wp2_with fail
    refine CB.out.mono ?_; rintro e W4 ⟨⟨v', rfl, hO⟩, hb4⟩
    clear x0 x1 x2 x3 x4 x5 x6 CB
    have hN4 := hN.ext hb4
    have hR4 := hR3.ext hb4
    have hbw4 := ext_trans hbw3 hb4
    have hk4 := hk3.ext hb4
    have hN4lt := hN4.lt
    have hsw := hbw4.size
    clear hN hR3 hbw3 hk3 hX3 hb4 hkp'
    cases o with
    | none =>
      obtain rfl : v' = .slice none 0 0 := hO
      clear Hq0 hk4
      go_upto_block 0 with fail
      go_wp2
      go_loopw [10] (fun t wr => t = .int .i64 0 ∧ wr = W4) (fun _ _ => 0)
      case atStart => exact ⟨rfl, rfl⟩
      case round =>
        obtain ⟨rfl, rfl⟩ := hrel
        have he : ∀ w, (binOp .eql 23 (.slice none 0 0) (.slice none 0 0)).run Try.prog w = .ok (.bool true) w := fun _ => by kernel_rfl
        have hown : OwnL wr wr.heap.size 3 1 encI (.slice none 0 0) (toI (s.old pn ((none : Option (List Nat)).getD []))) := OwnL.nil
        have hN5 := hN4.set 2 (.bool true)
        change Blk _ N 78 [(.slice none 0 0), .int .i64 (-1), .bool true] at hN5
        have hR5 := hR4.other (p := ⟨N, 2, none⟩) (by simp; omega) (.bool true)
        have hb5 := hbw4.setCell (p := ⟨N, 2, none⟩) (by simp; omega) (.bool true)
        have ho5 := OwnL.othr hown hN4 (by decide) 2 (.bool true)
        have hR6 := hR5.set 0 (.slice none 0 0)
        have hR7 := hR6.set 1 (.int .i64 (-1))
        have HR8 := Lib.hid (hR7.set 2 (.bool true))
        have Hb8 := Lib.hid (((hb5.setCell (p := ⟨w.heap.size + 1, 0, none⟩) (by simp) (.slice none 0 0)).setCell (p := ⟨w.heap.size + 1, 1, none⟩) (by simp) (.int .i64 (-1))).setCell (p := ⟨w.heap.size + 1, 2, none⟩) (by simp) (.bool true))
        have Ho8 := Lib.hid (HY.out hex none Hmq.out _ _ (OwnL.up (OwnL.othr (OwnL.othr (OwnL.othr ho5 hR5 (by decide) 0 (.slice none 0 0)) hR6 (by decide) 1 (.int .i64 (-1))) hR7 (by decide) 2 (.bool true)) (by omega)))
        have n2 := hN4.free 2
        have nc2 : wr.cell? ⟨N, 2, none⟩ = some _ := hN4.cell (i := 2) rfl
        have nc0 : wr.cell? ⟨N, 0, none⟩ = some _ := hN4.cell (i := 0) rfl
        have nc1 : wr.cell? ⟨N, 1, none⟩ = some _ := hN4.cell (i := 1) rfl
        have y0 : wr.cell? ⟨w.heap.size + 1, 0, none⟩ = some _ := hR4.cell (i := 0) rfl
        have f0 := hR4.free 0
        have y1 : wr.cell? ⟨w.heap.size + 1, 1, none⟩ = some _ := hR4.cell (i := 1) rfl
        have f1 := hR4.free 1
        have y2 : wr.cell? ⟨w.heap.size + 1, 2, none⟩ = some _ := hR4.cell (i := 2) rfl
        have f2 := hR4.free 2
        clear hN5 hR5 hb5 ho5 hR6 hR7 hN4 hR4 hbw4 hown Hmq Hold HY hex
        go_wp2
        have z0 := HR8.out.cell (i := 0) rfl
        have z1 := HR8.out.cell (i := 1) rfl
        have z2 := HR8.out.cell (i := 2) rfl
        refine bodyPost_ret (v := .agg #[.slice none 0 0, .int .i64 (-1), .bool true]) (by simp [results, Try.results42, go_sem, z0, z1, z2]) rfl ?_
        exact ⟨Ho8.out, Hb8.out⟩
    | some qs =>
      obtain ⟨a, cq, rfl, hqc⟩ := hO
      obtain ⟨hql, hqx⟩ := Hq0.out qs rfl
      clear Hq0
      obtain ⟨bq, oq, ha, -, -⟩ := hqc.at1 (k := 0) (by rw [toI_len]; omega) rfl
      cases ha
      have hq8 : qs.length ≤ 8 := by omega
      clear hql
      have hkB : (Value.slice (some ⟨gk, 0, none⟩) kt.length ck).ownBlock ≠ some N := fun e1 => by
        have := own_ne hk4 hN4 (by decide)
        rw [e1] at this
        simp at this
      have HC := Lib.hid (fun W (hW : Dr.Bel [N] W4 W) => And.intro ((OwnL.bel1 hk4 hW hkB).cl encI_len) (And.intro (cells_off hqc hN4 (fun x => by simp) hW) (And.intro (hbw4.trans (hW.old hsw (fun k hk => by simp only [List.mem_cons, List.not_mem_nil, or_false] at hk; omega))) (hW.blk hR4 (by simp; omega)))))
      have HN4 := Lib.hid hN4
      clear hqc hk4 hkB hR4 hbw4 hN4
      go_upto_block 0 with fail
      go_wp2
      go_loopw [10] (fun t wr => ∃ (k : Nat) (va : Value), t = .int .i64 k ∧ k ≤ qs.length ∧ Dr.Bel [N] W4 wr ∧ Blk wr N 78 [va, .int .i64 (-1), .bool true] ∧ OwnL wr W4.heap.size 3 1 encI va (toI (s.old pn (qs.take k)))) (fun t _ => qs.length - (intOf t).toNat)
      case atStart => exact ⟨0, _, rfl, by omega, Dr.Bel.refl _ _, HN4.out, OwnL.nil⟩
      case round =>
        clear HN4
        obtain ⟨k, va, rfl, hk, hW, hN, ho⟩ := hrel
        obtain ⟨hc1, hc2, hbw, hRw⟩ := HC.out wr hW
        by_cases hlt : k < qs.length
        · have hlt' : (k : Int) < (qs.length : Int) := by omega
          have hk0 : (0 : Int) ≤ (k : Int) := by omega
          obtain ⟨bb, ob, hA, -, d0⟩ := hc2.at1 (k := k) (by rw [toI_len]; exact hlt) rfl
          cases hA
          have hxk := hqx _ (List.getElem_mem hlt)
          have e0 : (toI qs)[k]'(by rw [toI_len]; exact hlt) = ((qs[k] : Nat) : Int) := by unfold toI; simp
          rw [e0] at d0
          have hold : s.old pn (qs.take (k + 1)) = s.old pn (qs.take k) ++ [kt.getD qs[k] 0] := by
            rw [Hold.out, Hold.out, List.take_succ_eq_append_getElem hlt, List.map_append]; rfl
          generalize qs[k] = x at *
          obtain ⟨b2, o2, hA2, -, d1⟩ := hc1.at1 (k := x) (by rw [toI_len]; exact hxk) rfl
          cases hA2
          have e1 : (toI kt)[x]'(by rw [toI_len]; exact hxk) = ((kt.getD x 0 : Nat) : Int) := by unfold toI; simp [hxk]
          rw [e1, Nat.zero_add] at d1
          generalize kt.getD x 0 = y at *
          have hx0 : (0 : Int) ≤ (x : Int) := by omega
          have hx1 : (x : Int) < (kt.length : Int) := by omega
          have Hold2 := Lib.hid hold
          have holl : (toI (s.old pn (qs.take k))).length ≤ 8 := by rw [toI_len, Hold.out, List.length_map, List.length_take]; omega
          clear hold e0 e1 hc1 hc2 hbw hRw hqx
          go_upto_region 11 with fail
          refine Dr.wp_region_plan 10 [] (.q [0, 1, 2, 3, 4, 5, 6, 7, 8] (.e1 9 .done)) (by kernel_rfl) (by kernel_rfl) ?_
          have hWd := hW.trans (.of (ext_drew wr))
          have hNd := hN.ext (ext_drew wr)
          have hod := ho.ext (ext_drew wr)
          have q0 := Dr.cell0 (w := wr.drew) (hNd.cell (i := 0) rfl)
          have q1 := Dr.cell0 (w := wr.drew) (show wr.drew.cell? _ = _ from d0)
          have q2 := Dr.cell0 (w := wr.drew) (show wr.drew.cell? _ = _ from d1)
          clear hW hN ho d0 d1
          generalize World.drew _ = V at *
          refine Dr.plan_q (l := [_, _, _, _, _, _, _, _, _]) rfl (fun K hK => ?_)
          iterate 9 (go_big_quiet_step (fail))
          refine wpQuiet_nil (hK _ ?_); clear hK K q0 q1 q2
          have hba := ext_alloc V (.cells #[.int .i64 (y : Int)] 3)
          have hnew : Blk (V.alloc (.cells #[.int .i64 (y : Int)] 3)) V.heap.size 3 [.int .i64 (y : Int)] := Blk.new V 3 _
          refine Dr.plan_e rfl (by rfl) (fun K hK => ?_)
          go_wp2_with fail
          refine hK _ _ (.of hba) ?_; clear hK K
          have hN3 := hNd.ext hba
          have ho3 := hod.ext hba
          have hW3 := hWd.trans (.of hba)
          have hsz := hW3.size
          clear hNd hod hWd hba
          generalize V.alloc (.cells #[.int .i64 (y : Int)] 3) = V2 at *
          refine Dr.plan_done (tl := [_, _, _]) rfl ?_
          refine app1 encI 23 3 1 8 et23 (by decide) (by decide) encI_len encI_one rfl _ _ rfl W4.heap.size _ (toI (s.old pn (qs.take k))) rfl ho3 V.heap.size rfl (y : Int) (encI_cell (hnew.cell rfl)) (by omega) hsz ?_
          intro g' cap' V3 hown hb3 hg3 hat3
          have hN4 := blk_grown hN3 hg3 (own_lo ho3 hN4lt)
          have z3 : V3.cell? ⟨N, 0, none⟩ = _ := hN4.cell (i := 0) rfl
          have f3 := hN4.free 0
          have HF := Lib.hid (And.intro ((bel_grown2 hW3 hg3 (fun k hk => (ho3.lt hk).1)).put (p := ⟨N, 0, none⟩) (by simp) (.slice (some ⟨g', 0, none⟩) ((toI (s.old pn (qs.take k))).length + 1) cap')) (And.intro (hN4.set 0 (.slice (some ⟨g', 0, none⟩) ((toI (s.old pn (qs.take k))).length + 1) cap')) (OwnL.othr hown hN4 (by decide) 0 (.slice (some ⟨g', 0, none⟩) ((toI (s.old pn (qs.take k))).length + 1) cap'))))
          clear hN3 ho3 hW3 hown hb3 hg3 hat3 hN4 hnew
          go_frame
          go_wp2
          go_roundw
          case rel => exact ⟨k + 1, _, by go_num, by omega, HF.out.1, HF.out.2.1, by rw [Hold2.out, toI_snoc]; exact HF.out.2.2⟩
          case measure => simp [intOf] <;> omega
        · obtain rfl : k = qs.length := by omega
          rw [List.take_length] at ho
          obtain ⟨Av, cv, rfl, -, -, -⟩ := ho.cells encI_len
          generalize (toI (s.old pn qs)).length = lv at *
          have he : ∀ w, (binOp .eql 23 (.slice (some ⟨bq, oq, none⟩) qs.length cq) (.slice none 0 0)).run Try.prog w = .ok (.bool false) w := fun _ => by kernel_rfl
          have hN5 := hN.set 2 (.bool false)
          change Blk _ N 78 [(.slice Av lv cv), .int .i64 (-1), .bool false] at hN5
          have hR5 := hRw.other (p := ⟨N, 2, none⟩) (by simp; omega) (.bool false)
          have hb5 := hbw.setCell (p := ⟨N, 2, none⟩) (by simp; omega) (.bool false)
          have ho5 := OwnL.othr ho hN (by decide) 2 (.bool false)
          have hR6 := hR5.set 0 (.slice Av lv cv)
          have hR7 := hR6.set 1 (.int .i64 (-1))
          have HR8 := Lib.hid (hR7.set 2 (.bool false))
          have Hb8 := Lib.hid (((hb5.setCell (p := ⟨w.heap.size + 1, 0, none⟩) (by simp) (.slice Av lv cv)).setCell (p := ⟨w.heap.size + 1, 1, none⟩) (by simp) (.int .i64 (-1))).setCell (p := ⟨w.heap.size + 1, 2, none⟩) (by simp) (.bool false))
          have Ho8 := Lib.hid (HY.out hex (some qs) Hmq.out _ _ (OwnL.up (OwnL.othr (OwnL.othr (OwnL.othr ho5 hR5 (by decide) 0 (.slice Av lv cv)) hR6 (by decide) 1 (.int .i64 (-1))) hR7 (by decide) 2 (.bool false)) (by omega)))
          have n2 := hN.free 2
          have nc2 : wr.cell? ⟨N, 2, none⟩ = some _ := hN.cell (i := 2) rfl
          have nc0 : wr.cell? ⟨N, 0, none⟩ = some _ := hN.cell (i := 0) rfl
          have nc1 : wr.cell? ⟨N, 1, none⟩ = some _ := hN.cell (i := 1) rfl
          have y0 : wr.cell? ⟨w.heap.size + 1, 0, none⟩ = some _ := hRw.cell (i := 0) rfl
          have f0 := hRw.free 0
          have y1 : wr.cell? ⟨w.heap.size + 1, 1, none⟩ = some _ := hRw.cell (i := 1) rfl
          have f1 := hRw.free 1
          have y2 : wr.cell? ⟨w.heap.size + 1, 2, none⟩ = some _ := hRw.cell (i := 2) rfl
          have f2 := hRw.free 2
          clear hN5 hR5 hb5 ho5 hR6 hR7 hN hRw hbw ho Hmq Hold HY hex hW hc1 hc2 HC hqx
          go_wp2
          have z0 := HR8.out.cell (i := 0) rfl
          have z1 := HR8.out.cell (i := 1) rfl
          have z2 := HR8.out.cell (i := 2) rfl
          refine bodyPost_ret (v := .agg #[.slice Av lv cv, .int .i64 (-1), .bool false]) (by simp [results, Try.results42, go_sem, z0, z1, z2]) rfl ?_
          exact ⟨Ho8.out, Hb8.out⟩
end Go.Proofs.Ytcnidhcdkbfpcaa
