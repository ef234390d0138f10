/- Walk: without (a show without a person). -/
import Derived.Test.YtcnidhcdkbfpcaaPrlS
namespace Go.Proofs.Ytcnidhcdkbfpcaa
open Go.RowKit Go.Bs Go.Pg Go.Pl Go.Sort
/-- a show whose rows are objects of known types -/
structure ShO (e : TypeId) (W : World) (s : Sh) (p : ShP) : Prop where
  m : ShM W s p
  r : OwnL W 0 3 1 encI (.slice p.R s.rest.length p.cR) s.rest
  a : OwnL W 0 e 5 AcV.enc (.slice p.A s.acts.length p.cA) p.av
  c : ∀ x ∈ p.av, OwnL W 0 47 1 encU (.slice x.C x.a.casts.length x.c) x.a.casts
  i : OwnL W 0 3 1 encI (.slice p.I s.ins.length p.cI) s.ins
  o : OwnL W 0 3 1 encI (.slice p.O s.outs.length p.cO) s.outs
  b : OwnL W 0 84 2 encP (.slice p.B s.before.length p.cB) s.before
theorem ShO.put {e : TypeId} {W : World} {s : Sh} {p : ShP} {X T : Nat} {cs : List Value} (h : ShO e W s p) (hX : Blk W X T cs) (he : T ≠ e) (h3 : T ≠ 3) (h47 : T ≠ 47) (h84 : T ≠ 84) (k : Nat) (u : Value) : ShO e (W.setCell ⟨X, k, none⟩ u) s p :=
  have r := OwnL.othr h.r hX h3 k u
  have a := OwnL.othr h.a hX he k u
  have c := fun x hx => OwnL.othr (h.c x hx) hX h47 k u
  have i := OwnL.othr h.i hX h3 k u
  have o := OwnL.othr h.o hX h3 k u
  have b := OwnL.othr h.b hX h84 k u
  ⟨⟨h.m.eq, a.cl acv_len, fun x hx => (c x hx).cl encU_len, r.cl encI_len, i.cl encI_len, o.cl encI_len, b.cl encP_len, h.m.bits, h.m.small⟩, r, a, c, i, o, b⟩
theorem ShO.ext {e : TypeId} {W W' : World} {s : Sh} {p : ShP} (h : ShO e W s p) (hb : Below W.heap.size W W') : ShO e W' s p :=
  ⟨h.m.ext hb, h.r.ext hb, h.a.ext hb, fun x hx => (h.c x hx).ext hb, h.i.ext hb, h.o.ext hb, h.b.ext hb⟩
theorem ShO.put7 {e : TypeId} {W : World} {s : Sh} {p : ShP} {X T : Nat} {c0 c1 c2 c3 c4 c5 c6 : Value} (ho : ShO e W s p) (h : Blk W X T [c0, c1, c2, c3, c4, c5, c6]) (he : T ≠ e) (h3 : T ≠ 3) (h47 : T ≠ 47) (h84 : T ≠ 84) (u0 u1 u2 u3 u4 u5 u6 : Value) :
    ShO e (((((((W.setCell ⟨X, 0, none⟩ u0).setCell ⟨X, 1, none⟩ u1).setCell ⟨X, 2, none⟩ u2).setCell ⟨X, 3, none⟩ u3).setCell ⟨X, 4, none⟩ u4).setCell ⟨X, 5, none⟩ u5).setCell ⟨X, 6, none⟩ u6) s p := by
  have b0 := h.set 0 u0
  have b1 := b0.set 1 u1
  have b2 := b1.set 2 u2
  have b3 := b2.set 3 u3
  have b4 := b3.set 4 u4
  have b5 := b4.set 5 u5
  exact ((((((ho.put h he h3 h47 h84 0 u0).put b0 he h3 h47 h84 1 u1).put b1 he h3 h47 h84 2 u2).put b2 he h3 h47 h84 3 u3).put b3 he h3 h47 h84 4 u4).put b4 he h3 h47 h84 5 u5).put b5 he h3 h47 h84 6 u6
/-- what without returns -/
def WotR (bs : Nat) (s : Sh) (pn : Nat) (e : Ending) (W : World) : Prop :=
  (∃ i : Nat, s.excep pn = some i ∧ e = .returned (.tuple #[.agg #[.slice none 0 0, .slice none 0 0, .slice none 0 0, .slice none 0 0, .int .i64 0, .int .i64 0, .slice none 0 0], .slice none 0 0, .int .i64 i])) ∨
  (s.excep pn = none ∧ ∃ q vk, e = .returned (.tuple #[shV (s.lessW pn) q, vk, .int .i64 (-1)]) ∧ ShO 82 W (s.lessW pn) q ∧ OwnL W bs 3 1 encI vk (toI (s.keptTo pn s.acts.length)))
theorem castsW_sub {s : Sh} {pn i : Nat} : ∀ c ∈ s.castsW pn i, c ∈ (s.act i).casts := fun _ hc => (List.mem_filter.1 hc).1
theorem castsW_le {s : Sh} {pn i : Nat} : (s.castsW pn i).length ≤ (s.act i).casts.length := List.length_filter_le _ _
/-- seven stores keep a row of another type -/
theorem put7o {W : World} {X : Nat} {c0 c1 c2 c3 c4 c5 c6 : Value} (h : Blk W X 35 [c0, c1, c2, c3, c4, c5, c6]) (u0 u1 u2 u3 u4 u5 u6 : Value) {α : Type} {bs : Nat} {e : TypeId} {sz : Nat} {enc : α → List Value} {v : Value} {l : List α} (ho : OwnL W bs e sz enc v l) (he : (35 : Nat) ≠ e) :
    OwnL (((((((W.setCell ⟨X, 0, none⟩ u0).setCell ⟨X, 1, none⟩ u1).setCell ⟨X, 2, none⟩ u2).setCell ⟨X, 3, none⟩ u3).setCell ⟨X, 4, none⟩ u4).setCell ⟨X, 5, none⟩ u5).setCell ⟨X, 6, none⟩ u6) bs e sz enc v l := by
  have b0 := h.set 0 u0
  have b1 := b0.set 1 u1
  have b2 := b1.set 2 u2
  have b3 := b2.set 3 u3
  have b4 := b3.set 4 u4
  have b5 := b4.set 5 u5
  exact OwnL.othr (OwnL.othr (OwnL.othr (OwnL.othr (OwnL.othr (OwnL.othr (OwnL.othr ho h he 0 u0) b0 he 1 u1) b1 he 2 u2) b2 he 3 u3) b3 he 4 u4) b4 he 5 u5) b5 he 6 u6
section
variable {e bt : Nat} {W0 W : World} {T G : Nat} {s : Sh} {p : Nat} {c1 c2 c3 c4 c5 : Value} {atl : List Int} {kl : List Nat} {bl : List (Int × Int)} {va vk vb : Value} {av : List AcV}
/-- a store into the box of an act -/
theorem WoI.setN {N : Nat} {cs : List Value} (h : WoI e bt W0 T G s p c1 c2 c3 c4 c5 atl kl bl va vk vb av W) (he3 : e ≠ 3) (he47 : e ≠ 47) (he84 : e ≠ 84) (hN : W0.heap.size ≤ N) (hNa : va.ownBlock ≠ some N) (hB : Blk W N e cs) (j : Nat) (u : Value) : WoI e bt W0 T G s p c1 c2 c3 c4 c5 atl kl bl va vk vb av (W.setCell ⟨N, j, none⟩ u) :=
  ⟨bel_grown2 h.be (grownBy_setCell W ⟨N, j, none⟩ u) (fun k hk => by cases hk; exact hN), h.tb.other (fun e1 => by have := h.lt.1; simp only at e1; omega) _, h.at'.other (fun e1 => by have := h.lt.2; simp only at e1; omega) _, h.own.put hNa _, h.eq, fun x hx => OwnL.othr (h.cs x hx) hB he47 j _, OwnL.othr h.kp hB he3 j _, OwnL.othr h.ob hB he84 j _, h.lt⟩
/-- a store into the box of a pair -/
theorem WoI.setP {N : Nat} {cs : List Value} (h : WoI e bt W0 T G s p c1 c2 c3 c4 c5 atl kl bl va vk vb av W) (he84 : e ≠ 84) (hN : W0.heap.size ≤ N) (hNb : vb.ownBlock ≠ some N) (hB : Blk W N 84 cs) (j : Nat) (u : Value) : WoI e bt W0 T G s p c1 c2 c3 c4 c5 atl kl bl va vk vb av (W.setCell ⟨N, j, none⟩ u) :=
  ⟨bel_grown2 h.be (grownBy_setCell W ⟨N, j, none⟩ u) (fun k hk => by cases hk; exact hN), h.tb.other (fun e1 => by have := h.lt.1; simp only at e1; omega) _, h.at'.other (fun e1 => by have := h.lt.2; simp only at e1; omega) _, OwnL.othr h.own hB he84.symm j _, h.eq, fun x hx => OwnL.othr (h.cs x hx) hB (by decide) j _, OwnL.othr h.kp hB (by decide) j _, h.ob.put hNb _, h.lt⟩
end
set_option maxRecDepth 100000 in
set_option maxHeartbeats 10000000 in
theorem without_any (s : Sh) (p : ShP) (pn : Nat) (w : World) (h : ShM w s p) (hok : s.Ok) (hp : pn < s.rest.length) :
    Calls Try.prog 59 #[shV s p, .int .i64 pn] w fun e w' => WotR w.heap.size s pn e w' ∧ Below w.heap.size w w' := by
  have n8 := hok.n8
  have n1 := hok.n1
  have r16 := hok.r16
  have i10 := hok.i10
  have b20 := hok.b20
  obtain ⟨m1, m2, m3, m4, m5⟩ := h.small
  have hb0 : Below w.heap.size w ((w.alloc (.cells (shC s p).toArray 35)).alloc (.cells zerC.toArray 35)) := ((Below.refl _ _).alloc (Nat.le_refl _) _).alloc (by simp) _
  have hS : Blk ((w.alloc (.cells (shC s p).toArray 35)).alloc (.cells zerC.toArray 35)) w.heap.size 35 (shC s p) := (Blk.new w 35 (shC s p)).alloc _
  have hT : Blk ((w.alloc (.cells (shC s p).toArray 35)).alloc (.cells zerC.toArray 35)) (w.heap.size + 1) 35 zerC := by
    have := Blk.new (w.alloc (.cells (shC s p).toArray 35)) 35 zerC
    simpa using this
  have Hok := Lib.hid hok
  have Hh := Lib.hid (fun W (hW : Below w.heap.size w W) => h.ext hW)
  have HX := Lib.hid (fun i (h1 : s.excep pn = some i) => show ∀ W, WotR w.heap.size s pn (.returned (.tuple #[.agg #[.slice none 0 0, .slice none 0 0, .slice none 0 0, .slice none 0 0, .int .i64 0, .int .i64 0, .slice none 0 0], .slice none 0 0, .int .i64 (i : Int)])) W from fun W => .inl ⟨i, h1, rfl⟩)
  have HY := Lib.hid (fun (h1 : s.excep pn = none) q vk W h2 h3 => show WotR w.heap.size s pn (.returned (.tuple #[shV (s.lessW pn) q, vk, .int .i64 (-1)])) W from .inr ⟨h1, q, vk, rfl, h2, h3⟩)
  have hAs : ∃ b off, p.A = some ⟨b, off, none⟩ := by
    obtain ⟨b, off, C, c, hA, -⟩ := h.at (i := 0) (by omega)
    exact ⟨b, off, hA⟩
  have hmk := mk23n s.acts.length (by omega)
  have Hmk := Lib.hid hmk
  clear h hok hmk
  unfold shV at *
  unfold shC at *
  unfold zerC at *
  go_enter Try.func59, Try.ntmps59
  go_upto_region 1 with fail
  change Below w.heap.size w ((w.alloc (.cells #[.slice p.A s.acts.length p.cA, .slice p.R s.rest.length p.cR, .slice p.I s.ins.length p.cI, .slice p.O s.outs.length p.cO, .int .i64 s.cover, .int .i64 s.dull, .slice p.B s.before.length p.cB] 35)).alloc (.cells #[.slice none 0 0, .slice none 0 0, .slice none 0 0, .slice none 0 0, .int .i64 0, .int .i64 0, .slice none 0 0] 35)) at hb0
  change Blk ((w.alloc (.cells #[.slice p.A s.acts.length p.cA, .slice p.R s.rest.length p.cR, .slice p.I s.ins.length p.cI, .slice p.O s.outs.length p.cO, .int .i64 s.cover, .int .i64 s.dull, .slice p.B s.before.length p.cB] 35)).alloc (.cells #[.slice none 0 0, .slice none 0 0, .slice none 0 0, .slice none 0 0, .int .i64 0, .int .i64 0, .slice none 0 0] 35)) _ _ _ at hS
  change Blk ((w.alloc (.cells #[.slice p.A s.acts.length p.cA, .slice p.R s.rest.length p.cR, .slice p.I s.ins.length p.cI, .slice p.O s.outs.length p.cO, .int .i64 s.cover, .int .i64 s.dull, .slice p.B s.before.length p.cB] 35)).alloc (.cells #[.slice none 0 0, .slice none 0 0, .slice none 0 0, .slice none 0 0, .int .i64 0, .int .i64 0, .slice none 0 0] 35)) _ _ _ at hT
  generalize (w.alloc (.cells #[.slice p.A s.acts.length p.cA, .slice p.R s.rest.length p.cR, .slice p.I s.ins.length p.cI, .slice p.O s.outs.length p.cO, .int .i64 s.cover, .int .i64 s.dull, .slice p.B s.before.length p.cB] 35)).alloc (.cells #[.slice none 0 0, .slice none 0 0, .slice none 0 0, .slice none 0 0, .int .i64 0, .int .i64 0, .slice none 0 0] 35) = W0 at *
  refine Dr.wp_region_plan 14 [] (.q [0, 1, 3, 4, 6, 7, 9, 10, 11, 12] (.e1 2 (.e1 5 (.e1 8 (.q [13] .done))))) (by kernel_rfl) (by kernel_rfl) ?_
  have hbd := ext_trans hb0 (ext_drew W0)
  have hSd := hS.ext (ext_drew W0)
  have hTd := hT.ext (ext_drew W0)
  clear hb0 hS hT
  generalize World.drew _ = V0 at *
  have q1 := Dr.cell0 (hSd.cell (i := 1) rfl)
  have q2 := Dr.cell0 (hSd.cell (i := 2) rfl)
  have q3 := Dr.cell0 (hSd.cell (i := 3) rfl)
  have q4 := Dr.cell0 (hSd.cell (i := 4) rfl)
  have q5 := Dr.cell0 (hSd.cell (i := 5) rfl)
  refine Dr.plan_q (l := [_, _, _, _, _, _, _, _, _, _]) rfl (fun K hK => ?_)
  iterate 10 (go_big_quiet_step (fail))
  refine wpQuiet_nil (hK _ ?_); clear hK K q1 q2 q3 q4 q5
  have C := Lib.hid (clone_int p.R s.rest.length p.cR s.rest V0 rfl (by omega) ((Hh.out V0 hbd).rest))
  refine Dr.plan_e rfl (by rfl) (fun K hK => ?_)
  go_wp2_with fail
  refine C.out.mono ?_; rintro e V1 ⟨v1, rfl, ho1, hbc1⟩
  refine hK _ _ (.of hbc1) ?_; clear hK K C
  have hbe1 := ext_trans hbd hbc1
  obtain ⟨A1, k1, rfl, -, -, -⟩ := ho1.cells encI_len
  have C := Lib.hid (clone_int p.I s.ins.length p.cI s.ins V1 rfl (by omega) ((Hh.out V1 hbe1).ins))
  refine Dr.plan_e rfl (by rfl) (fun K hK => ?_)
  go_wp2_with fail
  refine C.out.mono ?_; rintro e V2 ⟨v2, rfl, ho2, hbc2⟩
  refine hK _ _ (.of hbc2) ?_; clear hK K C
  have hbe2 := ext_trans hbe1 hbc2
  obtain ⟨A2, k2, rfl, -, -, -⟩ := ho2.cells encI_len
  have C := Lib.hid (clone_int p.O s.outs.length p.cO s.outs V2 rfl (by omega) ((Hh.out V2 hbe2).outs))
  refine Dr.plan_e rfl (by rfl) (fun K hK => ?_)
  go_wp2_with fail
  refine C.out.mono ?_; rintro e V3 ⟨v3, rfl, ho3, hbc3⟩
  refine hK _ _ (.of hbc3) ?_; clear hK K C
  have hbe3 := ext_trans hbe2 hbc3
  obtain ⟨A3, k3, rfl, -, -, -⟩ := ho3.cells encI_len
  have hS3 := ((hSd.ext hbc1).ext hbc2).ext hbc3
  have hT3 := ((hTd.ext hbc1).ext hbc2).ext hbc3
  have ho1 := OwnL.up ((ho1.ext hbc2).ext hbc3) hbd.size
  have ho2 := OwnL.up (ho2.ext hbc3) hbe1.size
  have ho3 := OwnL.up ho3 hbe2.size
  clear hSd hTd hbd hbc1 hbc2 hbc3 hbe1 hbe2
  refine Dr.plan_q (l := [_]) rfl (fun K hK => ?_)
  iterate 1 (go_big_quiet_step (fail))
  refine wpQuiet_nil (hK _ ?_); clear hK K
  refine Dr.plan_done (tl := [_]) rfl ?_
  have y0 : V3.cell? ⟨w.heap.size + 1, 0, none⟩ = _ := hT3.cell (i := 0) rfl
  have f0 := hT3.free 0
  have y1 : V3.cell? ⟨w.heap.size + 1, 1, none⟩ = _ := hT3.cell (i := 1) rfl
  have f1 := hT3.free 1
  have y2 : V3.cell? ⟨w.heap.size + 1, 2, none⟩ = _ := hT3.cell (i := 2) rfl
  have f2 := hT3.free 2
  have y3 : V3.cell? ⟨w.heap.size + 1, 3, none⟩ = _ := hT3.cell (i := 3) rfl
  have f3 := hT3.free 3
  have y4 : V3.cell? ⟨w.heap.size + 1, 4, none⟩ = _ := hT3.cell (i := 4) rfl
  have f4 := hT3.free 4
  have y5 : V3.cell? ⟨w.heap.size + 1, 5, none⟩ = _ := hT3.cell (i := 5) rfl
  have f5 := hT3.free 5
  have y6 : V3.cell? ⟨w.heap.size + 1, 6, none⟩ = _ := hT3.cell (i := 6) rfl
  have f6 := hT3.free 6
  go_upto_region 2 with fail
  obtain ⟨hT4, -, hQ⟩ := put7 hT3 (.slice none 0 0) (.slice A1 s.rest.length k1) (.slice A2 s.ins.length k2) (.slice A3 s.outs.length k3) (.int .i64 s.cover) (.int .i64 s.dull) (.slice none 0 0)
  have hb4 := hQ w.heap.size w (by omega) hbe3
  have hp1 := put7o hT3 (.slice none 0 0) (.slice A1 s.rest.length k1) (.slice A2 s.ins.length k2) (.slice A3 s.outs.length k3) (.int .i64 s.cover) (.int .i64 s.dull) (.slice none 0 0) ho1 (by decide)
  have hp2 := put7o hT3 (.slice none 0 0) (.slice A1 s.rest.length k1) (.slice A2 s.ins.length k2) (.slice A3 s.outs.length k3) (.int .i64 s.cover) (.int .i64 s.dull) (.slice none 0 0) ho2 (by decide)
  have hp3 := put7o hT3 (.slice none 0 0) (.slice A1 s.rest.length k1) (.slice A2 s.ins.length k2) (.slice A3 s.outs.length k3) (.int .i64 s.cover) (.int .i64 s.dull) (.slice none 0 0) ho3 (by decide)
  have hS4 : Blk (((((((V3.setCell ⟨w.heap.size + 1, 0, none⟩ (.slice none 0 0)).setCell ⟨w.heap.size + 1, 1, none⟩ (.slice A1 s.rest.length k1)).setCell ⟨w.heap.size + 1, 2, none⟩ (.slice A2 s.ins.length k2)).setCell ⟨w.heap.size + 1, 3, none⟩ (.slice A3 s.outs.length k3)).setCell ⟨w.heap.size + 1, 4, none⟩ (.int .i64 s.cover)).setCell ⟨w.heap.size + 1, 5, none⟩ (.int .i64 s.dull)).setCell ⟨w.heap.size + 1, 6, none⟩ (.slice none 0 0)) w.heap.size 35 _ :=
    ((((((hS3.other (by simp) _).other (by simp) _).other (by simp) _).other (by simp) _).other (by simp) _).other (by simp) _).other (by simp) _
  clear hQ hT3 hS3 ho1 ho2 ho3 hbe3 y0 y1 y2 y3 y4 y5 y6 f0 f1 f2 f3 f4 f5 f6
  generalize (((((((V3.setCell _ _).setCell _ _).setCell _ _).setCell _ _).setCell _ _).setCell _ _).setCell _ _) = W4 at *
  have x0 : W4.cell? ⟨w.heap.size, 0, none⟩ = _ := hS4.cell (i := 0) rfl
  have hmk := Hmk.out
  go_upto_region 3 with fail
  clear x0 hmk
  have hG := Blk.new W4 3 ((tab s.acts.length fun _ => 0).map (Value.int .i64))
  have hal := ext_alloc W4 (.cells ((tab s.acts.length fun _ => 0).map (Value.int .i64)).toArray 3)
  have hT5 := hT4.ext hal
  have hS5 := hS4.ext hal
  have hb5 := ext_trans hb4 hal
  have hGs := hb4.size
  have hTG : w.heap.size + 1 < W4.heap.size := hT4.lt

  have hGlt := hG.lt
  have ne1 : ∀ {l : List Int} {v : Value}, OwnL W4 w.heap.size 3 1 encI v l → ∀ k, v.ownBlock = some k → k ∉ [w.heap.size + 1, W4.heap.size] ∧ k < W4.heap.size := fun {l v} ho k hk => by
    have h1 := (ho.lt hk).2
    have h2 := own_ne ho hT4 (by decide)
    rw [hk] at h2
    simp at h2
    refine ⟨?_, h1⟩
    simp only [List.mem_cons, List.not_mem_nil, or_false, not_or]
    exact ⟨fun e => h2 e.symm, by omega⟩
  have sm : ∀ {l : List Int} {v : Value}, OwnL W4 w.heap.size 3 1 encI v l → ∀ W, Dr.Bel [w.heap.size + 1, W4.heap.size] (W4.alloc (.cells ((tab s.acts.length fun _ => 0).map (Value.int .i64)).toArray 3)) W → OwnL W w.heap.size 3 1 encI v l := fun {l v} ho W hW =>
    OwnL.same (ho.ext hal) (fun k hk => hW.block k (by have := (ne1 ho k hk).2; have := hal.size; omega) (ne1 ho k hk).1)
  have HC := Lib.hid (fun W hW => And.intro (sm hp1 W hW) (And.intro (sm hp2 W hW) (sm hp3 W hW)))
  have HE := Lib.hid (fun W (hW : Dr.Bel [w.heap.size + 1, W4.heap.size] (W4.alloc (.cells ((tab s.acts.length fun _ => 0).map (Value.int .i64)).toArray 3)) W) => show Below w.heap.size w W ∧ Blk W w.heap.size 35 _ from
    ⟨hb5.trans (hW.old hb5.size (fun k hk => by simp only [List.mem_cons, List.not_mem_nil, or_false] at hk; omega)), hW.blk hS5 (by simp; omega)⟩)
  have hI0 : WoI 82 35 (W4.alloc (.cells ((tab s.acts.length fun _ => 0).map (Value.int .i64)).toArray 3)) (w.heap.size + 1) W4.heap.size s pn (.slice A1 s.rest.length k1) (.slice A2 s.ins.length k2) (.slice A3 s.outs.length k3) (.int .i64 s.cover) (.int .i64 s.dull) (s.atTo pn 0) [] [] (.slice none 0 0) (.slice none 0 0) (.slice none 0 0) [] (W4.alloc (.cells ((tab s.acts.length fun _ => 0).map (Value.int .i64)).toArray 3)) :=
    ⟨Dr.Bel.refl _ _, hT5, by rw [Sh.atTo_zero]; exact hG, OwnL.nil, rfl, by simp, OwnL.nil, OwnL.nil, by have := hal.size; omega, hGlt⟩
  have HI0 := Lib.hid hI0
  have x0 : (W4.alloc (.cells ((tab s.acts.length fun _ => 0).map (Value.int .i64)).toArray 3)).cell? ⟨w.heap.size, 0, none⟩ = some (.slice p.A s.acts.length p.cA) := hS5.cell (i := 0) rfl
  have Hsz0 := Lib.hid hb5.size
  clear hI0 hT4 hS4 hb4 hal ne1 sm hp1 hp2 hp3 hG hT5 hb5
  generalize W4.alloc (.cells ((tab s.acts.length fun _ => 0).map (Value.int .i64)).toArray 3) = W5 at *
  generalize W4.heap.size = G at *
  obtain ⟨bA, oA, hA⟩ := hAs
  rw [hA] at x0
  have HA := Lib.hid hA
  go_upto_block 0 with fail
  clear x0 hA hS5
  go_wp2
  go_loopw [5, 34] (fun vk t wr => ∃ (i : Nat) (va : Value) (av : List AcV), t = .int .i64 i ∧ i ≤ s.acts.length ∧ Hid (∀ j, j < i → s.excB pn j = false) ∧ WoI 82 35 W5 (w.heap.size + 1) G s pn (.slice A1 s.rest.length k1) (.slice A2 s.ins.length k2) (.slice A3 s.outs.length k3) (.int .i64 s.cover) (.int .i64 s.dull) (s.atTo pn i) (s.keptTo pn i) [] va vk (.slice none 0 0) av wr) (fun _ t _ => s.acts.length - (intOf t).toNat)
  case atStart => exact ⟨0, _, [], rfl, by omega, Lib.hid (by intro j hj; omega), HI0.out⟩
  case round =>
    clear HI0
    obtain ⟨i, va, av, rfl, hi, Hno, hI⟩ := hrel
    by_cases hlt : i < s.acts.length
    · have hlt' : (i : Int) < (s.acts.length : Int) := by omega
      have hi0 : (0 : Int) ≤ (i : Int) := by omega
      obtain ⟨hbw, hSw⟩ := HE.out wr hI.be
      obtain ⟨bA', oA', Ci, ci, hA', -, c0, c1, c2, c3, c4, hcc⟩ := (Hh.out wr hbw).at hlt
      have hbit := (Hh.out wr hbw).bit hlt
      rw [HA.out] at hA'
      cases hA'
      have HI := Lib.hid hI
      have Hcc := Lib.hid hcc
      have Hbit := Lib.hid hbit
      have hlen : (s.act i).casts.length ≤ 1000 := hbit.2.1
      have hWs := hI.be.size
      clear hI hcc hbit hbw hSw
      go_upto_region 6 with fail
      have hN : Blk (wr.alloc (.cells #[.int .i64 (s.act i).min, .int .i64 (s.act i).ten, .int .u16 (s.act i).rigs, .slice Ci (s.act i).casts.length ci, .bool (s.act i).spare] 82)) wr.heap.size 82 (AcV.enc ⟨s.act i, Ci, ci⟩) := Blk.new wr 82 (AcV.enc ⟨s.act i, Ci, ci⟩)
      have hal := ext_alloc wr (.cells #[.int .i64 (s.act i).min, .int .i64 (s.act i).ten, .int .u16 (s.act i).rigs, .slice Ci (s.act i).casts.length ci, .bool (s.act i).spare] 82)
      have hI1 := HI.out.ext hal
      have hNa : va.ownBlock ≠ some wr.heap.size := fun e => by have := (HI.out.own.lt e).2; omega
      have Hcc1 := Lib.hid (Hcc.out.ext hal)
      clear c0 c1 c2 c3 c4 hal HI Hcc
      generalize wr.heap.size = N at *
      generalize wr.alloc (.cells #[.int .i64 (s.act i).min, .int .i64 (s.act i).ten, .int .u16 (s.act i).rigs, .slice Ci (s.act i).casts.length ci, .bool (s.act i).spare] 82) = W6 at *
      have CC := Lib.hid (casts_any ⟨s.act i, Ci, ci⟩ pn W6 (by omega) Hcc1.out hlen Hbit.out.2.2)
      unfold AcV.val at CC
      have z0 : W6.cell? ⟨N, 0, none⟩ = _ := hN.cell (i := 0) rfl
      have z1 : W6.cell? ⟨N, 1, none⟩ = _ := hN.cell (i := 1) rfl
      have z2 : W6.cell? ⟨N, 2, none⟩ = _ := hN.cell (i := 2) rfl
      have z3 : W6.cell? ⟨N, 3, none⟩ = _ := hN.cell (i := 3) rfl
      have z4 : W6.cell? ⟨N, 4, none⟩ = _ := hN.cell (i := 4) rfl
      have HI1 := Lib.hid hI1
      clear hI1
      go_wp2_with fail
      refine CC.out.mono ?_; rintro e W7 ⟨⟨vc, rfl, hvc⟩, hb7⟩
      have hI7 := HI1.out.ext hb7
      have hN7 := hN.ext hb7
      have hvc : OwnL W7 W6.heap.size 47 1 encU vc (s.castsW pn i) := hvc
      obtain ⟨C2, d2, rfl, -, -, -⟩ := hvc.cells encU_len
      have hvc := OwnL.up hvc (Nat.zero_le _)
      clear CC hb7 hN HI1 z0 z1 z2 z3 z4 Hcc1
      have z3 : W7.cell? ⟨N, 3, none⟩ = _ := hN7.cell (i := 3) rfl
      have f3 := hN7.free 3
      have HI7 := Lib.hid hI7
      have Hvc := Lib.hid hvc
      clear hI7 hvc
      have HN7 := Lib.hid hN7
      clear hN7
      go_upto_region 7 with fail
      have hI8 := HI7.out.setN (by decide) (by decide) (by decide) hWs hNa HN7.out 3 (.slice C2 (s.castsW pn i).length d2)
      have hN8 := HN7.out.set 3 (.slice C2 (s.castsW pn i).length d2)
      have hvc8 := OwnL.othr Hvc.out HN7.out (by decide) 3 (.slice C2 (s.castsW pn i).length d2)
      change Blk _ N 82 [.int .i64 (s.act i).min, .int .i64 (s.act i).ten, .int .u16 (s.act i).rigs, .slice C2 (s.castsW pn i).length d2, .bool (s.act i).spare] at hN8
      clear z3 f3 HI7 Hvc HN7
      generalize W7.setCell ⟨N, 3, none⟩ (.slice C2 (s.castsW pn i).length d2) = W8 at *
      have hal0 : (s.atTo pn i).length = s.acts.length := Sh.atTo_len i
      have g0 : W8.cell? ⟨G, i, none⟩ = some (.int .i64 ((s.atTo pn i)[i]'(by omega))) := hI8.at'.cell (by simp [show i < (s.atTo pn i).length by omega])
      have g1 := hI8.at'.free i
      have hNG : N ≠ G := by have := hI8.lt.2; omega
      have HI8 := Lib.hid hI8
      have Hvc8 := Lib.hid hvc8
      have HN8 := Lib.hid hN8
      clear hI8 hvc8 hN8
      go_upto_region 8 with fail
      have hI9 := HI8.out.setG (by decide) (by decide) i (-1)
      have hN9 := HN8.out.other (p := ⟨G, i, none⟩) hNG (.int .i64 (-1))
      have hvc9 := OwnL.othr Hvc8.out HI8.out.at' (by decide) i (.int .i64 (-1))
      clear g0 g1 HI8 Hvc8 HN8
      generalize W8.setCell ⟨G, i, none⟩ (.int .i64 (-1)) = W9 at *
      have z3 : W9.cell? ⟨N, 3, none⟩ = _ := hN9.cell (i := 3) rfl
      have Hk := Lib.hid (show s.kepB pn i = decide (0 < (s.castsW pn i).length) from rfl)
      have Hks := Lib.hid (Sh.keptTo_succ (s := s) (p := pn) i)
      have Hat := Lib.hid (Sh.atTo_succ (s := s) (p := pn) hlt)
      have Hni := Lib.hid (show s.newI pn i = if s.kepB pn i = true then ((s.keptTo pn i).length : Int) else -1 from rfl)
      have Hex := Lib.hid (show s.excB pn i = (!s.kepB pn i && !(s.act i).spare) from rfl)
      have hkl := Sh.keptTo_le (s := s) (p := pn) i
      have hel : av.length = (s.keptTo pn i).length := by
        have := congrArg List.length hI9.eq
        simpa using this
      obtain ⟨Ak, ck, rfl⟩ : ∃ Ak ck, u5 = .slice Ak (s.keptTo pn i).length ck := by
        obtain ⟨Ak, ck, e1, -, -, -⟩ := hI9.kp.cells encI_len
        rw [toI_len] at e1
        exact ⟨Ak, ck, e1⟩
      have HI9 := Lib.hid hI9
      have Hvc9 := Lib.hid hvc9
      have HN9 := Lib.hid hN9
      clear hI9 hvc9 hN9
      by_cases hkp : 0 < (s.castsW pn i).length
      · have hk : s.kepB pn i = true := by rw [Hk.out]; simp [hkp]
        have hg : ((s.castsW pn i).length : Int) > 0 := by omega
        have Hks2 : Hid (s.keptTo pn (i + 1) = s.keptTo pn i ++ [i]) := Lib.hid (by rw [Hks.out, if_pos hk])
        have Hat2 : Hid (s.atTo pn (i + 1) = (s.atTo pn i).set i ((s.keptTo pn i).length : Int)) := Lib.hid (by rw [Hat.out, Hni.out, if_pos hk])
        have Hno2 := Lib.hid (show ∀ j, j < i + 1 → s.excB pn j = false from fun j hj => by
          rcases Nat.lt_or_ge j i with h1 | h1
          · exact Hno.out j h1
          · obtain rfl : j = i := by omega
            rw [Hex.out, hk]; rfl)
        clear Hk Hks Hat Hni Hex hk hkp Hno
        have g0 : W9.cell? ⟨G, i, none⟩ = some (.int .i64 (-1)) := HI9.out.at'.cell (by simp [show i < (s.atTo pn i).length by omega])
        have g1 := HI9.out.at'.free i
        go_upto_region 10 with fail
        have hI10 := HI9.out.setG (by decide) (by decide) i ((s.keptTo pn i).length : Int)
        rw [List.set_set, ← Hat2.out] at hI10
        have hN10 := HN9.out.other (p := ⟨G, i, none⟩) hNG (.int .i64 ((s.keptTo pn i).length : Int))
        have hvc10 := OwnL.othr Hvc9.out HI9.out.at' (by decide) i (.int .i64 ((s.keptTo pn i).length : Int))
        clear g0 g1 z3 HI9 Hvc9 HN9 Hat2
        generalize W9.setCell ⟨G, i, none⟩ (.int .i64 ((s.keptTo pn i).length : Int)) = W10 at *
        have z0 : W10.cell? ⟨N, 0, none⟩ = _ := hN10.cell (i := 0) rfl
        have z1 : W10.cell? ⟨N, 1, none⟩ = _ := hN10.cell (i := 1) rfl
        have z2 : W10.cell? ⟨N, 2, none⟩ = _ := hN10.cell (i := 2) rfl
        have z3 : W10.cell? ⟨N, 3, none⟩ = _ := hN10.cell (i := 3) rfl
        have z4 : W10.cell? ⟨N, 4, none⟩ = _ := hN10.cell (i := 4) rfl
        have t0 : W10.cell? ⟨w.heap.size + 1, 0, none⟩ = _ := hI10.tb.cell (i := 0) rfl
        have hal := ext_alloc W10 (.cells #[.int .i64 (s.act i).min, .int .i64 (s.act i).ten, .int .u16 (s.act i).rigs, .slice C2 (s.castsW pn i).length d2, .bool (s.act i).spare] 82)
        have hnew : Blk (W10.alloc (.cells #[.int .i64 (s.act i).min, .int .i64 (s.act i).ten, .int .u16 (s.act i).rigs, .slice C2 (s.castsW pn i).length d2, .bool (s.act i).spare] 82)) W10.heap.size 82 (AcV.enc ⟨s.actW pn i, C2, d2⟩) := Blk.new W10 82 (AcV.enc ⟨s.actW pn i, C2, d2⟩)
        have HI11 := Lib.hid (hI10.ext hal)
        have Hvc11 := Lib.hid (hvc10.ext hal)
        have hsz := hI10.be.size
        have Hel := Lib.hid hel
        clear hI10 hN10 hvc10 hel hal0 hNG hlen Hbit hNa hWs
        go_wp2_with (first | (at_builtin; refine app1 AcV.enc 33 82 5 56 et33 (by decide) (by decide) acv_len acv_one rfl _ _ rfl W5.heap.size va av rfl HI11.out.own W10.heap.size rfl ⟨s.actW pn i, C2, d2⟩ (fun j u hj => hnew.cell hj) (by rw [Hel.out]; omega) (by simp; omega) ?_; intro g' cap' V1 h1 hb1 hg1 hat1) | (at_builtin; refine app1 encI 23 3 1 8 et23 (by decide) (by decide) encI_len encI_one rfl _ _ rfl W5.heap.size _ (toI (s.keptTo pn i)) rfl ((HI11.out.kp.kept hg1 (own_own HI11.out.kp HI11.out.own (by decide))).alloc _) V1.heap.size rfl (i : Int) (encI_cell ((Blk.new V1 3 [.int .i64 (i : Int)]).cell rfl)) (by rw [toI_len]; omega) (by have := hg1.size; simp at *; omega) ?_; intro g2 cap2 V2 h2 hb2 hg2 hat2; have HF := Lib.hid (HI11.out.snoc (x := ⟨s.actW pn i, C2, d2⟩) (i := i) (by decide) (by decide) (by decide) (by decide) (by decide) (by decide) (by decide) Hvc11.out rfl h1 hg1 (ext_alloc V1 _) (by rw [toI_snoc]; exact h2) hg2); have tb3 := blk_grown ((blk_grown HI11.out.tb hg1 (own_lo HI11.out.own HI11.out.lt.1)).ext (ext_alloc V1 (.cells #[.int .i64 (i : Int)] 3))) hg2 (own_lo HI11.out.kp HI11.out.lt.1); have y0 := tb3.cell (i := 0) rfl; have f0 := tb3.free 0; clear tb3 h1 h2 hb1 hb2 hg1 hg2 hat1 hat2))
        go_roundw
        case rel => exact ⟨i + 1, _, _, by go_num, by omega, Hno2, by rw [Hks2.out]; exact HF.out⟩
        case measure => simp [intOf]; omega
      · have hk : s.kepB pn i = false := by rw [Hk.out]; exact decide_eq_false hkp
        have hg : ¬ ((s.castsW pn i).length : Int) > 0 := by omega
        have Hks2 : Hid (s.keptTo pn (i + 1) = s.keptTo pn i) := Lib.hid (by rw [Hks.out, hk]; simp)
        have Hat2 : Hid (s.atTo pn (i + 1) = (s.atTo pn i).set i (-1)) := Lib.hid (by rw [Hat.out, Hni.out, hk]; simp)
        have z4 : W9.cell? ⟨N, 4, none⟩ = _ := HN9.out.cell (i := 4) rfl
        have Hex2 : Hid (s.excB pn i = !(s.act i).spare) := Lib.hid (by rw [Hex.out, hk]; rfl)
        clear Hk Hks Hat Hni Hex hk hkp
        generalize (s.act i).spare = spr at *
        cases spr
        · have Hxi := Lib.hid (HX.out i (Sh.excep_some hlt Hno.out (by rw [Hex2.out]; rfl)))
          clear Hex2 Hks2 Hat2 Hvc9 HN9 hel hal0 hkl Hno hNa hNG hWs hlen Hbit
          go_upto_region 12 with fail
          clear z3 z4 hg
          have hb9 := (HE.out W9 HI9.out.be).1
          have tb := HI9.out.tb
          have y0 : W9.cell? ⟨w.heap.size + 1, 0, none⟩ = _ := tb.cell (i := 0) rfl
          have y1 : W9.cell? ⟨w.heap.size + 1, 1, none⟩ = _ := tb.cell (i := 1) rfl
          have y2 : W9.cell? ⟨w.heap.size + 1, 2, none⟩ = _ := tb.cell (i := 2) rfl
          have y3 : W9.cell? ⟨w.heap.size + 1, 3, none⟩ = _ := tb.cell (i := 3) rfl
          have y4 : W9.cell? ⟨w.heap.size + 1, 4, none⟩ = _ := tb.cell (i := 4) rfl
          have y5 : W9.cell? ⟨w.heap.size + 1, 5, none⟩ = _ := tb.cell (i := 5) rfl
          have y6 : W9.cell? ⟨w.heap.size + 1, 6, none⟩ = _ := tb.cell (i := 6) rfl
          have f0 := tb.free 0
          have f1 := tb.free 1
          have f2 := tb.free 2
          have f3 := tb.free 3
          have f4 := tb.free 4
          have f5 := tb.free 5
          have f6 := tb.free 6
          obtain ⟨hT9, -, hQ⟩ := put7 tb (.slice none 0 0) (.slice none 0 0) (.slice none 0 0) (.slice none 0 0) (.int .i64 0) (.int .i64 0) (.slice none 0 0)
          have HT9 := Lib.hid hT9
          have Hb9 := Lib.hid (hQ w.heap.size w (by omega) hb9)
          clear tb hT9 hQ hb9 HI9
          go_wp2
          generalize (((((((W9.setCell _ _).setCell _ _).setCell _ _).setCell _ _).setCell _ _).setCell _ _).setCell _ _) = V at *
          have k0 : V.cell? ⟨w.heap.size + 1, 0, none⟩ = some _ := HT9.out.cell (i := 0) rfl
          have k1 : V.cell? ⟨w.heap.size + 1, 1, none⟩ = some _ := HT9.out.cell (i := 1) rfl
          have k2 : V.cell? ⟨w.heap.size + 1, 2, none⟩ = some _ := HT9.out.cell (i := 2) rfl
          have k3 : V.cell? ⟨w.heap.size + 1, 3, none⟩ = some _ := HT9.out.cell (i := 3) rfl
          have k4 : V.cell? ⟨w.heap.size + 1, 4, none⟩ = some _ := HT9.out.cell (i := 4) rfl
          have k5 : V.cell? ⟨w.heap.size + 1, 5, none⟩ = some _ := HT9.out.cell (i := 5) rfl
          have k6 : V.cell? ⟨w.heap.size + 1, 6, none⟩ = some _ := HT9.out.cell (i := 6) rfl
          refine bodyPost_ret (v := .tuple #[.agg #[.slice none 0 0, .slice none 0 0, .slice none 0 0, .slice none 0 0, .int .i64 0, .int .i64 0, .slice none 0 0], .slice none 0 0, .int .i64 (i : Int)]) (by simp [results, Try.results59, go_sem, k0, k1, k2, k3, k4, k5, k6]) rfl ?_
          exact ⟨Hxi.out V, Hb9.out⟩
        · have Hno2 := Lib.hid (show ∀ j, j < i + 1 → s.excB pn j = false from fun j hj => by
            rcases Nat.lt_or_ge j i with h1 | h1
            · exact Hno.out j h1
            · obtain rfl : j = i := by omega
              rw [Hex2.out]; rfl)
          clear Hex2 Hvc9 HN9 hel hal0 hkl Hno hNa hNG hWs hlen Hbit
          go_wp2
          go_roundw
          case rel => exact ⟨i + 1, _, _, by go_num, by omega, Hno2, by rw [Hks2.out, Hat2.out]; exact HI9.out⟩
          case measure => simp [intOf]; omega
    · obtain rfl : i = s.acts.length := by omega
      have hexc := Sh.excep_none (s := s) (p := pn) (fun j hj => Hno.out j hj)
      have HYe := Lib.hid (fun q vk W h2 h3 => HY.out hexc q vk W h2 h3)
      obtain ⟨hbw, hSw⟩ := HE.out wr hI.be
      have x6 : wr.cell? ⟨w.heap.size, 6, none⟩ = some (.slice p.B s.before.length p.cB) := hSw.cell (i := 6) rfl
      obtain ⟨PB, hPB⟩ : ∃ PB, p.B = PB := ⟨_, rfl⟩
      rw [hPB] at x6
      have HPB := Lib.hid hPB
      have HI := Lib.hid hI
      clear hexc HX HY hbw hSw hPB hI Hno
      go_upto_block 3 with fail
      clear x6
      go_wp2
      generalize wr = w4 at *
      go_loopw [76] (fun t wq => ∃ (q : Nat) (vb : Value), t = .int .i64 q ∧ q ≤ s.before.length ∧ WoI 82 35 W5 (w.heap.size + 1) G s pn (.slice A1 s.rest.length k1) (.slice A2 s.ins.length k2) (.slice A3 s.outs.length k3) (.int .i64 s.cover) (.int .i64 s.dull) (s.atTo pn s.acts.length) (s.keptTo pn s.acts.length) (s.befTo pn q) va u5 vb av wq) (fun t _ => s.before.length - (intOf t).toNat)
      case atStart => exact ⟨0, _, rfl, by omega, HI.out⟩
      case round =>
        clear HI
        obtain ⟨q, vb, rfl, hq, hI⟩ := hrel
        by_cases hltq : q < s.before.length
        · have hltq' : (q : Int) < (s.before.length : Int) := by omega
          have hq0 : (0 : Int) ≤ (q : Int) := by omega
          obtain ⟨hbw, hSw⟩ := HE.out wr hI.be
          obtain ⟨bb, ob, hB, -, c0, c1⟩ := (Hh.out wr hbw).before.at2 hltq rfl
          rw [HPB.out] at hB
          subst hB
          have hpb := Hok.out.before _ (List.getElem_mem hltq)
          unfold Sh.pairB at hpb
          simp only [Bool.and_eq_true, btw_iff] at hpb
          obtain ⟨Pa, hPa⟩ : ∃ P : Nat, s.before[q].1 = P := ⟨s.before[q].1.toNat, by omega⟩
          obtain ⟨Pb, hPb⟩ : ∃ P : Nat, s.before[q].2 = P := ⟨s.before[q].2.toNat, by omega⟩
          have hPa8 : Pa < s.acts.length := by omega
          have hPb8 : Pb < s.acts.length := by omega
          have hst := Sh.befTo_succ (s := s) (p := pn) hltq
          have hpw : s.pairW pn s.before[q] = if 0 ≤ s.newI pn Pa ∧ 0 ≤ s.newI pn Pb then some (s.newI pn Pa, s.newI pn Pb) else none := by unfold Sh.pairW; rw [hPa, hPb]; rfl
          rw [hpw] at hst
          rw [hPa] at c0
          rw [hPb] at c1
          have Hst := Lib.hid hst
          have HI := Lib.hid hI
          have hWs := hI.be.size
          have hbd1 := Sh.newI_bd (s := s) (p := pn) Pa
          have hbd2 := Sh.newI_bd (s := s) (p := pn) Pb
          have Hga := Lib.hid (show ((s.atTo pn s.acts.length).map (Value.int .i64))[Pa]? = some (.int .i64 (s.newI pn Pa)) from by rw [List.getElem?_map, List.getElem?_eq_getElem (by rw [Sh.atTo_len]; exact hPa8), Sh.atTo_at hPa8 hPa8]; rfl)
          have Hgb := Lib.hid (show ((s.atTo pn s.acts.length).map (Value.int .i64))[Pb]? = some (.int .i64 (s.newI pn Pb)) from by rw [List.getElem?_map, List.getElem?_eq_getElem (by rw [Sh.atTo_len]; exact hPb8), Sh.atTo_at hPb8 hPb8]; rfl)
          have hbl := Sh.befTo_le (s := s) (p := pn) q
          clear hst hpw hI hbw hSw hpb hPa hPb
          generalize s.newI pn Pa = na at *
          generalize s.newI pn Pb = nb at *
          go_upto_region 17 with fail
          have hN : Blk (wr.alloc (.cells #[.int .i64 (Pa : Int), .int .i64 (Pb : Int)] 84)) wr.heap.size 84 [.int .i64 (Pa : Int), .int .i64 (Pb : Int)] := Blk.new wr 84 _
          have hal := ext_alloc wr (.cells #[.int .i64 (Pa : Int), .int .i64 (Pb : Int)] 84)
          have HI1 := Lib.hid (HI.out.ext hal)
          clear HI c0 c1 hal
          generalize wr.heap.size = N at *
          generalize wr.alloc (.cells #[.int .i64 (Pa : Int), .int .i64 (Pb : Int)] 84) = W6 at *
          refine Dr.wp_region_plan 12 [] (.q [0, 1, 2, 3, 4, 5, 6, 7, 8, 9, 10] (.e1 11 .done)) (by kernel_rfl) (by kernel_rfl) ?_
          have hNd := hN.ext (ext_drew W6)
          have HId := Lib.hid (HI1.out.ext (ext_drew W6))
          clear hN HI1
          generalize World.drew _ = V at *
          have q0 := Dr.cell0 (hNd.cell (i := 0) rfl)
          have q1 := Dr.cell0 (hNd.cell (i := 1) rfl)
          have q2 := Dr.cell0 (HId.out.at'.cell Hga.out)
          have q3 := Dr.cell0 (HId.out.at'.cell Hgb.out)
          have ha0 : (0 : Int) ≤ (Pa : Int) := by omega
          have ha1 : (Pa : Int) < (s.acts.length : Int) := by omega
          have hb0 : (0 : Int) ≤ (Pb : Int) := by omega
          have hb1 : (Pb : Int) < (s.acts.length : Int) := by omega
          clear hNd Hga Hgb
          refine Dr.plan_q (l := [_, _, _, _, _, _, _, _, _, _, _]) rfl (fun K hK => ?_)
          iterate 11 (go_big_quiet_step (fail))
          refine wpQuiet_nil (hK _ ?_); clear hK K q0 q1 q2 q3
          have hba := ext_alloc V (.cells #[.int .i64 0, .int .i64 0] 84)
          have hP : Blk (V.alloc (.cells #[.int .i64 0, .int .i64 0] 84)) V.heap.size 84 [.int .i64 0, .int .i64 0] := Blk.new V 84 _
          refine Dr.plan_e rfl (by rfl) (fun K hK => ?_)
          go_wp2_with fail
          refine hK _ _ (.of hba) ?_; clear hK K
          have hVb : vb.ownBlock ≠ some V.heap.size := fun e => by have := (HId.out.ob.lt e).2; omega
          have hVs := HId.out.be.size
          have HIe := Lib.hid (HId.out.ext hba)
          clear HId hba
          generalize V.heap.size = P2 at *
          generalize V.alloc (.cells #[.int .i64 0, .int .i64 0] 84) = V2 at *
          refine Dr.plan_done (tl := [_]) rfl ?_
          have y0 : V2.cell? ⟨P2, 0, none⟩ = _ := hP.cell (i := 0) rfl
          have y1 : V2.cell? ⟨P2, 1, none⟩ = _ := hP.cell (i := 1) rfl
          have f0 := hP.free 0
          have f1 := hP.free 1
          go_upto_region 18 with fail
          have hP1 := hP.set 0 (.int .i64 na)
          have hP2 := hP1.set 1 (.int .i64 nb)
          have hI3 := (HIe.out.setP (by decide) hVs hVb hP 0 (.int .i64 na)).setP (by decide) hVs hVb hP1 1 (.int .i64 nb)
          change Blk _ P2 84 [.int .i64 na, .int .i64 nb] at hP2
          clear y0 y1 f0 f1 hP hP1 HIe
          generalize (V2.setCell ⟨P2, 0, none⟩ (.int .i64 na)).setCell ⟨P2, 1, none⟩ (.int .i64 nb) = V3 at *
          have y0 : V3.cell? ⟨P2, 0, none⟩ = _ := hP2.cell (i := 0) rfl
          have y1 : V3.cell? ⟨P2, 1, none⟩ = _ := hP2.cell (i := 1) rfl
          have HI3 := Lib.hid hI3
          clear hI3
          by_cases hna : 0 ≤ na
          rotate_left
          · have hna' : ¬ na ≥ 0 := hna
            have HN : Hid (s.befTo pn (q + 1) = s.befTo pn q) := Lib.hid (by rw [Hst.out, if_neg (fun h => hna h.1)])
            clear hna
            go_wp2
            go_roundw
            case rel => exact ⟨q + 1, _, by go_num, by omega, by rw [HN.out]; exact HI3.out⟩
            case measure => simp [intOf]; omega
          by_cases hnb : 0 ≤ nb
          rotate_left
          · have hna' : na ≥ 0 := hna
            have hnb' : ¬ nb ≥ 0 := hnb
            have HN : Hid (s.befTo pn (q + 1) = s.befTo pn q) := Lib.hid (by rw [Hst.out, if_neg (fun h => hnb h.2)])
            clear hnb
            go_wp2
            go_roundw
            case rel => exact ⟨q + 1, _, by go_num, by omega, by rw [HN.out]; exact HI3.out⟩
            case measure => simp [intOf]; omega
          have hna' : na ≥ 0 := hna
          have hnb' : nb ≥ 0 := hnb
          have HN : Hid (s.befTo pn (q + 1) = s.befTo pn q ++ [(na, nb)]) := Lib.hid (by rw [Hst.out, if_pos ⟨hna, hnb⟩])
          go_upto_region 19 with fail
          have t6 : V3.cell? ⟨w.heap.size + 1, 6, none⟩ = _ := HI3.out.tb.cell (i := 6) rfl
          have hal := ext_alloc V3 (.cells #[.int .i64 na, .int .i64 nb] 84)
          have hnew : Blk (V3.alloc (.cells #[.int .i64 na, .int .i64 nb] 84)) V3.heap.size 84 (encP (na, nb)) := Blk.new V3 84 (encP (na, nb))
          have HI4 := Lib.hid (HI3.out.ext hal)
          have hsz := HI3.out.be.size
          clear HI3 Hst hna hnb hna' hnb' hal
          go_wp2_with (at_builtin; refine app1 encP 24 84 2 16 et24 (by decide) (by decide) encP_len encP_one rfl _ _ rfl W5.heap.size vb (s.befTo pn q) rfl HI4.out.ob V3.heap.size rfl (na, nb) (fun j u hj => hnew.cell hj) (by omega) (by simp; omega) ?_; intro g' cap' U1 h1 hb1 hg1 hat1; have HF := Lib.hid (HI4.out.pair (by decide) (by decide) (by decide) (by decide) (by decide) h1 hg1); have tb3 := blk_grown HI4.out.tb hg1 (own_lo HI4.out.ob HI4.out.lt.1); have y6 := tb3.cell (i := 6) rfl; have f6 := tb3.free 6; clear tb3 h1 hb1 hg1 hat1)
          go_roundw
          case rel => exact ⟨q + 1, _, by go_num, by omega, by rw [HN.out]; exact HF.out⟩
          case measure => simp [intOf]; omega
        · obtain rfl : q = s.before.length := by omega
          have hl1 : (s.lessW pn).acts.length = av.length := by
            have := congrArg List.length hI.eq
            simp at this
            show ((s.keptTo pn s.acts.length).map (s.actW pn)).length = _
            rw [List.length_map]; exact this.symm
          obtain ⟨Aa, ca, e1, -, -, hca⟩ := hI.own.cells acv_len
          obtain ⟨Ab, cb, e2, -, -, hcb⟩ := hI.ob.cells encP_len
          rw [← hl1] at e1
          have e2 : vb = .slice Ab (s.lessW pn).before.length cb := e2
          have hbw := (HE.out wr hI.be).1
          obtain ⟨g1, g2, g3⟩ := HC.out wr hI.be
          have hkl := Sh.keptTo_le (s := s) (p := pn) s.acts.length
          have hbl := Sh.befTo_le (s := s) (p := pn) s.before.length
          have hsz := hI.be.size
          have hM : ShM wr (s.lessW pn) ⟨av, Aa, A1, A2, A3, Ab, ca, k1, k2, k3, cb⟩ := by
            refine ⟨hI.eq, hca, fun x hx => (hI.cs x hx).cl encU_len, g1.cl encI_len, g2.cl encI_len, g3.cl encI_len, hcb, fun a ha => ?_, ⟨?_, m2, m3, m4, ?_⟩⟩
            · obtain ⟨j, hj, rfl⟩ := List.mem_map.1 ha
              have hjn : j < s.acts.length := by simpa using (List.mem_filter.1 hj).1
              obtain ⟨b1, b2, b3⟩ := (Hh.out wr hbw).bit hjn
              exact ⟨b1, Nat.le_trans castsW_le b2, fun c hc => b3 c (castsW_sub c hc)⟩
            · show ((s.keptTo pn s.acts.length).map (s.actW pn)).length ≤ 1000
              rw [List.length_map]; omega
            · show (s.befTo pn s.before.length).length ≤ 1000
              omega
          have hO : ShO 82 wr (s.lessW pn) ⟨av, Aa, A1, A2, A3, Ab, ca, k1, k2, k3, cb⟩ :=
            ⟨hM, OwnL.up g1 (Nat.zero_le _), by rw [← e1]; exact OwnL.up hI.own (Nat.zero_le _), hI.cs, OwnL.up g2 (Nat.zero_le _), OwnL.up g3 (Nat.zero_le _), by rw [← e2]; exact OwnL.up hI.ob (Nat.zero_le _)⟩
          have HR := Lib.hid (HYe.out _ u5 wr hO (OwnL.up hI.kp Hsz0.out))
          have Hbw := Lib.hid hbw
          subst e1
          subst e2
          have tb := hI.tb
          have y0 : wr.cell? ⟨w.heap.size + 1, 0, none⟩ = some _ := tb.cell (i := 0) rfl
          have f0 := tb.free 0
          have y1 : wr.cell? ⟨w.heap.size + 1, 1, none⟩ = some _ := tb.cell (i := 1) rfl
          have f1 := tb.free 1
          have y2 : wr.cell? ⟨w.heap.size + 1, 2, none⟩ = some _ := tb.cell (i := 2) rfl
          have f2 := tb.free 2
          have y3 : wr.cell? ⟨w.heap.size + 1, 3, none⟩ = some _ := tb.cell (i := 3) rfl
          have f3 := tb.free 3
          have y4 : wr.cell? ⟨w.heap.size + 1, 4, none⟩ = some _ := tb.cell (i := 4) rfl
          have f4 := tb.free 4
          have y5 : wr.cell? ⟨w.heap.size + 1, 5, none⟩ = some _ := tb.cell (i := 5) rfl
          have f5 := tb.free 5
          have y6 : wr.cell? ⟨w.heap.size + 1, 6, none⟩ = some _ := tb.cell (i := 6) rfl
          have f6 := tb.free 6
          have s0 := set_self tb (i := 0) rfl
          have s1 := set_self tb (i := 1) rfl
          have s2 := set_self tb (i := 2) rfl
          have s3 := set_self tb (i := 3) rfl
          have s4 := set_self tb (i := 4) rfl
          have s5 := set_self tb (i := 5) rfl
          have s6 := set_self tb (i := 6) rfl
          clear hI hM hO hl1 hca hcb hbw g1 g2 g3 hkl hbl hsz tb
          go_wp2
          refine bodyPost_ret (v := .tuple #[.agg #[.slice Aa (s.lessW pn).acts.length ca, .slice A1 s.rest.length k1, .slice A2 s.ins.length k2, .slice A3 s.outs.length k3, .int .i64 s.cover, .int .i64 s.dull, .slice Ab (s.lessW pn).before.length cb], u5, .int .i64 (-1)]) (by simp [results, Try.results59, go_sem, y0, y1, y2, y3, y4, y5, y6]) rfl ?_
          exact ⟨HR.out, Hbw.out⟩
end Go.Proofs.Ytcnidhcdkbfpcaa
