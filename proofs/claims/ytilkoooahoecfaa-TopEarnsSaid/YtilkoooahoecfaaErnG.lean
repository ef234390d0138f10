/- Walk: the laws' Tour: a copy of a tour for the program. -/
import Derived.Test.YtilkoooahoecfaaErnE
namespace Go.Er
open Go.RowKit Go.Bs
/-- two tours of one content -/
structure TrEq (t t' : TrV) : Prop where
  days : t'.days = t.days
  shift : t'.shift = t.shift
  size : t'.size = t.size
  tw : t'.tw.map TwV.x = t.tw.map TwV.x
  lg : t'.lg.map LgV.l = t.lg.map LgV.l
theorem getD_at {α : Type} (l : List α) {i : Nat} (h : i < l.length) (d : α) : l.getD i d = l[i] := by rw [List.getD_eq_getElem?_getD, List.getElem?_eq_getElem h]; rfl
theorem getD_map {α β : Type} (f : α → β) (l : List α) (i : Nat) (d : α) : f (l.getD i d) = (l.map f).getD i (f d) := by
  rw [List.getD_eq_getElem?_getD, List.getD_eq_getElem?_getD, List.getElem?_map]
  cases l[i]? <;> rfl
theorem TrEq.x {t t' : TrV} (h : TrEq t t') (i : Nat) : (t'.tw.getD i default).x = (t.tw.getD i default).x := by rw [getD_map TwV.x, getD_map TwV.x, h.tw]
theorem TrEq.l {t t' : TrV} (h : TrEq t t') (i : Nat) : (t'.lg.getD i default).l = (t.lg.getD i default).l := by rw [getD_map LgV.l, getD_map LgV.l, h.lg]
theorem TrEq.nt {t t' : TrV} (h : TrEq t t') : t'.tw.length = t.tw.length := by simpa using congrArg List.length h.tw
theorem TrEq.nl {t t' : TrV} (h : TrEq t t') : t'.lg.length = t.lg.length := by simpa using congrArg List.length h.lg
theorem TrEq.ok {t t' : TrV} (h : TrEq t t') (ht : TrOk t) : TrOk t' := by
  refine ⟨by rw [h.days]; exact ht.days, by rw [h.shift]; exact ht.shift, by rw [h.size]; exact ht.size, by rw [h.nt]; exact ht.n2, by rw [h.nt]; exact ht.n9, by rw [h.nl, h.nt]; exact ht.nl, by rw [h.x]; exact ht.home, fun i h0 hi => ?_, fun i hi => ?_, fun i k hi hk => ?_, fun i hi => ?_⟩
  · rw [h.x, h.days]; exact ht.town i h0 (by rw [← h.nt]; exact hi)
  · rw [h.l, h.nt]; exact ht.row i (by rw [← h.nt]; exact hi)
  · rw [h.l]; exact ht.leg i k (by rw [← h.nt]; exact hi) (by rw [← h.nt]; exact hk)
  · rw [h.l]; exact ht.diag i (by rw [← h.nt]; exact hi)
/-- no list of a tour is long -/
structure TrSm (t : TrV) : Prop where
  town : ∀ v ∈ t.tw, v.x.opn.length ≤ 1000 ∧ v.x.riv.length ≤ 1000
  leg : ∀ v ∈ t.lg, v.l.length ≤ 1000
  nt : t.tw.length ≤ 1000
  nl : t.lg.length ≤ 1000
theorem TrOk.sm {t : TrV} (h : TrOk t) : TrSm t := by
  have hn := h.n9
  refine ⟨fun v hv => ?_, fun v hv => ?_, by omega, by have := h.nl; omega⟩
  · obtain ⟨i, hi, rfl⟩ := List.mem_iff_getElem.1 hv
    have e : t.tw.getD i default = t.tw[i] := by rw [List.getD_eq_getElem?_getD, List.getElem?_eq_getElem hi]; rfl
    by_cases h0 : i = 0
    · subst h0
      have h1 := h.home
      rw [e] at h1
      rw [h1.1, h1.2.2.2.2.2.2.1]
      simp
    · have h1 := h.town i (by omega) hi
      rw [e] at h1
      have := h1.n3
      have := h1.r3
      omega
  · obtain ⟨i, hi, rfl⟩ := List.mem_iff_getElem.1 hv
    have e : t.lg.getD i default = t.lg[i] := by rw [List.getD_eq_getElem?_getD, List.getElem?_eq_getElem hi]; rfl
    have h1 := h.row i (by have := h.nl; omega)
    rw [e] at h1
    omega
/-- a town of the copy: its rows are the call's own -/
structure TwO (W : World) (b : Nat) (v : TwV) : Prop where
  opn : OwnL W b 95 2 encR (.slice v.O v.x.opn.length v.co) v.x.opn
  riv : OwnL W b 95 2 encR (.slice v.R v.x.riv.length v.cr) v.x.riv
theorem TwO.ext {W W' : World} {b : Nat} {v : TwV} (h : TwO W b v) (hb : Below W.heap.size W W') : TwO W' b v := ⟨h.opn.ext hb, h.riv.ext hb⟩
def LgO (W : World) (b : Nat) (v : LgV) : Prop := OwnL W b 99 2 encR (.slice v.A v.l.length v.c) v.l
/-- the copy that is being made: i towns, j rows of legs -/
structure TuJ (w : World) (t : TrV) (i j : Nat) (W : World) : Prop where
  bl : Below w.heap.size w W
  bx : Blk W w.heap.size 25 t.cells
  b2 : Blk W (w.heap.size + 1) 33 [.int .i64 0, .int .i64 0, .int .i64 0, .slice none 0 0, .slice none 0 0]
  sz : w.heap.size + 3 ≤ W.heap.size
  bo : ∃ v3 v4 tw' lg', Blk W (w.heap.size + 2) 33 [.int .i64 t.days, .int .i64 t.shift, .int .i64 t.size, v3, v4] ∧
    (OwnL W (w.heap.size + 3) 97 9 TwV.enc v3 tw' ∧ tw'.map TwV.x = (t.tw.take i).map TwV.x ∧ ∀ x ∈ tw', TwO W (w.heap.size + 3) x) ∧
    (OwnL W (w.heap.size + 3) 98 1 LgV.enc v4 lg' ∧ lg'.map LgV.l = (t.lg.take j).map LgV.l ∧ ∀ x ∈ lg', LgO W (w.heap.size + 3) x)
theorem TuJ.ext {w W W' : World} {t : TrV} {i j : Nat} (h : TuJ w t i j W) (hb : Below W.heap.size W W') : TuJ w t i j W' := by
  obtain ⟨v3, v4, tw', lg', h1, ⟨h2, h3, h4⟩, h5, h6, h7⟩ := h.bo
  exact ⟨ext_trans h.bl hb, h.bx.ext hb, h.b2.ext hb, Nat.le_trans h.sz hb.size, v3, v4, tw', lg', h1.ext hb, ⟨h2.ext hb, h3, fun x hx => (h4 x hx).ext hb⟩, h5.ext hb, h6, fun x hx => OwnL.ext (h7 x hx) hb⟩
theorem OwnL.cl {α : Type} {w : World} {bs : Nat} {e : TypeId} {sz : Nat} {enc : α → List Value} {A : Option Addr} {n c : Nat} {l : List α} (hen : ∀ x, (enc x).length = sz) (ho : OwnL w bs e sz enc (.slice A n c) l) : Cells w A sz enc l := by
  obtain ⟨A, c, e, -, -, hc⟩ := ho.cells hen
  cases e
  exact hc
theorem OwnL.up {α : Type} {w : World} {base b2 : Nat} {e : TypeId} {sz : Nat} {enc : α → List Value} {v : Value} {l : List α} (h : OwnL w base e sz enc v l) (hb : b2 ≤ base) : OwnL w b2 e sz enc v l := by
  obtain ⟨h1, h2⟩ := h
  refine ⟨h1, h2.imp id ?_⟩
  rintro ⟨g, cap, cur, h3, h4, h5⟩
  exact ⟨g, cap, cur, h3, Nat.le_trans hb h4, h5⟩
theorem own_own {α β : Type} {w : World} {b1 b2 : Nat} {e1 e2 : TypeId} {s1 s2 : Nat} {n1 : α → List Value} {n2 : β → List Value} {v1 v2 : Value} {l1 : List α} {l2 : List β} (h1 : OwnL w b1 e1 s1 n1 v1 l1) (h2 : OwnL w b2 e2 s2 n2 v2 l2) (hne : e1 ≠ e2) : v1.ownBlock = none ∨ v1.ownBlock ≠ v2.ownBlock := by
  rcases h1.2 with ⟨rfl, -⟩ | ⟨g, cap, cur, rfl, -, hg, -⟩
  · exact .inl rfl
  · right
    rcases h2.2 with ⟨rfl, -⟩ | ⟨g', cap', cur', rfl, -, hg', -⟩
    · simp [Value.ownBlock]
    · simp only [Value.ownBlock, ne_eq, Option.some.injEq]
      rintro rfl
      rw [hg] at hg'
      simp only [Option.some.injEq, Obj.cells.injEq] at hg'
      exact hne hg'.2.1
theorem lgv_one (v : LgV) : ∀ u ∈ v.enc, u.oneCell' = true := by
  intro u hu
  simp [LgV.enc] at hu
  subst hu
  rfl
theorem TuJ.push_town {w : World} {t : TrV} {i j : Nat} {V V3 V9 : World} {v3 v4 v9 : Value} {tw' : List TwV} {lg' : List LgV} (hJ : TuJ w t i j V) (hb : Below V.heap.size V V3) (hO : Blk V (w.heap.size + 2) 33 [.int .i64 t.days, .int .i64 t.shift, .int .i64 t.size, v3, v4])
    (h2 : OwnL V (w.heap.size + 3) 97 9 TwV.enc v3 tw') (h3 : tw'.map TwV.x = (t.tw.take i).map TwV.x) (h4 : ∀ x ∈ tw', TwO V (w.heap.size + 3) x)
    (h5 : OwnL V (w.heap.size + 3) 98 1 LgV.enc v4 lg' ∧ lg'.map LgV.l = (t.lg.take j).map LgV.l ∧ ∀ x ∈ lg', LgO V (w.heap.size + 3) x)
    {y z : TwV} (hz : t.tw.take (i + 1) = t.tw.take i ++ [z]) (hy : y.x = z.x) (hyO : TwO V3 (w.heap.size + 3) y) (hown : OwnL V9 (w.heap.size + 3) 97 9 TwV.enc v9 (tw' ++ [y])) (hgr : V3.grownBy V9 v3.ownBlock) (hbl : Below (w.heap.size + 3) V3 V9) :
    TuJ w t (i + 1) j (V9.setCell ⟨w.heap.size + 2, 3, none⟩ v9) := by
  have e3 := h2.ext hb
  have hk : ∀ {α : Type} {e sz : Nat} {enc : α → List Value} {v : Value} {l : List α}, OwnL V3 (w.heap.size + 3) e sz enc v l → e ≠ 97 → OwnL (V9.setCell ⟨w.heap.size + 2, 3, none⟩ v9) (w.heap.size + 3) e sz enc v l := fun h he =>
    (h.kept hgr (own_own h e3 he)).setCell (by simp) _
  have hs := hJ.sz
  have hs3 := hb.size
  have hs9 := hbl.size
  refine ⟨?_, ?_, ?_, ?_, v9, v4, tw' ++ [y], lg', ?_, ⟨?_, ?_, ?_⟩, ?_, h5.2.1, ?_⟩
  · exact ((ext_trans hJ.bl hb).trans (hbl.mono (by omega))).setCell (by simp) _
  · exact (((hJ.bx.ext hb).under hbl (by omega))).other (by simp) _
  · exact (((hJ.b2.ext hb).under hbl (by omega))).other (by simp) _
  · simp; omega
  · exact ((hO.ext hb).under hbl (by omega)).set 3 v9
  · exact hown.setCell (by simp) _
  · rw [List.map_append, h3, hz, List.map_append, List.map_singleton, List.map_singleton, hy]
  · intro x hx
    rcases List.mem_append.1 hx with hx | hx
    · exact ⟨hk ((h4 x hx).opn.ext hb) (by decide), hk ((h4 x hx).riv.ext hb) (by decide)⟩
    · rw [List.mem_singleton.1 hx]
      exact ⟨hk hyO.opn (by decide), hk hyO.riv (by decide)⟩
  · exact hk (h5.1.ext hb) (by decide)
  · intro x hx
    exact hk (OwnL.ext (h5.2.2 x hx) hb) (by decide)
theorem TuJ.push_leg {w : World} {t : TrV} {i j : Nat} {V V3 V9 : World} {v3 v4 v9 : Value} {tw' : List TwV} {lg' : List LgV} (hJ : TuJ w t i j V) (hb : Below V.heap.size V V3) (hO : Blk V (w.heap.size + 2) 33 [.int .i64 t.days, .int .i64 t.shift, .int .i64 t.size, v3, v4])
    (h4 : OwnL V (w.heap.size + 3) 97 9 TwV.enc v3 tw' ∧ tw'.map TwV.x = (t.tw.take i).map TwV.x ∧ ∀ x ∈ tw', TwO V (w.heap.size + 3) x)
    (h5 : OwnL V (w.heap.size + 3) 98 1 LgV.enc v4 lg') (h6 : lg'.map LgV.l = (t.lg.take j).map LgV.l) (h7 : ∀ x ∈ lg', LgO V (w.heap.size + 3) x)
    {y z : LgV} (hz : t.lg.take (j + 1) = t.lg.take j ++ [z]) (hy : y.l = z.l) (hyO : LgO V3 (w.heap.size + 3) y) (hown : OwnL V9 (w.heap.size + 3) 98 1 LgV.enc v9 (lg' ++ [y])) (hgr : V3.grownBy V9 v4.ownBlock) (hbl : Below (w.heap.size + 3) V3 V9) :
    TuJ w t i (j + 1) (V9.setCell ⟨w.heap.size + 2, 4, none⟩ v9) := by
  have e3 := h5.ext hb
  have hk : ∀ {α : Type} {e sz : Nat} {enc : α → List Value} {v : Value} {l : List α}, OwnL V3 (w.heap.size + 3) e sz enc v l → e ≠ 98 → OwnL (V9.setCell ⟨w.heap.size + 2, 4, none⟩ v9) (w.heap.size + 3) e sz enc v l := fun h he =>
    (h.kept hgr (own_own h e3 he)).setCell (by simp) _
  have hs := hJ.sz
  have hs3 := hb.size
  have hs9 := hbl.size
  refine ⟨?_, ?_, ?_, ?_, v3, v9, tw', lg' ++ [y], ?_, ⟨?_, h4.2.1, ?_⟩, ?_, ?_, ?_⟩
  · exact ((ext_trans hJ.bl hb).trans (hbl.mono (by omega))).setCell (by simp) _
  · exact (((hJ.bx.ext hb).under hbl (by omega))).other (by simp) _
  · exact (((hJ.b2.ext hb).under hbl (by omega))).other (by simp) _
  · simp; omega
  · exact ((hO.ext hb).under hbl (by omega)).set 4 v9
  · exact hk (h4.1.ext hb) (by decide)
  · intro x hx
    exact ⟨hk ((h4.2.2 x hx).opn.ext hb) (by decide), hk ((h4.2.2 x hx).riv.ext hb) (by decide)⟩
  · exact hown.setCell (by simp) _
  · rw [List.map_append, h6, hz, List.map_append, List.map_singleton, List.map_singleton, hy]
  · intro x hx
    rcases List.mem_append.1 hx with hx | hx
    · exact hk (OwnL.ext (h7 x hx) hb) (by decide)
    · rw [List.mem_singleton.1 hx]
      exact hk hyO (by decide)
end Go.Er
namespace Go.Proofs.Ytilkoooahoecfaa.Er
open Go.RowKit Go.Bs Go.Pl Go.Sort Go.Er
theorem et30 : ElemT Try.prog 30 97 9 104 := ElemT.mk (z := .agg #[.slice none 0 0, .int .i64 0, .int .i64 0, .int .i64 0, .int .i64 0, .int .i64 0, .slice none 0 0, .int .i64 0, .int .i64 0]) Try.underlying30 (by kernel_rfl) rfl
theorem et31 : ElemT Try.prog 31 98 1 24 := ElemT.mk (z := .slice none 0 0) Try.underlying31 (by kernel_rfl) rfl
theorem et98 : ElemT Try.prog 98 99 2 16 := ElemT.mk (z := .agg #[.int .i64 0, .int .i64 0]) Try.underlying98 (by kernel_rfl) rfl
set_option maxRecDepth 100000 in
set_option maxHeartbeats 4000000 in
theorem Tour_any (t : TrV) (w : World) (hM : TrM w t) (hs : TrSm t) : Calls Try.prog 9 #[t.val] w fun e w' => ∃ t', e = .returned t'.val ∧ TrM w' t' ∧ TrEq t t' ∧ t'.tw.length ≤ t'.ca ∧ Below w.heap.size w w' := by
  have hM0 := Lib.hid hM
  have Hs := Lib.hid hs
  have hJ0 : TuJ w t 0 0 (((w.alloc (.cells t.cells.toArray 25)).alloc (.cells #[.int .i64 0, .int .i64 0, .int .i64 0, .slice none 0 0, .slice none 0 0] 33)).alloc (.cells #[.int .i64 t.days, .int .i64 t.shift, .int .i64 t.size, .slice none 0 0, .slice none 0 0] 33)) := by
    have b1 := ext_alloc w (.cells t.cells.toArray 25)
    have b2 := ext_alloc (w.alloc (.cells t.cells.toArray 25)) (.cells #[.int .i64 0, .int .i64 0, .int .i64 0, .slice none 0 0, .slice none 0 0] 33)
    have b3 := ext_alloc ((w.alloc (.cells t.cells.toArray 25)).alloc (.cells #[.int .i64 0, .int .i64 0, .int .i64 0, .slice none 0 0, .slice none 0 0] 33)) (.cells #[.int .i64 t.days, .int .i64 t.shift, .int .i64 t.size, .slice none 0 0, .slice none 0 0] 33)
    have k1 := Blk.new w 25 t.cells
    have k2 := Blk.new (w.alloc (.cells t.cells.toArray 25)) 33 [.int .i64 0, .int .i64 0, .int .i64 0, .slice none 0 0, .slice none 0 0]
    have k3 := Blk.new ((w.alloc (.cells t.cells.toArray 25)).alloc (.cells #[.int .i64 0, .int .i64 0, .int .i64 0, .slice none 0 0, .slice none 0 0] 33)) 33 [.int .i64 t.days, .int .i64 t.shift, .int .i64 t.size, .slice none 0 0, .slice none 0 0]
    have e1 : (w.alloc (.cells t.cells.toArray 25)).heap.size = w.heap.size + 1 := by simp
    have e2 : ((w.alloc (.cells t.cells.toArray 25)).alloc (.cells #[.int .i64 0, .int .i64 0, .int .i64 0, .slice none 0 0, .slice none 0 0] 33)).heap.size = w.heap.size + 2 := by simp
    rw [e1] at k2
    rw [e2] at k3
    exact ⟨ext_trans (ext_trans b1 b2) b3, (k1.ext b2).ext b3, k2.ext b3, by simp, _, _, [], [], k3, ⟨OwnL.nil, by simp, by simp⟩, OwnL.nil, by simp, by simp⟩
  have n1 := hs.nt
  have n2 := hs.nl
  clear hM hs
  unfold TrV.val
  unfold TrV.cells at hJ0
  go_enter Try.func9, Try.ntmps9
  go_upto_region 2 with fail
  change TuJ w t 0 0 (((w.alloc (.cells #[.int .i64 t.days, .int .i64 t.shift, .int .i64 t.size, .slice t.A t.tw.length t.ca, .slice t.B t.lg.length t.cb] 25)).alloc _).alloc _) at hJ0
  generalize ((w.alloc (.cells #[.int .i64 t.days, .int .i64 t.shift, .int .i64 t.size, .slice t.A t.tw.length t.ca, .slice t.B t.lg.length t.cb] 25)).alloc (.cells #[.int .i64 0, .int .i64 0, .int .i64 0, .slice none 0 0, .slice none 0 0] 33)).alloc (.cells #[.int .i64 t.days, .int .i64 t.shift, .int .i64 t.size, .slice none 0 0, .slice none 0 0] 33) = W1 at *
  simp only [Nat.add_assoc, Nat.reduceAdd]
  generalize hnt : t.tw.length = nt at *
  generalize hnl : t.lg.length = nl at *
  have Hnt := Lib.hid hnt
  have Hnl := Lib.hid hnl
  have Hcells := Lib.hid (show t.cells = [.int .i64 t.days, .int .i64 t.shift, .int .i64 t.size, .slice t.A nt t.ca, .slice t.B nl t.cb] by unfold TrV.cells; rw [hnt, hnl])
  clear hnt hnl
  go_upto_block 0 with fail
  go_cut [4, 5] from 9 (fun _ _ wc => TuJ w t nt 0 wc)
  case first =>
    go_wp2
    go_loopw [4, 5] (fun ii _ wr => ∃ i : Nat, ii = .int .i64 i ∧ i ≤ nt ∧ TuJ w t i 0 wr) (fun ii _ _ => nt - (intOf ii).toNat)
    case atStart => exact ⟨0, rfl, by omega, hJ0⟩
    case round =>
      obtain ⟨i, rfl, hi, hJ⟩ := hrel
      have hX := hJ.bx
      rw [Hcells.out] at hX
      have x3 : wr.cell? ⟨w.heap.size, 3, none⟩ = _ := hX.cell (i := 3) rfl
      by_cases hlt : i < nt
      · have hin : (i : Int) < (nt : Int) := by omega
        have hi0 : (0 : Int) ≤ (i : Int) := by omega
        have hiT : i < t.tw.length := by rw [Hnt.out]; exact hlt
        obtain ⟨b, off, hA, hc⟩ := tw_at (hM0.out.tw.ext hJ.bl) hiT
        rw [hA] at x3
        have HA := Lib.hid hA
        clear hA
        have r0 := hc 0 _ rfl
        have r1 := hc 1 _ rfl
        have r2 := hc 2 _ rfl
        have r3 := hc 3 _ rfl
        have r4 := hc 4 _ rfl
        have r5 := hc 5 _ rfl
        have r6 := hc 6 _ rfl
        have r7 := hc 7 _ rfl
        have r8 := hc 8 _ rfl
        simp only [Nat.add_zero] at r0
        have hvM := hM0.out.town _ (List.getElem_mem hiT)
        have hvS := Hs.out.town _ (List.getElem_mem hiT)
        have Hs2 := Lib.hid (List.take_succ_eq_append_getElem hiT)
        clear hc
        generalize t.tw[i] = v at *
        obtain ⟨⟨opn, slo, shi, pay, lot, rent, riv, cold, cut⟩, O, co, R, cr⟩ := v
        simp only at r0 r1 r2 r3 r4 r5 r6 r7 r8 hvS
        have CO := Lib.hid (fun V (hV : Below w.heap.size w V) => Ranges_any O opn.length co opn V rfl (by omega) (hvM.opn.ext hV))
        have CR := Lib.hid (fun V (hV : Below w.heap.size w V) => Ranges_any R riv.length cr riv V rfl (by omega) (hvM.riv.ext hV))
        clear hvM
        obtain ⟨ho9, hr9⟩ := hvS
        generalize hno : opn.length = no at *
        generalize hnr : riv.length = nr at *
        have Hno := Lib.hid hno
        have Hnr := Lib.hid hnr
        clear hno hnr
        go_upto_region 6 with fail
        have hJ5 := hJ.ext (ext_alloc wr (.cells #[.slice O no co, .int .i64 slo, .int .i64 shi, .int .i64 pay, .int .i64 lot, .int .i64 rent, .slice R nr cr, .int .i64 cold, .int .i64 cut] 53))
        have hY := Blk.new wr 53 [.slice O no co, .int .i64 slo, .int .i64 shi, .int .i64 pay, .int .i64 lot, .int .i64 rent, .slice R nr cr, .int .i64 cold, .int .i64 cut]
        change Blk (wr.alloc (.cells #[.slice O no co, .int .i64 slo, .int .i64 shi, .int .i64 pay, .int .i64 lot, .int .i64 rent, .slice R nr cr, .int .i64 cold, .int .i64 cut] 53)) _ _ _ at hY
        have hYl : wr.heap.size < (wr.alloc (.cells #[.slice O no co, .int .i64 slo, .int .i64 shi, .int .i64 pay, .int .i64 lot, .int .i64 rent, .slice R nr cr, .int .i64 cold, .int .i64 cut] 53)).heap.size := hY.lt
        clear r0 r1 r2 r3 r4 r5 r6 r7 r8 x3 hX hJ
        generalize hw5 : wr.alloc (.cells #[.slice O no co, .int .i64 slo, .int .i64 shi, .int .i64 pay, .int .i64 lot, .int .i64 rent, .slice R nr cr, .int .i64 cold, .int .i64 cut] 53) = W5 at *
        generalize hyb : wr.heap.size = yb at *
        clear hw5 hyb
        refine Dr.wp_region_plan 27 [] (.q [0, 1, 2, 3, 5, 6, 7, 8, 9, 10, 11, 12, 13, 14, 15, 16, 17, 18, 19, 21, 22, 23, 24] (.e1 4 (.e1 20 (.q [25] (.e1 26 .done))))) (by kernel_rfl) (by kernel_rfl) ?_
        have hJd := hJ5.ext (ext_drew W5)
        have hYd := hY.ext (ext_drew W5)
        clear hJ5 hY hYl
        generalize World.drew W5 = V at *
        obtain ⟨v3, v4, tw', lg', hO, ⟨h2, h3, h4⟩, h5⟩ := hJd.bo
        have o3 := Dr.cell0 (hO.cell (i := 3) rfl)
        have q0 := Dr.cell0 (hYd.cell (i := 0) rfl)
        have q1 := Dr.cell0 (hYd.cell (i := 1) rfl)
        have q2 := Dr.cell0 (hYd.cell (i := 2) rfl)
        have q3 := Dr.cell0 (hYd.cell (i := 3) rfl)
        have q4 := Dr.cell0 (hYd.cell (i := 4) rfl)
        have q5 := Dr.cell0 (hYd.cell (i := 5) rfl)
        have q6 := Dr.cell0 (hYd.cell (i := 6) rfl)
        have q7 := Dr.cell0 (hYd.cell (i := 7) rfl)
        have q8 := Dr.cell0 (hYd.cell (i := 8) rfl)
        with_reducible refine Dr.plan_q (l := [_, _, _, _, _, _, _, _, _, _, _, _, _, _, _, _, _, _, _, _, _, _, _]) (by with_unfolding_all exact rfl) (fun K hK => ?_)
        iterate 23 (go_big_quiet_step (fail))
        refine wpQuiet_nil (hK _ ?_); clear hK K
        clear o3 q0 q1 q2 q3 q4 q5 q6 q7 q8
        refine Dr.plan_e rfl (by rfl) (fun K hK => ?_)
        go_wp2_with fail
        refine (CO.out _ hJd.bl).mono ?_; rintro e V1 ⟨u1, rfl, hu1, hb1⟩
        refine hK _ _ (.of hb1) ?_; clear hK K CO
        obtain ⟨A1, c1, rfl, -⟩ := hu1.cells encR_len
        refine Dr.plan_e rfl (by rfl) (fun K hK => ?_)
        go_wp2_with fail
        refine (CR.out _ (ext_trans hJd.bl hb1)).mono ?_; rintro e V2 ⟨u2, rfl, hu2, hb2⟩
        refine hK _ _ (.of hb2) ?_; clear hK K CR
        obtain ⟨A2, c2, rfl, -⟩ := hu2.cells encR_len
        with_reducible refine Dr.plan_q (l := [_]) (by with_unfolding_all exact rfl) (fun K hK => ?_)
        iterate 1 (go_big_quiet_step (fail))
        refine wpQuiet_nil (hK _ ?_); clear hK K
        refine Dr.plan_e rfl (by rfl) (fun K hK => ?_)
        go_wp2_with fail
        refine hK _ _ (Dr.Bel.of (ext_alloc _ _)) ?_; clear hK K
        have hsz := hJd.sz
        have g1 := OwnL.up ((hu1.ext hb2).alloc (.cells #[.slice A1 opn.length c1, .int .i64 slo, .int .i64 shi, .int .i64 pay, .int .i64 lot, .int .i64 rent, .slice A2 riv.length c2, .int .i64 cold, .int .i64 cut] 97)) hsz
        have g2 := OwnL.up (hu2.alloc (.cells #[.slice A1 opn.length c1, .int .i64 slo, .int .i64 shi, .int .i64 pay, .int .i64 lot, .int .i64 rent, .slice A2 riv.length c2, .int .i64 cold, .int .i64 cut] 97)) (Nat.le_trans hsz hb1.size)
        have hb3 := (ext_trans hb1 hb2).trans ((ext_alloc V2 (.cells #[.slice A1 opn.length c1, .int .i64 slo, .int .i64 shi, .int .i64 pay, .int .i64 lot, .int .i64 rent, .slice A2 riv.length c2, .int .i64 cold, .int .i64 cut] 97)).mono (ext_trans hb1 hb2).size)
        have nw := Blk.new V2 97 [.slice A1 opn.length c1, .int .i64 slo, .int .i64 shi, .int .i64 pay, .int .i64 lot, .int .i64 rent, .slice A2 riv.length c2, .int .i64 cold, .int .i64 cut]
        change Blk (V2.alloc (.cells #[.slice A1 opn.length c1, .int .i64 slo, .int .i64 shi, .int .i64 pay, .int .i64 lot, .int .i64 rent, .slice A2 riv.length c2, .int .i64 cold, .int .i64 cut] 97)) _ _ _ at nw
        have hl3 : tw'.length ≤ 1000000 := by have := congrArg List.length h3; rw [List.length_map, List.length_map, List.length_take] at this; omega
        have hv2 := (ext_trans hb1 hb2).size
        have HP := Lib.hid (fun V9 v9 (hown : OwnL V9 (w.heap.size + 3) 97 9 TwV.enc v9 (tw' ++ [⟨⟨opn, slo, shi, pay, lot, rent, riv, cold, cut⟩, A1, c1, A2, c2⟩])) hgr hbl => hJd.push_town hb3 hO h2 h3 h4 h5 (V9 := V9) (v9 := v9) (y := ⟨⟨opn, slo, shi, pay, lot, rent, riv, cold, cut⟩, A1, c1, A2, c2⟩) Hs2.out rfl ⟨g1, g2⟩ hown hgr hbl)
        have h2n := (h2.ext (ext_trans hb1 hb2))
        have hO3 := hO.ext hb3
        have hsz2 : w.heap.size + 3 ≤ V2.heap.size := by omega
        clear g1 g2 h3 h4 h5 hJd hu1 hu2 hb1 hb2 hb3 hv2 h2 hO hYd
        refine Dr.plan_done (tl := [_, _, _]) rfl ?_
        go_wp2_with (at_builtin; refine app1 TwV.enc 30 97 9 104 et30 (by decide) (by decide) TwV.len TwV.one rfl _ _ rfl (w.heap.size + 3) _ tw' rfl (h2n.alloc _) V2.heap.size rfl ⟨⟨opn, slo, shi, pay, lot, rent, riv, cold, cut⟩, A1, c1, A2, c2⟩ (fun j u hj => nw.cell hj) hl3 (by simp; omega) ?_; intro g' cap' V9 hown' hb7 hgr7 _; have hO9 := hO3.under hb7 (by omega); have o9 : V9.cell? ⟨w.heap.size + 2, 3, none⟩ = some v3 := hO9.cell rfl; have f9 := hO9.free 3)
        have HR := Lib.hid (HP.out _ _ hown' hgr7 hb7)
        clear hown' hb7 hgr7
        go_roundw
        case rel => exact ⟨i + 1, by go_num, by omega, HR.out⟩
        case measure => simp [intOf]; omega
      · obtain rfl : i = nt := by omega
        go_wp2
        go_meet
        case rel => exact hJ
  case rest =>
    generalize wc = Wa at *
    have hJa := hcut
    clear hcut
    go_upto_block 2 with fail
    go_wp2
    go_loopw [6, 7, 8] (fun jj _ _ wr => ∃ j : Nat, jj = .int .i64 j ∧ j ≤ nl ∧ TuJ w t nt j wr) (fun jj _ _ _ => nl - (intOf jj).toNat)
    case atStart => exact ⟨0, rfl, by omega, hJa⟩
    case round =>
      obtain ⟨j, rfl, hj, hJ⟩ := hrel
      generalize wr = w4 at *
      have hX := hJ.bx
      rw [Hcells.out] at hX
      have x4 : w4.cell? ⟨w.heap.size, 4, none⟩ = _ := hX.cell (i := 4) rfl
      by_cases hlt : j < nl
      · have hjn : (j : Int) < (nl : Int) := by omega
        have hj0 : (0 : Int) ≤ (j : Int) := by omega
        have hjT : j < t.lg.length := by rw [Hnl.out]; exact hlt
        obtain ⟨b, off, hA, -, r0⟩ := (hM0.out.lg.ext hJ.bl).at1 hjT rfl
        have hvM := hM0.out.leg _ (List.getElem_mem hjT)
        have hvS := Hs.out.leg _ (List.getElem_mem hjT)
        have Hs2 := Lib.hid (List.take_succ_eq_append_getElem hjT)
        generalize t.lg[j] = v at *
        obtain ⟨l, L, cl⟩ := v
        simp only at r0 hvM hvS
        generalize hnr : l.length = nr at *
        have Hnr := Lib.hid hnr
        clear hnr
        rw [hA] at x4
        have HA := Lib.hid hA
        clear hA hX
        go_wp2
        go_loopw [7, 8] (fun v kk wr => ∃ k : Nat, kk = .int .i64 k ∧ k ≤ nr ∧ OwnL wr w4.heap.size 99 2 encR v (l.take k) ∧ Below w4.heap.size w4 wr) (fun _ kk _ => nr - (intOf kk).toNat)
        case atStart => exact ⟨0, rfl, by omega, by rw [List.take_zero]; exact OwnL.nil, Below.refl _ _⟩
        case round =>
          obtain ⟨k, rfl, hk, ho, hb⟩ := hrel
          have hJr := hJ.ext hb
          have hX := hJr.bx
          rw [Hcells.out, HA.out] at hX
          have x4' : wr.cell? ⟨w.heap.size, 4, none⟩ = _ := hX.cell (i := 4) rfl
          have r0' := cell_ext r0 hb
          by_cases hlt2 : k < nr
          · have hk1 : k < l.length := by rw [Hnr.out]; exact hlt2
            obtain ⟨b2, off2, rfl, -, c0, c1⟩ := at_rng (hvM.1.ext hJr.bl) hk1
            have Hs3 := Lib.hid (List.take_succ_eq_append_getElem hk1)
            rw [getD_at _ hk1] at c0 c1
            generalize l[k] = z at *
            obtain ⟨x, y⟩ := z
            simp only at c0 c1
            have hkn : (k : Int) < (nr : Int) := by omega
            have hk0 : (0 : Int) ≤ (k : Int) := by omega
            have htl : (l.take k).length ≤ 1000000 := by rw [List.length_take]; omega
            go_upto_region 14 with fail
            refine Dr.wp_region_plan 21 [] (.q [0, 1, 2, 3, 4, 5, 6, 7, 8, 9, 10, 11, 12, 13, 14, 15, 16, 17, 18, 19] (.e1 20 .done)) (by kernel_rfl) (by kernel_rfl) ?_
            have hbd := hb.drew
            have hod := ho.drew
            have q4 := Dr.cell0 (cell_ext x4' (ext_drew wr))
            have q0 := Dr.cell0 (cell_ext r0' (ext_drew wr))
            have q1 := Dr.cell0 (cell_ext c0 (ext_drew wr))
            have q2 := Dr.cell0 (cell_ext c1 (ext_drew wr))
            clear x4 x4' r0' c0 c1 hJr hX hb ho
            generalize World.drew wr = V at *
            have hVw := hbd.size
            with_reducible refine Dr.plan_q (l := [_, _, _, _, _, _, _, _, _, _, _, _, _, _, _, _, _, _, _, _]) (by with_unfolding_all exact rfl) (fun K hK => ?_)
            iterate 20 (go_big_quiet_step (fail))
            refine wpQuiet_nil (hK _ ?_); clear hK K
            refine Dr.plan_e rfl (by rfl) (fun K hK => ?_)
            go_wp2_with fail
            refine hK _ _ (Dr.Bel.of (ext_alloc _ _)) ?_; clear hK K
            have nw := Blk.new V 99 [.int .i64 x, .int .i64 y]
            have hx1 := ext_alloc V (.cells #[.int .i64 x, .int .i64 y] 99)
            have hbx := hbd.alloc hbd.size (.cells #[.int .i64 x, .int .i64 y] 99)
            refine Dr.plan_done (tl := [_, _]) rfl ?_
            go_wp2_with (at_builtin; refine app1 encR 98 99 2 16 et98 (by decide) (by decide) encR_len encR_one rfl _ _ rfl w4.heap.size _ (l.take k) rfl (hod.alloc _) V.heap.size rfl (x, y) (fun j u hj => nw.cell hj) htl (by have := hx1.size; omega) ?_; intro g' cap' w' hown' hb3 _ _)
            rw [← Hs3.out, List.length_take] at hown'
            have Hown := Lib.hid hown'
            have hb4 := hbx.trans hb3
            clear hb3 nw hown' hod
            go_roundw
            case rel => exact ⟨k + 1, by go_num, by omega, Hown.out, hb4⟩
            case measure => simp [intOf]; omega
          · obtain rfl : k = nr := by omega
            rw [List.take_of_length_le (by rw [Hnr.out]; exact Nat.le_refl _)] at ho
            obtain ⟨A9, c9, rfl, -⟩ := ho.cells encR_len
            obtain ⟨v3, v4, tw', lg', hO, h4, h5, h6, h7⟩ := hJr.bo
            have hsz := hJr.sz
            have hyO := OwnL.up (ho.alloc (.cells #[.slice A9 l.length c9] 98)) (Nat.le_trans hJ.sz (Nat.le_refl _))
            have hb3 := ext_alloc wr (.cells #[.slice A9 l.length c9] 98)
            have nw := Blk.new wr 98 [.slice A9 l.length c9]
            have hl6 : lg'.length ≤ 1000000 := by have := congrArg List.length h6; rw [List.length_map, List.length_map, List.length_take] at this; omega
            have HP := Lib.hid (fun V9 v9 (hown : OwnL V9 (w.heap.size + 3) 98 1 LgV.enc v9 (lg' ++ [⟨l, A9, c9⟩])) hgr hbl => hJr.push_leg hb3 hO h4 h5 h6 h7 (V9 := V9) (v9 := v9) (y := ⟨l, A9, c9⟩) Hs2.out rfl hyO hown hgr hbl)
            have hO3 := hO.ext hb3
            have o4 : wr.cell? ⟨w.heap.size + 2, 4, none⟩ = some v4 := hO.cell rfl
            have h5n := h5.alloc (.cells #[.slice A9 l.length c9] 98)
            clear h4 h5 h6 h7 hJr ho hb3 hyO hO hb
            go_wp2_with (at_builtin; refine app1 LgV.enc 31 98 1 24 et31 (by decide) (by decide) LgV.len lgv_one rfl _ _ rfl (w.heap.size + 3) _ lg' rfl h5n wr.heap.size rfl ⟨l, A9, c9⟩ (fun j u hj => nw.cell hj) hl6 (by simp; omega) ?_; intro g' cap' V9 hown' hb7 hgr7 _; have hO9 := hO3.under hb7 (by omega); have o9 : V9.cell? ⟨w.heap.size + 2, 4, none⟩ = some v4 := hO9.cell rfl; have f9 := hO9.free 4)
            have HR := Lib.hid (HP.out _ _ hown' hgr7 hb7)
            clear hown' hb7 hgr7
            go_roundw
            case rel => exact ⟨j + 1, by go_num, by omega, HR.out⟩
            case measure => simp [intOf]; omega
      · obtain rfl : j = nl := by omega
        obtain ⟨v3, v4, tw', lg', hO, ⟨h2, h3, h4⟩, h5, h6, h7⟩ := hJ.bo
        obtain ⟨A3, c3, rfl, hle3, -, hc3⟩ := h2.cells TwV.len
        obtain ⟨A4, c4, rfl, -, -, hc4⟩ := h5.cells LgV.len
        have hX := hJ.bx
        rw [Hcells.out] at hX
        have x4 : w4.cell? ⟨w.heap.size, 4, none⟩ = _ := hX.cell (i := 4) rfl
        have hY := hJ.b2
        have o0 : w4.cell? ⟨w.heap.size + 2, 0, none⟩ = _ := hO.cell (i := 0) rfl
        have o1 : w4.cell? ⟨w.heap.size + 2, 1, none⟩ = _ := hO.cell (i := 1) rfl
        have o2 : w4.cell? ⟨w.heap.size + 2, 2, none⟩ = _ := hO.cell (i := 2) rfl
        have o3 : w4.cell? ⟨w.heap.size + 2, 3, none⟩ = _ := hO.cell (i := 3) rfl
        have o4 : w4.cell? ⟨w.heap.size + 2, 4, none⟩ = _ := hO.cell (i := 4) rfl
        have y0 : w4.cell? ⟨w.heap.size + 1, 0, none⟩ = _ := hY.cell (i := 0) rfl
        have y1 : w4.cell? ⟨w.heap.size + 1, 1, none⟩ = _ := hY.cell (i := 1) rfl
        have y2 : w4.cell? ⟨w.heap.size + 1, 2, none⟩ = _ := hY.cell (i := 2) rfl
        have y3 : w4.cell? ⟨w.heap.size + 1, 3, none⟩ = _ := hY.cell (i := 3) rfl
        have y4 : w4.cell? ⟨w.heap.size + 1, 4, none⟩ = _ := hY.cell (i := 4) rfl
        have f0 := hY.free 0
        have f1 := hY.free 1
        have f2 := hY.free 2
        have f3 := hY.free 3
        have f4 := hY.free 4
        go_wp2
        have hYS := ((((hY.set 0 (.int .i64 t.days)).set 1 (.int .i64 t.shift)).set 2 (.int .i64 t.size)).set 3 (.slice A3 tw'.length c3)).set 4 (.slice A4 lg'.length c4)
        have hbS := ((((hJ.bl.setCell (p := ⟨w.heap.size + 1, 0, none⟩) (by simp) (.int .i64 t.days)).setCell (p := ⟨w.heap.size + 1, 1, none⟩) (by simp) (.int .i64 t.shift)).setCell (p := ⟨w.heap.size + 1, 2, none⟩) (by simp) (.int .i64 t.size)).setCell (p := ⟨w.heap.size + 1, 3, none⟩) (by simp) (.slice A3 tw'.length c3)).setCell (p := ⟨w.heap.size + 1, 4, none⟩) (by simp) (.slice A4 lg'.length c4)
        have hk : ∀ {α : Type} {e sz : Nat} {enc : α → List Value} {v : Value} {l : List α}, OwnL w4 (w.heap.size + 3) e sz enc v l → OwnL (((((w4.setCell ⟨w.heap.size + 1, 0, none⟩ (.int .i64 t.days)).setCell ⟨w.heap.size + 1, 1, none⟩ (.int .i64 t.shift)).setCell ⟨w.heap.size + 1, 2, none⟩ (.int .i64 t.size)).setCell ⟨w.heap.size + 1, 3, none⟩ (.slice A3 tw'.length c3)).setCell ⟨w.heap.size + 1, 4, none⟩ (.slice A4 lg'.length c4)) (w.heap.size + 3) e sz enc v l := fun h =>
          ((((h.setCell (by simp) _).setCell (by simp) _).setCell (by simp) _).setCell (by simp) _).setCell (by simp) _
        have hM' := Lib.hid (show TrM (((((w4.setCell ⟨w.heap.size + 1, 0, none⟩ (.int .i64 t.days)).setCell ⟨w.heap.size + 1, 1, none⟩ (.int .i64 t.shift)).setCell ⟨w.heap.size + 1, 2, none⟩ (.int .i64 t.size)).setCell ⟨w.heap.size + 1, 3, none⟩ (.slice A3 tw'.length c3)).setCell ⟨w.heap.size + 1, 4, none⟩ (.slice A4 lg'.length c4)) (⟨t.days, t.shift, t.size, tw', A3, c3, lg', A4, c4⟩ : TrV) from by
          have hlt' : tw'.length ≤ 1000 := by have := congrArg List.length h3; rw [List.length_map, List.length_map, List.length_take] at this; omega
          have hll' : lg'.length ≤ 1000 := by have := congrArg List.length h6; rw [List.length_map, List.length_map, List.length_take] at this; omega
          refine ⟨OwnL.cl TwV.len (hk h2), fun v hv => ?_, OwnL.cl LgV.len (hk h5), fun v hv => ?_, by simp only; omega, by simp only; omega⟩
          · have hx : v.x ∈ tw'.map TwV.x := List.mem_map_of_mem hv
            rw [h3] at hx
            obtain ⟨z, hz, hzx⟩ := List.mem_map.1 hx
            have hs := Hs.out.town z (List.mem_of_mem_take hz)
            rw [hzx] at hs
            exact ⟨OwnL.cl encR_len (hk (h4 v hv).opn), OwnL.cl encR_len (hk (h4 v hv).riv), by omega, by omega⟩
          · have hx : v.l ∈ lg'.map LgV.l := List.mem_map_of_mem hv
            rw [h6] at hx
            obtain ⟨z, hz, hzx⟩ := List.mem_map.1 hx
            have hs := Hs.out.leg z (List.mem_of_mem_take hz)
            rw [hzx] at hs
            exact ⟨OwnL.cl encR_len (hk (h7 v hv)), by omega⟩)
        have hE' := Lib.hid (show TrEq t (⟨t.days, t.shift, t.size, tw', A3, c3, lg', A4, c4⟩ : TrV) from ⟨rfl, rfl, rfl, by simp only; rw [h3, List.take_of_length_le (by rw [Hnt.out]; exact Nat.le_refl _)], by simp only; rw [h6, List.take_of_length_le (by rw [Hnl.out]; exact Nat.le_refl _)]⟩)
        clear h3 h4 h6 h7 h2 h5 hJ hk o0 o1 o2 o3 o4 y0 y1 y2 y3 y4 f0 f1 f2 f3 f4 hO x4 hX hY
        change Blk (((((w4.setCell ⟨w.heap.size + 1, 0, none⟩ (.int .i64 t.days)).setCell ⟨w.heap.size + 1, 1, none⟩ (.int .i64 t.shift)).setCell ⟨w.heap.size + 1, 2, none⟩ (.int .i64 t.size)).setCell ⟨w.heap.size + 1, 3, none⟩ (.slice A3 tw'.length c3)).setCell ⟨w.heap.size + 1, 4, none⟩ (.slice A4 lg'.length c4)) _ _ [.int .i64 t.days, .int .i64 t.shift, .int .i64 t.size, .slice A3 tw'.length c3, .slice A4 lg'.length c4] at hYS
        generalize (((((w4.setCell ⟨w.heap.size + 1, 0, none⟩ (.int .i64 t.days)).setCell ⟨w.heap.size + 1, 1, none⟩ (.int .i64 t.shift)).setCell ⟨w.heap.size + 1, 2, none⟩ (.int .i64 t.size)).setCell ⟨w.heap.size + 1, 3, none⟩ (.slice A3 tw'.length c3)).setCell ⟨w.heap.size + 1, 4, none⟩ (.slice A4 lg'.length c4)) = S at *
        have s0 : S.cell? ⟨w.heap.size + 1, 0, none⟩ = _ := hYS.cell (i := 0) rfl
        have s1 : S.cell? ⟨w.heap.size + 1, 1, none⟩ = _ := hYS.cell (i := 1) rfl
        have s2 : S.cell? ⟨w.heap.size + 1, 2, none⟩ = _ := hYS.cell (i := 2) rfl
        have s3 : S.cell? ⟨w.heap.size + 1, 3, none⟩ = _ := hYS.cell (i := 3) rfl
        have s4 : S.cell? ⟨w.heap.size + 1, 4, none⟩ = _ := hYS.cell (i := 4) rfl
        refine bodyPost_ret (v := .agg #[.int .i64 t.days, .int .i64 t.shift, .int .i64 t.size, .slice A3 tw'.length c3, .slice A4 lg'.length c4]) (by simp [results, Try.results9, go_sem, s0, s1, s2, s3, s4]) rfl ?_
        exact ⟨⟨t.days, t.shift, t.size, tw', A3, c3, lg', A4, c4⟩, rfl, hM'.out, hE'.out, hle3, hbS⟩
end Go.Proofs.Ytilkoooahoecfaa.Er
