/- Walk: ref.Programme; rows, with rows that lie apart. -/
import Derived.Test.YtcnidhcdkbfpcaaGreatPrlO
import Derived.Test.YtcnidhcdkbfpcaaGreatPgK
import Derived.Test.YtcnidhcdkbfpcaaGreatPgI
namespace Go.Bs
open Go.RowKit
theorem flatMap_set {α : Type} {sz : Nat} {enc : α → List Value} (hen : ∀ x, (enc x).length = sz) : ∀ (l : List α) (i j : Nat) (x : α) (u : Value) (hi : i < l.length) (_ : j < sz), enc x = (enc l[i]).set j u → (l.set i x).flatMap enc = (l.flatMap enc).set (i * sz + j) u
  | [], _, _, _, _, hi, _, _ => by simp at hi
  | y :: l, 0, j, x, u, _, hj, he => by
    simp only [List.set_cons_zero, List.flatMap_cons, List.getElem_cons_zero] at he ⊢
    rw [he, Nat.zero_mul, Nat.zero_add, List.set_append_left _ _ (by rw [hen]; exact hj)]
  | y :: l, i + 1, j, x, u, hi, hj, he => by
    simp only [List.set_cons_succ, List.flatMap_cons, List.getElem_cons_succ] at he ⊢
    rw [flatMap_set hen l i j x u (by simpa using hi) hj he, List.set_append_right _ _ (by rw [hen, Nat.add_mul]; omega), hen]
    congr 2
    rw [Nat.add_mul]; omega
theorem OwnL.setAt {α : Type} {w : World} {base : Nat} {e : TypeId} {sz : Nat} {enc : α → List Value} {g n cap : Nat} {l : List α} (hen : ∀ x, (enc x).length = sz) (h : OwnL w base e sz enc (.slice (some ⟨g, 0, none⟩) n cap) l) {i j : Nat} (hi : i < l.length) (hj : j < sz) (x : α) (u : Value) (he : enc x = (enc l[i]).set j u) :
    OwnL (w.setCell ⟨g, i * sz + j, none⟩ u) base e sz enc (.slice (some ⟨g, 0, none⟩) n cap) (l.set i x) := by
  obtain ⟨h1, h2⟩ := h
  rcases h2 with ⟨e1, -⟩ | ⟨g', cap', cur, hv, hb, hg, hnc, hcm, hcs, htake⟩
  · cases e1
  · cases hv
    refine ⟨by rw [flatMap_set hen l i j x u hi hj he, List.length_set, List.length_set]; exact h1, .inr ⟨g, cap, cur.setIfInBounds (i * sz + j) u, by rw [List.length_set], hb, ?_, by rw [List.length_set]; exact hnc, hcm, by simp [hcs], ?_⟩⟩
    · simp [World.setCell, Array.getElem?_modify, hg]
    · rw [flatMap_set hen l i j x u hi hj he, Array.toList_setIfInBounds, List.take_set, List.length_set, htake]
theorem OwnL.set1 {w : World} {base : Nat} {e : TypeId} {g n cap : Nat} {l : List Int} (h : OwnL w base e 1 encI (.slice (some ⟨g, 0, none⟩) n cap) l) {i : Nat} (hi : i < l.length) (x : Int) : OwnL (w.setCell ⟨g, i, none⟩ (.int .i64 x)) base e 1 encI (.slice (some ⟨g, 0, none⟩) n cap) (l.set i x) := by
  have := OwnL.setAt encI_len h (i := i) (j := 0) hi (by omega) x (.int .i64 x) rfl
  simpa using this
theorem OwnL.cl {α : Type} {w : World} {bs : Nat} {e : TypeId} {sz : Nat} {enc : α → List Value} {A : Option Addr} {n c : Nat} {l : List α} (hen : ∀ x, (enc x).length = sz) (ho : OwnL w bs e sz enc (.slice A n c) l) : Cells w A sz enc l := by
  obtain ⟨A, c, e, -, -, hc⟩ := ho.cells hen
  cases e
  exact hc
end Go.Bs
namespace Go.Proofs.YtcnidhcdkbfpcaaGreat
open Go.RowKit Go.Bs Go.Pg Go.Pl Go.Sort
def progV (s : Sh) (l : List Int) : Bool := ordB s.acts.length l && decide ((s.fault (l.map Int.toNat)).2 = 0)
theorem progV_eq {s : Sh} {l : List Int} (hok : s.okB = true) : decide (rightE s l = 0) = progV s l := by
  unfold rightE askE progV
  rw [hok]
  cases ordB s.acts.length l
  · rfl
  · by_cases hf : (s.fault (l.map Int.toNat)).2 = 0
    · simp [hf]
    · simp [hf]
set_option maxRecDepth 100000 in
set_option maxHeartbeats 1000000 in
theorem RProg_any (s : Sh) (p : ShP) (A : Option Addr) (n c : Nat) (l : List Int) (w : World) (h : ShM w s p) (hok : s.Ok) (hn : l.length = n) (hm : n ≤ 1000) (hd : Cells w A 1 encI l) :
    Calls Tryz.prog 12 #[shV s p, .slice A n c] w fun e w' => e = .returned (.bool (progV s l)) ∧ Below w.heap.size w w' := by
  have hb0 := ext_alloc w (.cells (shC s p).toArray 26)
  have hS := Blk.new w 26 (shC s p)
  have h0 := h.ext hb0
  have CO := Lib.hid (Order_any s p A n c l _ h0 hn (by omega) (hd.ext hb0))
  have CF := Lib.hid (fun k (hk : l = toI k) (hkn : ∀ i ∈ k, i < s.acts.length) W (hW : Below w.heap.size w W) => RFault_any s p A n c k W (h.ext hW) hok hkn (by rw [← hn, hk, toI_len]) hm (hk ▸ hd.ext hW))
  have HB := Lib.hid (show ordB s.acts.length l = false → progV s l = false from fun e => by unfold progV; rw [e]; rfl)
  have HG := Lib.hid (show ∀ k, l = toI k → ordB s.acts.length l = true → progV s l = decide ((s.fault k).2 = 0) from fun k hk e => by unfold progV; rw [e, hk, toI_toNat]; rfl)
  have HN := Lib.hid (show ordB s.acts.length l = true → ∃ k, l = toI k ∧ k.length = s.acts.length ∧ (∀ i ∈ k, i < s.acts.length) ∧ k.Nodup from fun e => ord_nat e)
  clear h hd h0 hok hn
  generalize progV s l = res at *
  generalize ordB s.acts.length l = ob at *
  unfold shV at *
  unfold shC at *
  go_enter Tryz.func12, Tryz.ntmps12
  go_upto_region 1 with fail
  change Blk (w.alloc (.cells #[.slice p.A s.acts.length p.cA, .slice p.R s.rest.length p.cR, .slice p.I s.ins.length p.cI, .slice p.O s.outs.length p.cO, .int .i64 s.cover, .int .i64 s.dull, .slice p.B s.before.length p.cB] 26)) _ _ _ at hS
  change Hid (Calls _ _ _ (w.alloc (.cells #[.slice p.A s.acts.length p.cA, .slice p.R s.rest.length p.cR, .slice p.I s.ins.length p.cI, .slice p.O s.outs.length p.cO, .int .i64 s.cover, .int .i64 s.dull, .slice p.B s.before.length p.cB] 26)) _) at CO
  generalize w.alloc (.cells #[.slice p.A s.acts.length p.cA, .slice p.R s.rest.length p.cR, .slice p.I s.ins.length p.cI, .slice p.O s.outs.length p.cO, .int .i64 s.cover, .int .i64 s.dull, .slice p.B s.before.length p.cB] 26) = W0 at *
  have x0 : W0.cell? ⟨w.heap.size, 0, none⟩ = _ := hS.cell (i := 0) rfl
  have x1 : W0.cell? ⟨w.heap.size, 1, none⟩ = _ := hS.cell (i := 1) rfl
  have x2 : W0.cell? ⟨w.heap.size, 2, none⟩ = _ := hS.cell (i := 2) rfl
  have x3 : W0.cell? ⟨w.heap.size, 3, none⟩ = _ := hS.cell (i := 3) rfl
  have x4 : W0.cell? ⟨w.heap.size, 4, none⟩ = _ := hS.cell (i := 4) rfl
  have x5 : W0.cell? ⟨w.heap.size, 5, none⟩ = _ := hS.cell (i := 5) rfl
  have x6 : W0.cell? ⟨w.heap.size, 6, none⟩ = _ := hS.cell (i := 6) rfl
  go_wp2_with fail
  refine CO.out.mono ?_; rintro e W1 ⟨rfl, hb1⟩
  clear x0 x1 x2 x3 x4 x5 x6 CO
  have hS1 := hS.ext hb1
  have hb1w := ext_trans hb0 hb1
  clear hS hb0 hb1
  cases ob
  · obtain rfl := HB.out rfl
    clear HG HN CF
    go_wp2
    go_ret
    exact ⟨rfl, hb1w⟩
  · obtain ⟨k, hk, -, hkn, -⟩ := HN.out rfl
    have hg := HG.out k hk rfl
    have C := Lib.hid (CF.out k hk hkn W1 hb1w)
    clear CF HB HG HN hk hkn
    generalize (s.fault k).2 = y at *
    generalize (s.fault k).1 = x at *
    have Hg := Lib.hid hg
    clear hg
    have x0 : W1.cell? ⟨w.heap.size, 0, none⟩ = _ := hS1.cell (i := 0) rfl
    have x1 : W1.cell? ⟨w.heap.size, 1, none⟩ = _ := hS1.cell (i := 1) rfl
    have x2 : W1.cell? ⟨w.heap.size, 2, none⟩ = _ := hS1.cell (i := 2) rfl
    have x3 : W1.cell? ⟨w.heap.size, 3, none⟩ = _ := hS1.cell (i := 3) rfl
    have x4 : W1.cell? ⟨w.heap.size, 4, none⟩ = _ := hS1.cell (i := 4) rfl
    have x5 : W1.cell? ⟨w.heap.size, 5, none⟩ = _ := hS1.cell (i := 5) rfl
    have x6 : W1.cell? ⟨w.heap.size, 6, none⟩ = _ := hS1.cell (i := 6) rfl
    go_wp2_with fail
    refine C.out.mono ?_; rintro e W2 ⟨rfl, hb2⟩
    clear x0 x1 x2 x3 x4 x5 x6 C
    by_cases hy : y = 0
    · obtain rfl : res = true := by rw [Hg.out, hy]; rfl
      subst hy
      go_wp2
      go_ret
      exact ⟨rfl, ext_trans hb1w hb2⟩
    · obtain rfl : res = false := by rw [Hg.out]; simp [hy]
      have hy2 : ¬ (y : Int) = 0 := by omega
      go_wp2
      go_ret
      exact ⟨by simp [hy], ext_trans hb1w hb2⟩
/-- the rows of a table that is being copied: each the call's own, and all apart -/
def apart (x y : RwV) : Prop := ∀ k, (Value.slice x.A x.r.length x.c).ownBlock = some k → (Value.slice y.A y.r.length y.c).ownBlock ≠ some k
structure RwJ (w0 : World) (T : List (List Int)) (i : Nat) (v : Value) (W : World) : Prop where
  bl : Below w0.heap.size w0 W
  rs : ∃ rs : List RwV, OwnL W w0.heap.size 23 1 RwV.enc v rs ∧ rs.map RwV.r = T.take i ∧ (∀ x ∈ rs, OwnL W w0.heap.size 3 1 encI (.slice x.A x.r.length x.c) x.r) ∧ rs.Pairwise apart
def TabJ (bs : Nat) (W : World) (A : Option Addr) (c : Nat) (T : List (List Int)) : Prop := ∃ rs : List RwV, OwnL W bs 23 1 RwV.enc (.slice A T.length c) rs ∧ rs.map RwV.r = T ∧ (∀ x ∈ rs, OwnL W bs 3 1 encI (.slice x.A x.r.length x.c) x.r) ∧ rs.Pairwise apart
theorem TabJ.toA {bs : Nat} {W : World} {A : Option Addr} {c : Nat} {T : List (List Int)} (h : TabJ bs W A c T) : TabA W A T := by
  obtain ⟨rs, h1, h2, h3, -⟩ := h
  exact ⟨rs, h2, h1.cl rwv_len, fun x hx => (h3 x hx).cl encI_len⟩
/-- one number of the table changed -/
theorem TabJ.put {bs : Nat} {W : World} {A : Option Addr} {c : Nat} {T : List (List Int)} (h : TabJ bs W A c T) {i j : Nat} (hi : i < T.length) (hj : j < T[i].length) : ∃ b off g cr, A = some ⟨b, off, none⟩ ∧ bs ≤ g ∧ W.cell? ⟨b, off + i, none⟩ = some (.slice (some ⟨g, 0, none⟩) T[i].length cr) ∧ W.cell? ⟨g, j, none⟩ = some (.int .i64 T[i][j]) ∧ W.frozen? ⟨g, j, none⟩ = false ∧
    ∀ y, TabA (W.setCell ⟨g, j, none⟩ (.int .i64 y)) A (T.set i (T[i].set j y)) := by
  obtain ⟨rs, h1, rfl, h3, h4⟩ := h
  have hir : i < rs.length := by simpa using hi
  have e1 : (rs.map RwV.r)[i] = rs[i].r := by simp
  rw [e1] at hj
  have ho := h3 rs[i] (List.getElem_mem hir)
  obtain ⟨g, cap, hv, hg, -, -, -, hc, hf⟩ := ho.blk encI_len (by omega)
  injection hv with hA h5 h6
  obtain ⟨b2, o2, h7, -, c1⟩ := hc.at1 (k := j) hj rfl
  cases h7
  rw [Nat.zero_add] at c1
  have hcl := h1.cl rwv_len
  obtain ⟨b, off, hAA, -, c0⟩ := hcl.at1 (k := i) hir rfl
  have c0 : W.cell? ⟨b, off + i, none⟩ = some (.slice rs[i].A rs[i].r.length rs[i].c) := c0
  rw [hA] at c0
  refine ⟨b, off, g, rs[i].c, hAA, hg, by rw [e1]; exact c0, ?_, hf j, fun y => ?_⟩
  · rw [c1]
    simp
  · have hgo : (Value.slice rs[i].A rs[i].r.length rs[i].c).ownBlock = some g := by rw [hA]; rfl
    have ho2 := ho
    rw [hA] at ho2
    have hs := OwnL.set1 ho2 hj y
    have hv1 : OwnL (W.setCell ⟨g, j, none⟩ (.int .i64 y)) bs 23 1 RwV.enc (.slice A (rs.map RwV.r).length c) rs := by
      refine h1.put (fun e => ?_) _
      rcases own_own h1 ho (by decide) with h8 | h8
      · rw [h8] at e; cases e
      · rw [hgo] at h8; exact h8 e
    have hcl2 := hv1.cl rwv_len
    refine ⟨rs.set i ⟨rs[i].r.set j y, rs[i].A, rs[i].c⟩, by rw [List.map_set]; simp, ?_, fun x hx => ?_⟩
    · intro k x hx
      rw [List.getElem?_set] at hx
      split at hx
      · rename_i hik
        subst hik
        try rw [if_pos hir] at hx
        cases hx
        have := hcl2 i rs[i] (List.getElem?_eq_getElem hir)
        obtain ⟨b3, o3, hA3, h9⟩ := this
        refine ⟨b3, o3, hA3, fun q u hq => h9 q u ?_⟩
        have : RwV.enc ⟨rs[i].r.set j y, rs[i].A, rs[i].c⟩ = RwV.enc rs[i] := by unfold RwV.enc; simp
        rw [← this]; exact hq
      · exact hcl2 k x hx
    · obtain ⟨k, hk, rfl⟩ := List.mem_iff_getElem.1 hx
      rw [List.length_set] at hk
      rw [List.getElem_set]
      split
      · rename_i hik
        subst hik
        show Cells _ rs[i].A 1 encI (rs[i].r.set j y)
        rw [hA]
        exact hs.cl encI_len
      · rename_i hik
        have hrk := h3 rs[k] (List.getElem_mem hk)
        refine (hrk.put (fun e => ?_) _).cl encI_len
        rcases Nat.lt_or_gt_of_ne hik with h8 | h8
        · exact List.pairwise_iff_getElem.1 h4 i k hir hk h8 g hgo e
        · exact List.pairwise_iff_getElem.1 h4 k i hk hir h8 g e hgo
set_option maxRecDepth 100000 in
set_option maxHeartbeats 1000000 in
theorem rows2_any (A : Option Addr) (m c : Nat) (T : List (List Int)) (w : World) (hm : T.length = m) (hm9 : m ≤ 1000) (hr9 : ∀ r ∈ T, r.length ≤ 1000) (hT : TabA w A T) :
    Calls Tryz.prog 7 #[.slice A m c] w fun e w' => (∃ A' c', e = .returned (.slice A' m c') ∧ TabJ w.heap.size w' A' c' T) ∧ Below w.heap.size w w' := by
  have Hm := Lib.hid hm
  have Hr9 := Lib.hid hr9
  clear hm hr9
  go_enter Tryz.func7, Tryz.ntmps7
  go_upto_block 0 with fail
  go_wp2
  go_loopw [3, 4] (fun v t wr => ∃ i : Nat, t = .int .i64 i ∧ i ≤ m ∧ RwJ w T i v wr) (fun _ t _ => m - (intOf t).toNat)
  case atStart => exact ⟨0, rfl, by omega, ⟨Below.refl _ _, [], OwnL.nil, rfl, by simp, List.Pairwise.nil⟩⟩
  case round =>
    obtain ⟨i, rfl, hi, hI⟩ := hrel
    by_cases hlt : i < m
    · have hlt' : (i : Int) < (m : Int) := by omega
      have hi0 : (0 : Int) ≤ (i : Int) := by omega
      have hiT : i < T.length := by rw [Hm.out]; exact hlt
      obtain ⟨b, off, A1, c1, hA, q0, hc1⟩ := (hT.ext hI.bl).row hiT
      subst hA
      have hl := Hr9.out _ (List.getElem_mem hiT)
      have htk : T.take (i + 1) = T.take i ++ [T[i]] := List.take_succ_eq_append_getElem hiT
      have Htk := Lib.hid htk
      clear htk
      generalize T[i] = r at *
      have CL := Lib.hid (list_own A1 r.length c1 r wr rfl (by omega) hc1)
      have HI := Lib.hid hI
      clear hI hc1
      go_wp2_with fail
      refine CL.out.mono ?_; rintro e w1 ⟨v1, rfl, hown1, hb1⟩
      obtain ⟨rs, h1, h2, h3, h4⟩ := HI.out.rs
      obtain ⟨A2, c2, rfl, -, -, -⟩ := hown1.cells encI_len
      have hbl := HI.out.bl.trans (hb1.mono HI.out.bl.size)
      have hap : ∀ x ∈ rs, apart x (⟨r, A2, c2⟩ : RwV) := fun x hx k hk1 hk2 => by
        have g1 := ((h3 x hx).lt hk1).2
        have g2 := (hown1.lt hk2).1
        omega
      have h1 := h1.ext hb1
      have h3 := fun x hx => (h3 x hx).ext hb1
      have hrl : rs.length = i := by
        have := congrArg List.length h2
        rw [List.length_map, List.length_take] at this
        omega
      have hnew := Blk.new w1 23 (RwV.enc ⟨r, A2, c2⟩)
      have hba := ext_alloc w1 (.cells (RwV.enc ⟨r, A2, c2⟩).toArray 23)
      have hsz := hbl.size
      have H1 := Lib.hid h1
      have H2 := Lib.hid h2
      have H3 := Lib.hid h3
      have H4 := Lib.hid (show (rs ++ [(⟨r, A2, c2⟩ : RwV)]).Pairwise apart from List.pairwise_append.2 ⟨h4, List.pairwise_singleton _ _, fun x hx y hy => by rw [List.mem_singleton.1 hy]; exact hap x hx⟩)
      have Ho1 := Lib.hid (OwnL.up hown1 HI.out.bl.size)
      have Hbl := Lib.hid hbl
      have Hrl := Lib.hid hrl
      clear h1 h2 h3 h4 hap hown1 hbl q0 CL hb1 hrl
      go_wp2_with (at_builtin; refine app1 RwV.enc 27 23 1 24 et29 (by decide) (by decide) rwv_len rwv_one rfl _ _ rfl w.heap.size _ rs rfl (H1.out.alloc _) w1.heap.size rfl ⟨r, A2, c2⟩ (fun j u hj => hnew.cell hj) (by rw [Hrl.out]; omega) (by simp; omega) ?_; intro g' cap' V9 hown' hb7 hgr7 hat7)
      go_roundw
      case rel =>
        refine ⟨i + 1, by go_num, by omega, ⟨Hbl.out.trans ((hba.mono hsz).trans hb7), rs ++ [⟨r, A2, c2⟩], hown', by rw [List.map_append, H2.out, Htk.out]; rfl, ?_, H4.out⟩⟩
        intro x hx
        rcases List.mem_append.1 hx with hx | hx
        · exact ((H3.out x hx).alloc _).kept hgr7 (own_own (H3.out x hx) H1.out (by decide))
        · rw [List.mem_singleton] at hx
          subst hx
          exact ((Ho1.out).alloc _).kept hgr7 (own_own Ho1.out H1.out (by decide))
      case measure => simp [intOf]; omega
    · obtain rfl : i = m := by omega
      obtain ⟨rs, h1, h2, h3, h4⟩ := hI.rs
      rw [List.take_of_length_le (by rw [Hm.out]; omega)] at h2
      obtain ⟨A', c', rfl, -, -, hc⟩ := h1.cells rwv_len
      have hrl : rs.length = i := by rw [← Hm.out, ← h2, List.length_map]
      have HI := Lib.hid hI.bl
      have HT := Lib.hid (show TabJ w.heap.size wr A' c' T from ⟨rs, by rw [Hm.out, ← hrl]; exact h1, h2, h3, h4⟩)
      have Hrl := Lib.hid hrl
      clear hI h1 h2 h3 h4 hc
      rw [Hrl.out]
      clear hrl
      go_wp2
      go_ret
      exact ⟨⟨A', c', rfl, HT.out⟩, HI.out⟩
end Go.Proofs.YtcnidhcdkbfpcaaGreat
