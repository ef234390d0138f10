/- Walks: ProveBest; rows. -/
import Derived.Test.YtcnidhcdkbfpcaaGreatPrlN
namespace Go.Proofs.YtcnidhcdkbfpcaaGreat
open Go.RowKit Go.Bs Go.Pg Go.Pl Go.Sort
/-- what ProveBest accepts -/
def provB (s : Sh) (l : List Int) (cost : Int) (T : List (List Int)) : Bool := decide (rightE s l = 0) && (decide (s.cost (l.map Int.toNat) = cost) && (s.rightT T && decide (cost ≤ s.bound T)))
set_option maxRecDepth 100000 in
set_option maxHeartbeats 1000000 in
theorem Prove_any (s : Sh) (p : ShP) (A : Option Addr) (n c : Nat) (l : List Int) (cost : Int) (B : Option Addr) (m d : Nat) (T : List (List Int)) (w : World) (h : ShM w s p) (hn : l.length = n) (hn12 : n ≤ 12) (hd : Cells w A 1 encI l) (hm : T.length = m) (hm9 : m ≤ 9223372036854775807) (hr9 : ∀ r ∈ T, r.length ≤ 9223372036854775807) (hT : TabA w B T) :
    Calls Tryz.prog 16 #[shV s p, .slice A n c, .int .i64 cost, .slice B m d] w fun e w' => e = .returned (.bool (provB s l cost T)) ∧ Below w.heap.size w w' := by
  have hb0 := ext_alloc w (.cells (shC s p).toArray 37)
  have hS := Blk.new w 37 (shC s p)
  have h0 := h.ext hb0
  have hT0 := hT.ext hb0
  have CC := Lib.hid (Cost_any s p A n c l (w.alloc (.cells (shC s p).toArray 37)) h0 hn hn12 (hd.ext hb0))
  have CB := Lib.hid (fun W (hok : s.Ok) (hW : ShM W s p) hT => bounded_any s p B m d T W hW hok hm hm9 hr9 hT)
  have HP := Lib.hid (show provB s l cost T = (decide (rightE s l = 0) && (decide (s.cost (l.map Int.toNat) = cost) && (s.rightT T && decide (cost ≤ s.bound T)))) from rfl)
  have Hok := Lib.hid (show rightE s l = 0 → s.Ok from fun hz => by
    unfold rightE at hz
    split at hz
    · rename_i h1; exact Sh.ok_of (ask_zero h1).1
    · rename_i h1; exact absurd hz h1)
  unfold CstR at CC
  generalize provB s l cost T = res at *
  generalize s.cost (l.map Int.toNat) = cs at *
  unfold BndR at CB
  generalize s.rightT T = rt at *
  generalize s.bound T = bd at *
  generalize rightE s l = re at *
  clear h hT hd hn hr9
  unfold shV at *
  unfold shC at *
  go_enter Tryz.func16, Tryz.ntmps16
  go_upto_region 1 with fail
  change Blk (w.alloc (.cells #[.slice p.A s.acts.length p.cA, .slice p.R s.rest.length p.cR, .slice p.I s.ins.length p.cI, .slice p.O s.outs.length p.cO, .int .i64 s.cover, .int .i64 s.dull, .slice p.B s.before.length p.cB] 37)) _ _ _ at hS
  change Hid (Calls _ _ _ (w.alloc (.cells #[.slice p.A s.acts.length p.cA, .slice p.R s.rest.length p.cR, .slice p.I s.ins.length p.cI, .slice p.O s.outs.length p.cO, .int .i64 s.cover, .int .i64 s.dull, .slice p.B s.before.length p.cB] 37)) _) at CC
  generalize w.alloc (.cells #[.slice p.A s.acts.length p.cA, .slice p.R s.rest.length p.cR, .slice p.I s.ins.length p.cI, .slice p.O s.outs.length p.cO, .int .i64 s.cover, .int .i64 s.dull, .slice p.B s.before.length p.cB] 37) = W0 at *
  have x0 : W0.cell? ⟨w.heap.size, 0, none⟩ = _ := hS.cell (i := 0) rfl
  have x1 : W0.cell? ⟨w.heap.size, 1, none⟩ = _ := hS.cell (i := 1) rfl
  have x2 : W0.cell? ⟨w.heap.size, 2, none⟩ = _ := hS.cell (i := 2) rfl
  have x3 : W0.cell? ⟨w.heap.size, 3, none⟩ = _ := hS.cell (i := 3) rfl
  have x4 : W0.cell? ⟨w.heap.size, 4, none⟩ = _ := hS.cell (i := 4) rfl
  have x5 : W0.cell? ⟨w.heap.size, 5, none⟩ = _ := hS.cell (i := 5) rfl
  have x6 : W0.cell? ⟨w.heap.size, 6, none⟩ = _ := hS.cell (i := 6) rfl
  go_wp2_with fail
  refine CC.out.mono ?_; rintro e W1 ⟨⟨x, z, rfl, hz, -, hz1⟩, hb1⟩
  have hS1 := hS.ext hb1
  have hbw1 := ext_trans hb0 hb1
  have h1 := h0.ext hb1
  have hT1 := hT0.ext hb1
  clear hS hb0 hb1 h0 hT0 CC x0 x1 x2 x3 x4 x5 x6
  by_cases hz0 : z = 0
  rotate_left
  · have hne : (z != 0) = true := by simp [hz0]
    have HR : Hid (res = false) := Lib.hid (by rw [HP.out]; simp; intro h; exact absurd (hz.trans h) hz0)
    clear hz hz1 hz0
    go_wp2
    go_ret
    exact ⟨ret_congr (bool_congr HR.out.symm), hbw1⟩
  have hx := hz1 hz0
  have hok := Hok.out (hz.symm.trans hz0)
  have Hre := Lib.hid (show re = 0 from hz.symm.trans hz0)
  clear hz hz1
  subst hz0
  subst hx
  by_cases hxc : x = cost
  rotate_left
  · have hne : (x != cost) = true := by simp [hxc]
    have HR : Hid (res = false) := Lib.hid (by rw [HP.out]; simp [hxc])
    clear hxc
    go_wp2
    go_ret
    exact ⟨ret_congr (bool_congr HR.out.symm), hbw1⟩
  have hne : (x != cost) = false := by simp [hxc]
  have HR : Hid (res = (rt && decide (cost ≤ bd))) := Lib.hid (by rw [HP.out, Hre.out]; simp [hxc])
  clear HP Hre
  have Hxc := Lib.hid hxc
  clear hxc
  have CB1 := Lib.hid (CB.out W1 hok h1 hT1)
  clear CB h1 hT1
  go_upto_region 4 with fail
  clear hne
  have x0 : W1.cell? ⟨w.heap.size, 0, none⟩ = _ := hS1.cell (i := 0) rfl
  have x1 : W1.cell? ⟨w.heap.size, 1, none⟩ = _ := hS1.cell (i := 1) rfl
  have x2 : W1.cell? ⟨w.heap.size, 2, none⟩ = _ := hS1.cell (i := 2) rfl
  have x3 : W1.cell? ⟨w.heap.size, 3, none⟩ = _ := hS1.cell (i := 3) rfl
  have x4 : W1.cell? ⟨w.heap.size, 4, none⟩ = _ := hS1.cell (i := 4) rfl
  have x5 : W1.cell? ⟨w.heap.size, 5, none⟩ = _ := hS1.cell (i := 5) rfl
  have x6 : W1.cell? ⟨w.heap.size, 6, none⟩ = _ := hS1.cell (i := 6) rfl
  cases rt
  · have HR2 : Hid (res = false) := Lib.hid (by rw [HR.out]; rfl)
    go_wp2_with fail
    refine CB1.out.mono ?_; rintro e W2 ⟨he, hb2⟩
    have he2 : e = .returned (.tuple #[.int .i64 0, .bool false]) := by rw [he]; simp
    subst he2
    clear he
    go_wp2
    go_ret
    exact ⟨ret_congr (bool_congr HR2.out.symm), ext_trans hbw1 hb2⟩
  · have HR2 : Hid (res = decide (cost ≤ bd)) := Lib.hid (by rw [HR.out]; rfl)
    go_wp2_with fail
    refine CB1.out.mono ?_; rintro e W2 ⟨he, hb2⟩
    have he2 : e = .returned (.tuple #[.int .i64 bd, .bool true]) := by rw [he]; simp
    subst he2
    clear he
    by_cases hge : cost ≤ bd
    · have HR3 : Hid (res = true) := Lib.hid (by rw [HR2.out]; simp [hge])
      have hge2 : bd ≥ cost := hge
      clear hge
      go_wp2
      go_ret
      exact ⟨ret_congr (bool_congr HR3.out.symm), ext_trans hbw1 hb2⟩
    · have hge2 : ¬ bd ≥ cost := hge
      clear hge
      go_wp2
      go_ret
      exact ⟨ret_congr (bool_congr HR2.out.symm), ext_trans hbw1 hb2⟩
/-- the rows copied so far -/
structure RwI (w0 : World) (T : List (List Int)) (i : Nat) (v : Value) (W : World) : Prop where
  bl : Below w0.heap.size w0 W
  rs : ∃ rs : List RwV, OwnL W w0.heap.size 23 1 RwV.enc v rs ∧ rs.map RwV.r = T.take i ∧ ∀ x ∈ rs, OwnL W 0 3 1 encI (.slice x.A x.r.length x.c) x.r
set_option maxRecDepth 100000 in
set_option maxHeartbeats 1000000 in
theorem rows_any (A : Option Addr) (m c : Nat) (T : List (List Int)) (w : World) (hm : T.length = m) (hm9 : m ≤ 1000) (hr9 : ∀ r ∈ T, r.length ≤ 1000) (hT : TabA w A T) :
    Calls Tryz.prog 7 #[.slice A m c] w fun e w' => (∃ A' c', e = .returned (.slice A' m c') ∧ TabA w' A' T) ∧ Below w.heap.size w w' := by
  have Hm := Lib.hid hm
  have Hr9 := Lib.hid hr9
  clear hm hr9
  go_enter Tryz.func7, Tryz.ntmps7
  go_upto_block 0 with fail
  go_wp2
  go_loopw [3, 4] (fun v t wr => ∃ i : Nat, t = .int .i64 i ∧ i ≤ m ∧ RwI w T i v wr) (fun _ t _ => m - (intOf t).toNat)
  case atStart => exact ⟨0, rfl, by omega, ⟨Below.refl _ _, [], OwnL.nil, rfl, by simp⟩⟩
  case round =>
    obtain ⟨i, rfl, hi, hI⟩ := hrel
    by_cases hlt : i < m
    · have hlt' : (i : Int) < (m : Int) := by omega
      have hi0 : (0 : Int) ≤ (i : Int) := by omega
      have hiT : i < T.length := by rw [Hm.out]; exact hlt
      obtain ⟨b, off, A1, c1, hA, q0, hc1⟩ := (hT.ext hI.bl).row hiT
      subst hA
      have hl := Hr9.out _ (List.getElem_mem hiT)
      have htk : T.take (i + 1) = T.take i ++ [T[i]] := List.take_succ_eq_append_getElem hiT
      have Htk := Lib.hid htk
      clear htk
      generalize T[i] = r at *
      have CL := Lib.hid (list_own A1 r.length c1 r wr rfl (by omega) hc1)
      have HI := Lib.hid hI
      clear hI hc1
      go_wp2_with fail
      refine CL.out.mono ?_; rintro e w1 ⟨v1, rfl, hown1, hb1⟩
      obtain ⟨rs, h1, h2, h3⟩ := HI.out.rs
      obtain ⟨A2, c2, rfl, -, -, -⟩ := hown1.cells encI_len
      have hbl := HI.out.bl.trans (hb1.mono HI.out.bl.size)
      have h1 := h1.ext hb1
      have h3 := fun x hx => (h3 x hx).ext hb1
      have hrl : rs.length = i := by
        have := congrArg List.length h2
        rw [List.length_map, List.length_take] at this
        omega
      have hnew := Blk.new w1 23 (RwV.enc ⟨r, A2, c2⟩)
      have hba := ext_alloc w1 (.cells (RwV.enc ⟨r, A2, c2⟩).toArray 23)
      have hsz := hbl.size
      have H1 := Lib.hid h1
      have H2 := Lib.hid h2
      have H3 := Lib.hid h3
      have Ho1 := Lib.hid hown1
      have Hbl := Lib.hid hbl
      have Hrl := Lib.hid hrl
      clear h1 h2 h3 hown1 hbl q0 CL hb1 hrl
      go_wp2_with (at_builtin; refine app1 RwV.enc 27 23 1 24 et29 (by decide) (by decide) rwv_len rwv_one rfl _ _ rfl w.heap.size _ rs rfl (H1.out.alloc _) w1.heap.size rfl ⟨r, A2, c2⟩ (fun j u hj => hnew.cell hj) (by rw [Hrl.out]; omega) (by simp; omega) ?_; intro g' cap' V9 hown' hb7 hgr7 hat7)
      go_roundw
      case rel =>
        refine ⟨i + 1, by go_num, by omega, ⟨Hbl.out.trans ((hba.mono hsz).trans hb7), rs ++ [⟨r, A2, c2⟩], hown', by rw [List.map_append, H2.out, Htk.out]; rfl, ?_⟩⟩
        intro x hx
        rcases List.mem_append.1 hx with hx | hx
        · exact ((H3.out x hx).alloc _).kept hgr7 (own_own (H3.out x hx) H1.out (by decide))
        · rw [List.mem_singleton] at hx
          subst hx
          exact OwnL.up (((Ho1.out).alloc _).kept hgr7 (own_own Ho1.out H1.out (by decide))) (Nat.zero_le _)
      case measure => simp [intOf]; omega
    · obtain rfl : i = m := by omega
      obtain ⟨rs, h1, h2, h3⟩ := hI.rs
      rw [List.take_of_length_le (by rw [Hm.out]; omega)] at h2
      obtain ⟨A', c', rfl, -, -, hc⟩ := h1.cells rwv_len
      have hrl : rs.length = i := by rw [← Hm.out, ← h2, List.length_map]
      have HI := Lib.hid hI.bl
      have HT := Lib.hid (show TabA wr A' T from ⟨rs, h2, hc, fun x hx => by
        obtain ⟨A3, c3, e3, -, -, h4⟩ := (h3 x hx).cells encI_len
        injection e3 with e4 e5 e6
        rw [e4]; exact h4⟩)
      have Hrl := Lib.hid hrl
      clear hI h1 h2 h3 hc
      rw [Hrl.out]
      clear hrl
      go_wp2
      go_ret
      exact ⟨⟨A', c', rfl, HT.out⟩, HI.out⟩
end Go.Proofs.YtcnidhcdkbfpcaaGreat
