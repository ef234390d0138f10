/- The law TopLasts: its walk. (Printed by mk_lsta.py.) -/
import Derived.Test.YtilkoooahoecfaaGreatPgJ
import Derived.Test.YtilkoooahoecfaaGreatPgH
import Derived.Test.YtilkoooahoecfaaGreatPgI
import Derived.Test.YtilkoooahoecfaaGreatRmI
import Derived.Test.YtilkoooahoecfaaGreatUntC
namespace Go.Bs
open Go.RowKit
/-- an empty row of the call's own, with a block -/
theorem OwnL.void {α : Type} {W : World} {base e sz B : Nat} {enc : α → List Value} (h : Blk W B e []) (hb : base ≤ B) : OwnL W base e sz enc (.slice (some ⟨B, 0, none⟩) 0 0) ([] : List α) :=
  ⟨by simp, .inr ⟨B, 0, #[], rfl, hb, h, Nat.le_refl _, by unfold maxLen; omega, by simp, by simp⟩⟩
end Go.Bs
namespace Go.Tp
open Go.Pl Go.Pg
theorem sheetL_min {s : Sh} (h : s.Ok) : ∀ (r : List Nat) (a : Nat) (t : Int), t + isum (r.map fun c => (s.act c).min) ≤ (s.sheetL a t r).2
  | [], a, t => by simp [isum, Sh.sheetL]
  | b :: r, a, t => by
    have ih := sheetL_min h r b (t + s.chM a b + (s.act b).min)
    have hc := h.chM a b
    simp only [List.map_cons, isum, Sh.sheetL]
    omega
theorem sheet_min {s : Sh} (h : s.Ok) (k : List Nat) : isum (k.map fun c => (s.act c).min) ≤ (s.sheet k).2 := by
  cases k with
  | nil => simp [isum, Sh.sheet]
  | cons a r =>
    have := sheetL_min h r a (s.act a).min
    simp only [List.map_cons, isum, Sh.sheet]
    omega
def amin (s : Sh) (n : Nat) : Int := isum ((List.range n).map fun c => (s.act c).min)
theorem amin_succ (s : Sh) (n : Nat) : amin s (n + 1) = amin s n + (s.act n).min := by
  unfold amin
  rw [List.range_succ, List.map_append, isum_append]
  simp [isum]
theorem amin_bd {s : Sh} (h : s.Ok) : ∀ {n : Nat}, n ≤ s.acts.length → 0 ≤ amin s n ∧ amin s n ≤ 60 * n
  | 0, _ => by simp [amin, isum]
  | n + 1, hn => by
    have h1 := amin_bd h (n := n) (by omega)
    have h2 := (h.act (show n < s.acts.length by omega)).min
    rw [amin_succ]
    omega
theorem isum_perm2 {a b : List Int} (h : a.Perm b) : isum a = isum b := by
  induction h with
  | nil => rfl
  | cons x _ ih => simp only [isum, ih]
  | swap x y l => simp only [isum]; omega
  | trans _ _ i1 i2 => exact i1.trans i2
theorem amin_perm (s : Sh) {k : List Nat} {n : Nat} (h1 : k.length = n) (h2 : ∀ c ∈ k, c < n) (h3 : k.Nodup) : isum (k.map fun c => (s.act c).min) = amin s n := by
  have hp : (toI k).Perm (upto n) := ord_perm (by rw [toI_len]; exact h1) (fun x hx => by
    obtain ⟨c, hc, rfl⟩ := List.mem_map.1 hx
    have := h2 c hc
    exact ⟨by simp, by simp; exact this⟩) (List.Pairwise.map _ (fun a b hab e => hab (by have e2 : (a : Int) = (b : Int) := e; omega)) h3)
  have := isum_perm2 (hp.map fun x => (s.act x.toNat).min)
  unfold toI upto at this
  rw [List.map_map, List.map_map] at this
  exact this
end Go.Tp
namespace Go.Proofs.YtilkoooahoecfaaGreat
open Go.RowKit Go.Bs Go.Pg Go.Pl Go.Sort Go.Tp Go.Rg
def encE (x : Int) : List Value := [.int .i64 x, .int .i64 0, .int .i64 0, .bool true]
theorem encE_len (x : Int) : (encE x).length = 4 := rfl
theorem encE_one (x : Int) : ∀ u ∈ encE x, u.oneCell' = true := by
  intro u hu
  simp [encE] at hu
  rcases hu with rfl | rfl | rfl <;> rfl
theorem et46 : ElemT Tryz.prog 46 45 4 32 := ElemT.mk (z := .agg #[.int .i64 0, .int .i64 0, .int .i64 0, .bool false]) Tryz.underlying46 (by kernel_rfl) rfl
theorem entE {w : World} {base g n c : Nat} {day : Int} (h : OwnL w base 45 4 encE (.slice (some ⟨g, 0, none⟩) n c) [day]) :
    w.cell? ⟨g, 0, none⟩ = some (.int .i64 day) ∧ w.cell? ⟨g, 1, none⟩ = some (.int .i64 0) ∧ w.cell? ⟨g, 2, none⟩ = some (.int .i64 0) ∧ w.cell? ⟨g, 3, none⟩ = some (.bool true) := by
  obtain ⟨A, c', e, -, -, hc⟩ := h.cells encE_len
  injection e with e1 e2 e3
  subst e1
  obtain ⟨b, off, e, h2⟩ := hc 0 day rfl
  injection e with e
  injection e with e1 e2 e3
  subst e1 e2
  exact ⟨by simpa using h2 0 _ rfl, by simpa using h2 1 _ rfl, by simpa using h2 2 _ rfl, by simpa using h2 3 _ rfl⟩
set_option maxRecDepth 100000 in
set_option maxHeartbeats 10000000 in
theorem lasts_law (s : Sh) (p : ShP) (A : Option Addr) (n c : Nat) (l : List Int) (dy hr day : Int) (w : World) (h : ShW w s p) (hn : l.length = n) (hm : n ≤ 9223372036854775807) (hd : Cells w A 1 encI l) (hdy : 0 ≤ dy ∧ dy ≤ 65535) (hhr : 0 ≤ hr ∧ hr ≤ 65535) (hday : 0 ≤ day ∧ day ≤ 255) :
    Calls Tryz.prog 3 #[shV s p, .slice A n c, .int .u16 dy, .int .u16 hr, .int .u8 day] w fun e w' => e = .returned (.bool true) ∧ Below w.heap.size w w' := by
  have hb0 := ext_alloc w (.cells (shC s p).toArray 26)
  have hS := Blk.new w 26 (shC s p)
  have h0 := h.ext hb0
  have hd0 := hd.ext hb0
  have Hn := Lib.hid hn
  clear hd hn
  clear h
  unfold shV at *
  unfold shC at *
  go_enter Tryz.func3, Tryz.ntmps3
  go_upto_region 1 with fail
  change Blk (w.alloc (.cells #[.slice p.A s.acts.length p.cA, .slice p.R s.rest.length p.cR, .slice p.I s.ins.length p.cI, .slice p.O s.outs.length p.cO, .int .i64 s.cover, .int .i64 s.dull, .slice p.B s.before.length p.cB] 26)) _ _ _ at hS
  generalize w.alloc (.cells #[.slice p.A s.acts.length p.cA, .slice p.R s.rest.length p.cR, .slice p.I s.ins.length p.cI, .slice p.O s.outs.length p.cO, .int .i64 s.cover, .int .i64 s.dull, .slice p.B s.before.length p.cB] 26) = W0 at *
  have x0 : W0.cell? ⟨w.heap.size, 0, none⟩ = _ := hS.cell (i := 0) rfl
  have x1 : W0.cell? ⟨w.heap.size, 1, none⟩ = _ := hS.cell (i := 1) rfl
  have x2 : W0.cell? ⟨w.heap.size, 2, none⟩ = _ := hS.cell (i := 2) rfl
  have x3 : W0.cell? ⟨w.heap.size, 3, none⟩ = _ := hS.cell (i := 3) rfl
  have x4 : W0.cell? ⟨w.heap.size, 4, none⟩ = _ := hS.cell (i := 4) rfl
  have x5 : W0.cell? ⟨w.heap.size, 5, none⟩ = _ := hS.cell (i := 5) rfl
  have x6 : W0.cell? ⟨w.heap.size, 6, none⟩ = _ := hS.cell (i := 6) rfl
  go_wp2_with fail
  refine (Few_any s p W0 h0).mono ?_; rintro e W1 ⟨rfl, hb1⟩
  have hbw := ext_trans hb0 hb1
  cases hf : s.fewB
  · clear x0 x1 x2 x3 x4 x5 x6
    go_wp2_with fail
    refine (Rg.hangs_any _).mono ?_; rintro e wz ⟨rfl, hbz⟩
    go_wp2
    go_ret
    exact ⟨rfl, ext_trans hbw hbz⟩
  have hm1 := (h0.few hf).ext hb1
  have h12 := (Sh.few_iff.1 hf).2.1
  have hS1 := hS.ext hb1
  have hd1 := hd0.ext hb1
  clear hb0 hb1 h0 hS hf hd0 x0 x1 x2 x3 x4 x5 x6
  have x0 : W1.cell? ⟨w.heap.size, 0, none⟩ = _ := hS1.cell (i := 0) rfl
  have x1 : W1.cell? ⟨w.heap.size, 1, none⟩ = _ := hS1.cell (i := 1) rfl
  have x2 : W1.cell? ⟨w.heap.size, 2, none⟩ = _ := hS1.cell (i := 2) rfl
  have x3 : W1.cell? ⟨w.heap.size, 3, none⟩ = _ := hS1.cell (i := 3) rfl
  have x4 : W1.cell? ⟨w.heap.size, 4, none⟩ = _ := hS1.cell (i := 4) rfl
  have x5 : W1.cell? ⟨w.heap.size, 5, none⟩ = _ := hS1.cell (i := 5) rfl
  have x6 : W1.cell? ⟨w.heap.size, 6, none⟩ = _ := hS1.cell (i := 6) rfl
  go_wp2_with fail
  refine (Right_any s p W1 hm1).mono ?_; rintro e W2 ⟨rfl, hb2⟩
  have hbw2 := ext_trans hbw hb2
  cases hok : s.okB
  · clear x0 x1 x2 x3 x4 x5 x6 hok
    go_wp2_with fail
    refine (Rg.hangs_any _).mono ?_; rintro e wz ⟨rfl, hbz⟩
    go_wp2
    go_ret
    exact ⟨rfl, ext_trans hbw2 hbz⟩
  have Hok := Lib.hid (Sh.ok_of hok)
  have Hokb := Lib.hid hok
  have hm2 := hm1.ext hb2
  have hS2 := hS1.ext hb2
  have hd2 := hd1.ext hb2
  clear hbw hb2 hm1 hS1 hok hd1 x0 x1 x2 x3 x4 x5 x6
  have x0 : W2.cell? ⟨w.heap.size, 0, none⟩ = _ := hS2.cell (i := 0) rfl
  have x1 : W2.cell? ⟨w.heap.size, 1, none⟩ = _ := hS2.cell (i := 1) rfl
  have x2 : W2.cell? ⟨w.heap.size, 2, none⟩ = _ := hS2.cell (i := 2) rfl
  have x3 : W2.cell? ⟨w.heap.size, 3, none⟩ = _ := hS2.cell (i := 3) rfl
  have x4 : W2.cell? ⟨w.heap.size, 4, none⟩ = _ := hS2.cell (i := 4) rfl
  have x5 : W2.cell? ⟨w.heap.size, 5, none⟩ = _ := hS2.cell (i := 5) rfl
  have x6 : W2.cell? ⟨w.heap.size, 6, none⟩ = _ := hS2.cell (i := 6) rfl
  go_wp2_with fail
  refine (Order_any s p A n c l W2 hm2 Hn.out hm hd2).mono ?_; rintro e W3 ⟨rfl, hb3⟩
  have hbw3 := ext_trans hbw2 hb3
  cases ho : ordB s.acts.length l
  · clear x0 x1 x2 x3 x4 x5 x6 ho
    go_wp2_with fail
    refine (Rg.hangs_any _).mono ?_; rintro e wz ⟨rfl, hbz⟩
    go_wp2
    go_ret
    exact ⟨rfl, ext_trans hbw3 hbz⟩
  have hm3 := hm2.ext hb3
  have hS3 := hS2.ext hb3
  have hd3 := hd2.ext hb3
  obtain ⟨k, rfl, hk1, hk2, hk3⟩ := ord_nat ho
  have hask : askE s (toI k) = 0 := by unfold askE; rw [Hokb.out, ho]; rfl
  have Hask := Lib.hid hask
  have hkn : k.length = n := by rw [← toI_len k]; exact Hn.out
  have hna : n = s.acts.length := by omega
  have hn8 : n ≤ 8 := by have := Hok.out.n8; omega
  have Hna := Lib.hid hna
  clear hna
  clear hask ho hbw2 hb3 hm2 hS2 hd2 x0 x1 x2 x3 x4 x5 x6
  have x0 : W3.cell? ⟨w.heap.size, 0, none⟩ = _ := hS3.cell (i := 0) rfl
  have x1 : W3.cell? ⟨w.heap.size, 1, none⟩ = _ := hS3.cell (i := 1) rfl
  have x2 : W3.cell? ⟨w.heap.size, 2, none⟩ = _ := hS3.cell (i := 2) rfl
  have x3 : W3.cell? ⟨w.heap.size, 3, none⟩ = _ := hS3.cell (i := 3) rfl
  have x4 : W3.cell? ⟨w.heap.size, 4, none⟩ = _ := hS3.cell (i := 4) rfl
  have x5 : W3.cell? ⟨w.heap.size, 5, none⟩ = _ := hS3.cell (i := 5) rfl
  have x6 : W3.cell? ⟨w.heap.size, 6, none⟩ = _ := hS3.cell (i := 6) rfl
  go_upto_region 3 with fail
  clear x0 x1 x2 x3 x4 x5 x6
  have x0 : W3.cell? ⟨w.heap.size, 0, none⟩ = _ := hS3.cell (i := 0) rfl
  have x1 : W3.cell? ⟨w.heap.size, 1, none⟩ = _ := hS3.cell (i := 1) rfl
  have x2 : W3.cell? ⟨w.heap.size, 2, none⟩ = _ := hS3.cell (i := 2) rfl
  have x3 : W3.cell? ⟨w.heap.size, 3, none⟩ = _ := hS3.cell (i := 3) rfl
  have x4 : W3.cell? ⟨w.heap.size, 4, none⟩ = _ := hS3.cell (i := 4) rfl
  have x5 : W3.cell? ⟨w.heap.size, 5, none⟩ = _ := hS3.cell (i := 5) rfl
  have x6 : W3.cell? ⟨w.heap.size, 6, none⟩ = _ := hS3.cell (i := 6) rfl
  go_wp2_with fail
  refine (Show_any s p W3 hm3).mono ?_; rintro e W4 ⟨⟨p1, rfl, hm4⟩, hb4⟩
  have hd4 := hd3.ext hb4
  clear x0 x1 x2 x3 x4 x5 x6
  have hE := Blk.new W4 3 []
  have hxE := ext_alloc W4 (.cells #[] 3)
  have ho := OwnL.void (sz := 1) (enc := encI) (base := W4.heap.size) hE (Nat.le_refl _)
  go_wp2_with (at_builtin; refine app_ints 23 3 et23 rfl _ _ rfl W4.heap.size _ [] rfl ho A n c (toI k) Hn.out rfl (hd4.ext hxE) (by simp; omega) (by have := hxE.size; omega) ?_; intro v5 W5 ho5 hb5 _ _; rw [List.nil_append] at ho5; obtain ⟨A5, c5, e5, -, -, hd5⟩ := ho5.cells encI_len; subst e5; rw [Hn.out])
  have hb45 : Below W4.heap.size W4 W5 := hxE.trans hb5
  have CSh := Lib.hid (Sheet_any s p1 A5 n c5 (toI k) W5 (hm4.ext hb45) Hn.out (by omega) hd5)
  go_wp2_with fail
  refine CSh.out.mono ?_; rintro e W6 ⟨⟨v, x, z, rfl, hz, -, hz1⟩, hb6⟩
  have hb46 := ext_trans hb4 (ext_trans hb45 hb6)
  have hm6 := hm3.ext hb46
  have hS6 := hS3.ext hb46
  have hd6 := hd3.ext hb46
  have hbw6 := ext_trans hbw3 hb46
  rw [toI_toNat] at hz1
  unfold rightE at hz
  rw [if_pos Hask.out, toI_toNat] at hz
  clear hm3 hS3 hd3 hbw3 hb4 hb5 hb6 hb45 hb46 hm4 hd4 hd5 CSh ho5 ho hE hxE
  by_cases hft : (s.fault k).2 = 0
  rotate_left
  · rw [if_neg hft] at hz
    subst hz
    clear hft hz1
    go_wp2_with fail
    refine (Rg.hangs_any _).mono ?_; rintro e wz ⟨rfl, hbz⟩
    go_wp2
    go_ret
    exact ⟨rfl, ext_trans hbw6 hbz⟩
  rw [if_pos hft] at hz
  subst hz
  obtain ⟨⟨A7, c7, rfl, -, -, hd7, -⟩, rfl⟩ := hz1 rfl
  have hend := sheet_min Hok.out k
  have hst : (s.sheet k).1.length = n := by
    have hk0 : 0 < k.length := by rw [hk1]; exact Hok.out.n1
    obtain ⟨E, e1, -⟩ := Sh.sheet_facts Hok.out hk0 hk2
    rw [e1, hkn]
  have hmax : (s.sheet k).2 ≤ 8160 := by
    have hk0 : 0 < k.length := by rw [hk1]; exact Hok.out.n1
    obtain ⟨E, -, -, -, -, e5, e6, -⟩ := Sh.sheet_facts Hok.out hk0 hk2
    have := (e6 (k.length - 1) (by omega)).2
    rw [e5]
    omega
  have hmn : isum (k.map fun c => (s.act c).min) = amin s n := by
    have := amin_perm s hk1 hk2 hk3
    rw [this, Hna.out]
  rw [hmn] at hend
  clear hmn
  rw [hst]
  generalize (s.sheet k).2 = en at *
  clear hst hft hd7 hz1 hk1 hk2 hk3 hkn Hask
  have x0 : W6.cell? ⟨w.heap.size, 0, none⟩ = _ := hS6.cell (i := 0) rfl
  go_upto_block 0 with fail
  go_wp2
  clear x0
  go_loopw [14, 15] (fun mi t wr => ∃ i : Nat, mi = .int .i64 (amin s i) ∧ t = .int .i64 i ∧ i ≤ n ∧ Below W6.heap.size W6 wr) (fun _ t _ => n - (intOf t).toNat)
  case atStart => exact ⟨0, rfl, rfl, by omega, Below.refl _ _⟩
  case round =>
    obtain ⟨i, rfl, rfl, hi, hbr⟩ := hrel
    have hbm := amin_bd Hok.out (by have := Hna.out; omega : i ≤ s.acts.length)
    by_cases hlt : i < n
    · have ha : i < s.acts.length := by have := Hna.out; omega
      have hlt' : (i : Int) < (s.acts.length : Int) := by omega
      have hi0 : (0 : Int) ≤ (i : Int) := by omega
      have Hsn := Lib.hid (amin_succ s i)
      have hmn := (Hok.out.act ha).min
      have hm := hm6.ext hbr
      have hS := hS6.ext hbr
      obtain ⟨ba, oa, C, cz, hA, hbb, c0, c1, c2, c3, c4, hcs⟩ := hm.at ha
      rw [hA] at hS
      have x0 : wr.cell? ⟨w.heap.size, 0, none⟩ = _ := hS.cell (i := 0) rfl
      clear hA hm hS hcs c1 c2 c3 c4 hbb
      generalize (s.act i).min = mn at *
      generalize amin s i = y at *
      have w1 : wrap64 (y + mn) = y + mn := by unfold wrap64; omega
      go_wp2
      go_roundw
      case rel => exact ⟨i + 1, by rw [Hsn.out], by go_num, by omega, hbr⟩
      case measure => simp [intOf]; omega
    · obtain rfl : i = n := by omega
      have hS := hS6.ext hbr
      have x0 : wr.cell? ⟨w.heap.size, 0, none⟩ = _ := hS.cell (i := 0) rfl
      have hnl : (i : Int) = (s.acts.length : Int) := by have := Hna.out; omega
      have hnl2 : ¬ (i : Int) < (s.acts.length : Int) := by omega
      have hbf := ext_trans hbw6 hbr
      clear hS hS6 hm6 hbw6 hnl
      generalize amin s i = x at *
      generalize wr = W7 at *
      go_upto_region 11 with fail
      clear x0 hnl2
      have hdb : 1 ≤ 1 + dy % 2000 ∧ 1 + dy % 2000 ≤ 2000 := by omega
      have hhb : 1 ≤ 1 + hr % 20000 ∧ 1 + hr % 20000 ≤ 20000 := by omega
      have v1 : dy.tmod 2000 = dy % 2000 := Int.tmod_eq_emod_of_nonneg hdy.1
      have v2 : hr.tmod 20000 = hr % 20000 := Int.tmod_eq_emod_of_nonneg hhr.1
      have v3 : wrap64 (1 + dy % 2000) = 1 + dy % 2000 := by unfold wrap64; omega
      have v4 : wrap64 (1 + hr % 20000) = 1 + hr % 20000 := by unfold wrap64; omega
      go_upto_region 12 with fail
      have hG := Blk.new W7 42 [.int .i64 (1 + dy % 2000), .int .i64 (1 + hr % 20000)]
      have y1 := ext_alloc W7 (.cells #[.int .i64 (1 + dy % 2000), .int .i64 (1 + hr % 20000)] 42)
      change Blk (W7.alloc (.cells #[.int .i64 (1 + dy % 2000), .int .i64 (1 + hr % 20000)] 42)) _ _ _ at hG
      have hbf := ext_trans hbf y1
      clear v1 v2 v3 v4
      generalize W7.alloc (.cells #[.int .i64 (1 + dy % 2000), .int .i64 (1 + hr % 20000)] 42) = W8 at *
      generalize W7.heap.size = gb at *
      generalize 1 + dy % 2000 = d at *
      generalize 1 + hr % 20000 = h at *
      clear y1 hdy hhr
      have hE := Blk.new W8 45 [.int .i64 day, .int .i64 0, .int .i64 0, .bool true]
      have y1 := ext_alloc W8 (.cells #[.int .i64 day, .int .i64 0, .int .i64 0, .bool true] 45)
      go_upto_region 13 with fail
      change Blk (W8.alloc (.cells #[.int .i64 day, .int .i64 0, .int .i64 0, .bool true] 45)) _ _ _ at hE
      have hG := hG.ext y1
      have hbf := ext_trans hbf y1
      generalize W8.alloc (.cells #[.int .i64 day, .int .i64 0, .int .i64 0, .bool true] 45) = W9 at *
      generalize W8.heap.size = eb at *
      clear y1
      obtain ⟨q1, hq1⟩ : ∃ q, q = (en + 59) / 60 := ⟨_, rfl⟩
      obtain ⟨q2, hq2⟩ : ∃ q, q = (x + 59) / 60 := ⟨_, rfl⟩
      have v1 : wrap64 (en + 59) = en + 59 := by unfold wrap64; omega
      have v2 : wrap64 (x + 59) = x + 59 := by unfold wrap64; omega
      have v3 : (en + 59).tdiv 60 = q1 := by rw [Int.tdiv_eq_ediv_of_nonneg (by omega), hq1]
      have v4 : (x + 59).tdiv 60 = q2 := by rw [Int.tdiv_eq_ediv_of_nonneg (by omega), hq2]
      have v5 : wrap64 q1 = q1 := by unfold wrap64; omega
      have v6 : wrap64 q2 = q2 := by unfold wrap64; omega
      have hqq : 0 ≤ q2 ∧ q2 ≤ q1 := by omega
      have hb1 : 0 ≤ min 24 q1 ∧ min 24 q1 ≤ 24 := by omega
      have hb2 : 0 ≤ min 24 q2 ∧ min 24 q2 ≤ 24 := by omega
      have hb3 : min 24 q2 ≤ min 24 q1 := by omega
      have hd10 : 0 ≤ day ∧ day ≤ 10000 := by omega
      have m1 := untD_mono (d := d) (h := h) (r1 := min 24 q1) (r2 := min 24 q2) (by omega) hb3
      have m2 := untD_le (d := d) (h := h) (r := min 24 q2) (by omega)
      have U1 := Lib.hid (Rg.until_any gb eb 1 d h day (min 24 q1) W9 hdb hhb hd10 hb1 hG ⟨hE.cell (i := 0) rfl, hE.cell (i := 1) rfl, hE.cell (i := 2) rfl, hE.cell (i := 3) rfl⟩)
      have U2 := Lib.hid (fun (W : World) (e cE : Nat) (hG : Blk W gb 42 [.int .i64 d, .int .i64 h]) he => Rg.until_any gb e cE d h day (min 24 q2) W hdb hhb hd10 hb2 hG he)
      generalize untD d h (min 24 q1) = u1 at *
      generalize untD d h (min 24 q2) = u2 at *
      obtain ⟨a1, ha1⟩ : ∃ a, a = day + (u1 : Int) := ⟨_, rfl⟩
      obtain ⟨a2, ha2⟩ : ∃ a, a = day + (u2 : Int) := ⟨_, rfl⟩
      rw [← ha1] at U1
      rw [← ha2] at U2
      have hab : a1 ≤ a2 := by omega
      have had : day ≤ a1 := by omega
      have z1 : wrap64 (day + d) = day + d := by unfold wrap64; omega
      have z2 : wrap64 (day + d + 1) = day + d + 1 := by unfold wrap64; omega
      have hbd : a2 ≤ day + d + 1 := by omega
      clear hq1 hq2 hqq hb1 hb2 hb3 ha1 ha2 m1 m2 hdb hhb hd10
      go_wp2_with fail
      refine U1.out.mono ?_; rintro e W10 ⟨rfl, hb10⟩
      have hG10 := hG.ext hb10
      have hE10 := hE.ext hb10
      have hbf10 := ext_trans hbf hb10
      clear hG hE hbf hb10 U1
      have hV := Blk.new W10 45 []
      have xV := ext_alloc W10 (.cells #[] 45)
      have ho := OwnL.void (sz := 4) (enc := encE) (base := W10.heap.size) hV (Nat.le_refl _)
      go_wp2_with (at_builtin; refine app1 encE 46 45 4 32 et46 (by decide) (by decide) encE_len encE_one rfl _ _ rfl W10.heap.size _ ([] : List Int) rfl ho eb rfl day (fun j u hj => (hE10.ext xV).cell hj) (by simp) (by have := xV.size; omega) ?_; intro g' cap W11 hown hb11 _ _)
      have hb12 : Below W10.heap.size W10 W11 := xV.trans hb11
      have hG11 := hG10.ext hb12
      have hbf11 := ext_trans hbf10 hb12
      have U3 := Lib.hid (U2.out W11 g' cap hG11 (entE hown))
      clear U2 hb12 hb11 hown ho hV xV hG10 hE10 hbf10
      go_wp2_with fail
      refine U3.out.mono ?_; rintro e W12 ⟨rfl, hb13⟩
      have hG12 := hG11.ext hb13
      have hbf12 := ext_trans hbf11 hb13
      have g0 : W12.cell? ⟨gb, 0, none⟩ = _ := hG12.cell (i := 0) rfl
      clear U3 hG11 hbf11 hb13 hG12
      go_wp2_with fail
      refine (Rg.hangs_any _).mono ?_; rintro e wz ⟨rfl, hbz⟩
      go_wp2
      go_ret
      exact ⟨rfl, ext_trans hbf12 hbz⟩
end Go.Proofs.YtilkoooahoecfaaGreat
