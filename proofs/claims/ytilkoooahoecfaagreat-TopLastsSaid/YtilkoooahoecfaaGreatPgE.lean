/- Walks: right, Fault, cost, Cost, Sheet, whole, real, follows. -/
import Derived.Test.YtilkoooahoecfaaGreatPgD
/- Walks: the error, the cost and the sheet of an order. (Printed by mk_prgm.py.) -/
namespace Go.Pg
open Go.Pl
theorem toI_toNat (k : List Nat) : (toI k).map Int.toNat = k := by
  unfold toI; rw [List.map_map]; exact (List.map_congr_left fun x _ => by simp).trans (List.map_id k)
def restS (s : Sh) (k : List Nat) (j : Nat) (e : Int) : List Int × Int := if j = 0 then s.sheet k else s.sheetL (k.getD (j - 1) 0) e (k.drop j)
theorem rest_zero (s : Sh) (k : List Nat) (e : Int) : restS s k 0 e = s.sheet k := rfl
theorem rest_first {s : Sh} {k : List Nat} (h : 0 < k.length) : restS s k 0 0 = ((0 : Int) :: (restS s k 1 (s.act k[0]).min).1, (restS s k 1 (s.act k[0]).min).2) := by
  cases k with
  | nil => simp at h
  | cons a r => rfl
theorem rest_next {s : Sh} {k : List Nat} {j : Nat} (h : j < k.length) (hj : 0 < j) (e : Int) :
    restS s k j e = ((e + s.chM (k.getD (j - 1) 0) k[j]) :: (restS s k (j + 1) (e + s.chM (k.getD (j - 1) 0) k[j] + (s.act k[j]).min)).1, (restS s k (j + 1) (e + s.chM (k.getD (j - 1) 0) k[j] + (s.act k[j]).min)).2) := by
  unfold restS
  rw [if_neg (by omega), if_neg (by omega), List.drop_eq_getElem_cons h, Sh.sheetL]
  simp [h]
theorem rest_end {s : Sh} {k : List Nat} {j : Nat} (h : k.length ≤ j) (hj : 0 < j) (e : Int) : restS s k j e = ([], e) := by
  unfold restS
  rw [if_neg (by omega), List.drop_eq_nil_of_le h, Sh.sheetL]
end Go.Pg
namespace Go.Proofs.YtilkoooahoecfaaGreat
open Go.RowKit Go.Bs Go.Pg Go.Pl Go.Sort
/-- the error of what must be a programme -/
def rightE (s : Sh) (l : List Int) : Int := if askE s l = 0 then if (s.fault (l.map Int.toNat)).2 = 0 then 0 else 9 else askE s l
theorem ask_zero {s : Sh} {l : List Int} (h : askE s l = 0) : s.okB = true ∧ ordB s.acts.length l = true := by
  unfold askE at h
  split at h
  · rename_i h1
    split at h
    · rename_i h2; exact ⟨h1, h2⟩
    · omega
  · omega
theorem fault_of (s : Sh) (p : ShP) (A : Option Addr) (n c : Nat) (l : List Int) (w W : World) (h : ShM w s p) (hn : l.length = n) (hm : n ≤ 12) (hd : Cells w A 1 encI l) (hz : askE s l = 0) (hW : Below w.heap.size w W) :
    Calls Tryz.prog 29 #[shV s p, .slice A n c] W fun e w' => e = .returned (.tuple #[.int .i64 (s.fault (l.map Int.toNat)).1, .int .u8 (s.fault (l.map Int.toNat)).2]) ∧ Below W.heap.size W w' := by
  obtain ⟨h1, h2⟩ := ask_zero hz
  obtain ⟨k, rfl, k1, k2, k3⟩ := ord_nat h2
  rw [toI_toNat]
  exact fault_any s p A n c k W (h.ext hW) (Sh.ok_of h1) k2 (by rw [← toI_len, hn]) (by omega) (hd.ext hW)
theorem faultL_le (s : Sh) : ∀ (k : List Nat) (i : Nat) (last sec : Int) (set : Nat), (s.faultL k i last sec set).2 ≤ 3
  | [], _, _, _, _ => by simp [Sh.faultL]
  | a :: r, i, last, sec, set => by
    rw [Sh.faultL]
    split
    · exact faultL_le s r _ _ _ _
    · exact why_le s a last sec set
theorem right_any (s : Sh) (p : ShP) (A : Option Addr) (n c : Nat) (l : List Int) (w : World) (h : ShM w s p) (hn : l.length = n) (hm : n ≤ 12) (hd : Cells w A 1 encI l) :
    Calls Tryz.prog 14 #[shV s p, .slice A n c] w fun e w' => e = .returned (.int .i64 (rightE s l)) ∧ Below w.heap.size w w' := by
  have hb0 := ext_alloc w (.cells (shC s p).toArray 36)
  have hS := Blk.new w 36 (shC s p)
  have C1 := Lib.hid (asked_any s p A n c l (w.alloc (.cells (shC s p).toArray 36)) (h.ext hb0) hn hm (hd.ext hb0))
  have C2 := Lib.hid (fun W (hz : askE s l = 0) (hW : Below w.heap.size w W) => fault_of s p A n c l w W h hn hm hd hz hW)
  have hf3 := faultL_le s (l.map Int.toNat) 0 (-1) (-1) 0
  change (s.fault (l.map Int.toNat)).2 ≤ 3 at hf3
  unfold rightE
  generalize s.fault (l.map Int.toNat) = ft at *
  obtain ⟨f1, f2⟩ := ft
  simp only at C2 hf3 ⊢
  generalize askE s l = ek at *
  clear h hd hn
  unfold shV at *
  unfold shC at *
  go_enter Tryz.func14, Tryz.ntmps14
  go_upto_region 1 with fail
  generalize w.alloc (.cells #[.slice p.A s.acts.length p.cA, .slice p.R s.rest.length p.cR, .slice p.I s.ins.length p.cI, .slice p.O s.outs.length p.cO, .int .i64 s.cover, .int .i64 s.dull, .slice p.B s.before.length p.cB] 36) = W0 at *
  have x0 : W0.cell? ⟨w.heap.size, 0, none⟩ = _ := hS.cell (i := 0) rfl
  have x1 : W0.cell? ⟨w.heap.size, 1, none⟩ = _ := hS.cell (i := 1) rfl
  have x2 : W0.cell? ⟨w.heap.size, 2, none⟩ = _ := hS.cell (i := 2) rfl
  have x3 : W0.cell? ⟨w.heap.size, 3, none⟩ = _ := hS.cell (i := 3) rfl
  have x4 : W0.cell? ⟨w.heap.size, 4, none⟩ = _ := hS.cell (i := 4) rfl
  have x5 : W0.cell? ⟨w.heap.size, 5, none⟩ = _ := hS.cell (i := 5) rfl
  have x6 : W0.cell? ⟨w.heap.size, 6, none⟩ = _ := hS.cell (i := 6) rfl
  go_wp2_with fail
  refine C1.out.mono ?_; rintro e W1 ⟨rfl, hb1⟩
  have hw1 := hb0.trans (hb1.mono hb0.size)
  have hS1 := hS.ext hb1
  clear x0 x1 x2 x3 x4 x5 x6
  have x0 : W1.cell? ⟨w.heap.size, 0, none⟩ = _ := hS1.cell (i := 0) rfl
  have x1 : W1.cell? ⟨w.heap.size, 1, none⟩ = _ := hS1.cell (i := 1) rfl
  have x2 : W1.cell? ⟨w.heap.size, 2, none⟩ = _ := hS1.cell (i := 2) rfl
  have x3 : W1.cell? ⟨w.heap.size, 3, none⟩ = _ := hS1.cell (i := 3) rfl
  have x4 : W1.cell? ⟨w.heap.size, 4, none⟩ = _ := hS1.cell (i := 4) rfl
  have x5 : W1.cell? ⟨w.heap.size, 5, none⟩ = _ := hS1.cell (i := 5) rfl
  have x6 : W1.cell? ⟨w.heap.size, 6, none⟩ = _ := hS1.cell (i := 6) rfl
  by_cases hz : ek = 0
  · subst hz
    have CC := Lib.hid (C2.out W1 rfl hw1)
    clear C2 C1
    go_wp2_with fail
    refine CC.out.mono ?_; rintro e W2 ⟨rfl, hb2⟩
    by_cases h0 : f2 = 0
    · subst h0
      go_wp2
      go_ret
      exact ⟨rfl, hw1.trans (hb2.mono hw1.size)⟩
    · have h0' : ((f2 : Int) != 0) = true := by simp; omega
      have H0 := Lib.hid h0
      go_wp2
      go_ret
      exact ⟨by simp, hw1.trans (hb2.mono hw1.size)⟩
  · have hz' : (ek != 0) = true := by simpa using hz
    have Hz := Lib.hid hz
    clear hz C2
    go_wp2
    go_ret
    exact ⟨by simp, hw1⟩
def FltR (s : Sh) (l : List Int) (e : Ending) : Prop := ∃ (x : Int) (y : Nat) (z : Int), e = .returned (.tuple #[.int .i64 x, .int .u8 y, .int .i64 z]) ∧
  (askE s l ≠ 0 → x = 0 ∧ y = 0 ∧ z = askE s l) ∧ (askE s l = 0 → (s.fault (l.map Int.toNat)).2 = 0 → x = 0 ∧ y = 0 ∧ z = 7) ∧ (askE s l = 0 → (s.fault (l.map Int.toNat)).2 ≠ 0 → x = (s.fault (l.map Int.toNat)).1 ∧ y = (s.fault (l.map Int.toNat)).2 ∧ z = 0)
end Go.Proofs.YtilkoooahoecfaaGreat

/- Walks: the cost and the sheet of a programme. (Printed by mk_prgn.py.) -/
namespace Go.Proofs.YtilkoooahoecfaaGreat
open Go.RowKit Go.Bs Go.Pg Go.Pl Go.Sort
theorem right_zero {s : Sh} {l : List Int} (h : rightE s l = 0) : s.Ok ∧ ∃ k, l = toI k ∧ k.length = s.acts.length ∧ (∀ i ∈ k, i < s.acts.length) ∧ k.Nodup ∧ (s.fault k).2 = 0 := by
  unfold rightE at h
  split at h
  · rename_i hz
    obtain ⟨h1, h2⟩ := ask_zero hz
    obtain ⟨k, rfl, k1, k2, k3⟩ := ord_nat h2
    rw [toI_toNat] at h
    split at h
    · rename_i hf; exact ⟨Sh.ok_of h1, k, rfl, k1, k2, k3, hf⟩
    · omega
  · rename_i hz; exact absurd h hz
def CstR (s : Sh) (l : List Int) (e : Ending) : Prop := ∃ x z : Int, e = .returned (.tuple #[.int .i64 x, .int .i64 z]) ∧ z = rightE s l ∧ (z ≠ 0 → x = 0) ∧ (z = 0 → x = s.cost (l.map Int.toNat))
def ShtR (w : World) (s : Sh) (l : List Int) (e : Ending) (w' : World) : Prop := ∃ (v : Value) (x z : Int), e = .returned (.tuple #[v, .int .i64 x, .int .i64 z]) ∧ z = rightE s l ∧ (z ≠ 0 → v = .slice none 0 0 ∧ x = 0) ∧
  (z = 0 → FreshL w w' 1 encI v (s.sheet (l.map Int.toNat)).1 ∧ x = (s.sheet (l.map Int.toNat)).2)
set_option maxRecDepth 100000 in
set_option maxHeartbeats 4000000 in
theorem Sheet_any (s : Sh) (p : ShP) (A : Option Addr) (n c : Nat) (l : List Int) (w : World) (h : ShM w s p) (hn : l.length = n) (hm : n ≤ 12) (hd : Cells w A 1 encI l) :
    Calls Tryz.prog 8 #[shV s p, .slice A n c] w fun e w' => ShtR w s l e w' ∧ Below w.heap.size w w' := by
  have hb0 := ext_alloc w (.cells (shC s p).toArray 36)
  have hS := Blk.new w 36 (shC s p)
  have hs0 : (w.alloc (.cells (shC s p).toArray 36)).heap.size = w.heap.size + 1 := by simp
  have C1 := Lib.hid (right_any s p A n c l (w.alloc (.cells (shC s p).toArray 36)) (h.ext hb0) hn hm (hd.ext hb0))
  have HG := Lib.hid (show ∀ ek, rightE s l = ek → ∀ r, s.sheet (l.map Int.toNat) = r → ∀ (v : Value) (x : Int) (w' : World), (ek ≠ 0 → v = .slice none 0 0 ∧ x = 0) → (ek = 0 → FreshL w w' 1 encI v r.1 ∧ x = r.2) → ShtR w s l (.returned (.tuple #[v, .int .i64 x, .int .i64 ek])) w' from fun ek e1 r e2 v x w' h1 h2 => ⟨v, x, ek, rfl, e1.symm, h1, by rw [e2]; exact h2⟩)
  have HZ := Lib.hid (fun hz => right_zero (s := s) (l := l) hz)
  generalize hek : rightE s l = ek at *
  generalize hrr : s.sheet (l.map Int.toNat) = rr at *
  have HH := Lib.hid (HG.out ek rfl rr rfl)
  have HM := Lib.hid (fun W (hW : Below w.heap.size w W) => h.ext hW)
  have Hn := Lib.hid hn
  have Hrr := Lib.hid hrr
  clear h hn HG hek hrr
  unfold shV at *
  unfold shC at *
  go_enter Tryz.func8, Tryz.ntmps8
  go_upto_region 1 with fail
  generalize w.alloc (.cells #[.slice p.A s.acts.length p.cA, .slice p.R s.rest.length p.cR, .slice p.I s.ins.length p.cI, .slice p.O s.outs.length p.cO, .int .i64 s.cover, .int .i64 s.dull, .slice p.B s.before.length p.cB] 36) = W0 at *
  have x0 : W0.cell? ⟨w.heap.size, 0, none⟩ = _ := hS.cell (i := 0) rfl
  have x1 : W0.cell? ⟨w.heap.size, 1, none⟩ = _ := hS.cell (i := 1) rfl
  have x2 : W0.cell? ⟨w.heap.size, 2, none⟩ = _ := hS.cell (i := 2) rfl
  have x3 : W0.cell? ⟨w.heap.size, 3, none⟩ = _ := hS.cell (i := 3) rfl
  have x4 : W0.cell? ⟨w.heap.size, 4, none⟩ = _ := hS.cell (i := 4) rfl
  have x5 : W0.cell? ⟨w.heap.size, 5, none⟩ = _ := hS.cell (i := 5) rfl
  have x6 : W0.cell? ⟨w.heap.size, 6, none⟩ = _ := hS.cell (i := 6) rfl
  go_wp2_with fail
  refine C1.out.mono ?_; rintro e W1 ⟨rfl, hb1⟩
  have hw1 := hb0.trans (hb1.mono hb0.size)
  have hS1 := hS.ext hb1
  have hsz1 : w.heap.size + 1 ≤ W1.heap.size := by have := hb1.size; omega
  clear x0 x1 x2 x3 x4 x5 x6
  clear C1 hS hb0 hb1 hs0
  by_cases hz : ek = 0
  · subst hz
    obtain ⟨hok, k, rfl, -, k2, -, -⟩ := HZ.out rfl
    have Hr2 := Lib.hid (show s.sheet k = rr by rw [← Hrr.out, toI_toNat])
    have hkn : k.length = n := by rw [← toI_len]; exact Hn.out
    have CH := Lib.hid (fun W (hW : Below w.heap.size w W) (i j : Nat) (hi : i < s.acts.length) (hj : j < s.acts.length) => change_any s p i j W ((HM.out W hW)) hok hi hj)
    have HC := Lib.hid (fun i j => hok.chM i j)
    have HA := Lib.hid (fun i (hi : i < s.acts.length) => (hok.act hi).min)
    have Hk := Lib.hid k2
    have Hkn := Lib.hid hkn
    clear hok k2 hkn HZ Hrr Hn
    have hlen9 : n ≤ 12 := hm
    go_wp2
    go_loopw [4, 5, 20] (fun v e x wr => ∃ (j : Nat) (Tl : List Int) (t : Int), e = .int .i64 t ∧ x = .int .i64 j ∧ j ≤ n ∧ Tl.length = j ∧ 0 ≤ t ∧ t ≤ 1020 * j ∧ Hid ((j = 0 → t = 0) ∧ Tl ++ (restS s k j t).1 = rr.1 ∧ (restS s k j t).2 = rr.2) ∧ OwnL wr (w.heap.size + 1) 3 1 encI v Tl ∧ Below w.heap.size w wr ∧ Blk wr w.heap.size 36 [.slice p.A s.acts.length p.cA, .slice p.R s.rest.length p.cR, .slice p.I s.ins.length p.cI, .slice p.O s.outs.length p.cO, .int .i64 s.cover, .int .i64 s.dull, .slice p.B s.before.length p.cB])
      (fun _ _ x _ => n - (intOf x).toNat)
    case atStart => exact ⟨0, [], 0, rfl, rfl, by omega, rfl, by omega, by omega, Lib.hid ⟨fun _ => rfl, by rw [rest_zero, List.nil_append, Hr2.out], by rw [rest_zero, Hr2.out]⟩, OwnL.nil, hw1, hS1⟩
    case round =>
      obtain ⟨j, Tl, t, rfl, rfl, hj, hTl, ht0, ht1, Hrs, hown, hbr, hSr⟩ := hrel
      have HTl := Lib.hid hTl
      clear hw1 hS1 hsz1 hTl
      by_cases hlt : j < n
      · have hjk : j < k.length := by rw [Hkn.out]; exact hlt
        obtain ⟨b, o, rfl, -, c0⟩ := (hd.ext hbr).at1 (k := j) (by rw [toI_len]; exact hjk) rfl
        rw [toI_get hjk] at c0
        have l1 := Hk.out _ (List.getElem_mem hjk)
        have hmn := HA.out _ l1
        have hlt' : (j : Int) < n := by omega
        have hj0 : (0 : Int) ≤ j := by omega
        by_cases hj00 : j = 0
        · subst hj00
          rw [Nat.add_zero] at c0
          have ht : t = 0 := Hrs.out.1 rfl
          subst ht
          have hrs := Hrs.out.2
          rw [rest_first hjk] at hrs
          have Hn2 := Lib.hid (show Tl ++ [(0 : Int)] ++ (restS s k (0 + 1) (s.act k[0]).min).1 = rr.1 ∧ (restS s k (0 + 1) (s.act k[0]).min).2 = rr.2 from by
            exact ⟨by rw [← hrs.1]; simp, hrs.2⟩)
          clear hrs Hrs
          generalize k[0] = a1 at *
          have hoV := hown
          have hbV := hbr
          have hSV := hSr
          clear hown hbr hSr
          generalize wr = V at *
          have hnew := Blk.new V 3 [.int .i64 (0)]
          have hba := ext_alloc V (.cells #[.int .i64 (0)] 3)
          go_upto_region 10 with fail
          go_upto_region 11 with (at_builtin; refine app1 encI 23 3 1 8 et23 (by decide) (by decide) encI_len encI_one rfl _ _ rfl (w.heap.size + 1) _ Tl rfl (hoV.alloc _) V.heap.size rfl (0) (encI_cell (hnew.cell rfl)) (by have := HTl.out; omega) (by have := hbV.size; have := hSV.lt; simp; omega) ?_; intro g' cap' V2 hown' hb3 hgr3 hat3; have hb4 : RowKit.Below (w.heap.size + 1) V V2 := (hba.mono (by have := hSV.lt; omega)).trans hb3; have hbw4 := hbV.trans (hb4.mono (by omega)); have hS4 : Blk V2 w.heap.size 36 [.slice p.A s.acts.length p.cA, .slice p.R s.rest.length p.cR, .slice p.I s.ins.length p.cI, .slice p.O s.outs.length p.cO, .int .i64 s.cover, .int .i64 s.dull, .slice p.B s.before.length p.cB] := (hb4.block w.heap.size (by omega)).trans hSV; obtain ⟨bm, om, Cm, cm2, hAm, lm, am, am1, am2, am3, am4, hm5⟩ := (HM.out V2 hbw4).at l1; have x0 := hS4.cell (i := 0) rfl; rw [hAm] at x0; clear hAm am1 am2 am3 am4 hm5; have hown4 := hown'; clear hown' hb3 hgr3 hat3 hb4)
          have hT1 : (Tl ++ [0]).length = 0 + 1 := by rw [List.length_append, HTl.out]; rfl
          have HT1 := Lib.hid hT1
          clear hnew hba hoV hbV hSV hT1
          have hal : (a1 : Int) < (s.acts.length : Int) := by omega
          go_wp2
          go_roundw
          case rel => exact ⟨0 + 1, Tl ++ [0], _, rfl, by go_num, by omega, HT1.out, by omega, by omega, Lib.hid ⟨fun h => by omega, Hn2.out.1, Hn2.out.2⟩, hown4, hbw4, hS4⟩
          case measure => simp [intOf]; omega
        · have hjk0 : j - 1 < k.length := by omega
          have hg0 : k.getD (j - 1) 0 = k[j - 1] := by simp [hjk0]
          have hrs := Hrs.out.2
          rw [rest_next hjk (by omega), hg0] at hrs
          have l0 := Hk.out _ (List.getElem_mem hjk0)
          have hcm := HC.out k[j - 1] k[j]
          have Hn2 := Lib.hid (show Tl ++ [t + s.chM k[j - 1] k[j]] ++ (restS s k (j + 1) (t + s.chM k[j - 1] k[j] + (s.act k[j]).min)).1 = rr.1 ∧ (restS s k (j + 1) (t + s.chM k[j - 1] k[j] + (s.act k[j]).min)).2 = rr.2 from
            ⟨by rw [← hrs.1]; simp, hrs.2⟩)
          clear hrs Hrs hg0
          have hjp : (0 : Int) < j := by omega
          have hjm : (j : Int) - 1 < n := by omega
          have hj9 : (0 : Int) ≤ (j : Int) - 1 := by omega
          go_upto_region 8 with fail
          refine Dr.wp_region_plan 13 [] (.q [0, 1, 2, 3, 4, 5, 6] (.e1 7 (.q [8, 9, 10, 11, 12] .done))) (by kernel_rfl) (by kernel_rfl) ?_
          have hb1 := hbr.drew
          have hS1 := hSr.ext (ext_drew wr)
          have ho1 := hown.drew
          clear hbr hSr hown
          generalize World.drew _ = W at *
          obtain ⟨b', o', hA', -, c1⟩ := (hd.ext hb1).at1 (k := j - 1) (by rw [toI_len]; exact hjk0) rfl
          obtain ⟨rfl, rfl⟩ : b = b' ∧ o = o' := by simpa using hA'
          clear hA' c0
          rw [toI_get hjk0] at c1
          generalize k[j - 1] = a0 at *
          generalize k[j] = a1 at *
          obtain ⟨i, rfl⟩ : ∃ i, j = i + 1 := ⟨j - 1, by omega⟩
          simp only [Nat.add_sub_cancel] at c1
          have q0 := Dr.cell0 (hS1.cell (i := 0) rfl)
          have q1 := Dr.cell0 (hS1.cell (i := 1) rfl)
          have q2 := Dr.cell0 (hS1.cell (i := 2) rfl)
          have q3 := Dr.cell0 (hS1.cell (i := 3) rfl)
          have q4 := Dr.cell0 (hS1.cell (i := 4) rfl)
          have q5 := Dr.cell0 (hS1.cell (i := 5) rfl)
          have q6 := Dr.cell0 (hS1.cell (i := 6) rfl)
          have r1 := Dr.cell0 c1
          refine Dr.plan_q (l := [_, _, _, _, _, _, _]) rfl (fun K hK => ?_)
          iterate 7 (go_big_quiet_step (fail))
          refine wpQuiet_nil (hK _ ?_); clear hK K
          clear q0 q1 q2 q3 q4 q5 q6
          clear r1 c1
          have CC := Lib.hid (CH.out W hb1 a0 a1 l0 l1)
          refine Dr.plan_e rfl (by rfl) (fun K hK => ?_)
          go_wp2_with fail
          refine CC.out.mono ?_; rintro e V ⟨rfl, hx1⟩
          refine hK _ _ (.of hx1) ?_; clear hK K CC
          have hbV := hb1.trans (hx1.mono hb1.size)
          have hSV := hS1.ext hx1
          have hoV := ho1.ext hx1
          clear hb1 hS1 hx1 ho1
          refine Dr.plan_q (l := [_, _, _, _, _]) rfl (fun K hK => ?_)
          iterate 5 (go_big_quiet_step (fail))
          refine wpQuiet_nil (hK _ ?_); clear hK K
          refine Dr.plan_end rfl ?_
          generalize s.chM a0 a1 = cm at *
          have hnew := Blk.new V 3 [.int .i64 (t + cm)]
          have hba := ext_alloc V (.cells #[.int .i64 (t + cm)] 3)
          go_upto_region 10 with fail
          go_upto_region 11 with (at_builtin; refine app1 encI 23 3 1 8 et23 (by decide) (by decide) encI_len encI_one rfl _ _ rfl (w.heap.size + 1) _ Tl rfl (hoV.alloc _) V.heap.size rfl (t + cm) (encI_cell (hnew.cell rfl)) (by have := HTl.out; omega) (by have := hbV.size; have := hSV.lt; simp; omega) ?_; intro g' cap' V2 hown' hb3 hgr3 hat3; have hb4 : RowKit.Below (w.heap.size + 1) V V2 := (hba.mono (by have := hSV.lt; omega)).trans hb3; have hbw4 := hbV.trans (hb4.mono (by omega)); have hS4 : Blk V2 w.heap.size 36 [.slice p.A s.acts.length p.cA, .slice p.R s.rest.length p.cR, .slice p.I s.ins.length p.cI, .slice p.O s.outs.length p.cO, .int .i64 s.cover, .int .i64 s.dull, .slice p.B s.before.length p.cB] := (hb4.block w.heap.size (by omega)).trans hSV; obtain ⟨bm, om, Cm, cm2, hAm, lm, am, am1, am2, am3, am4, hm5⟩ := (HM.out V2 hbw4).at l1; have x0 := hS4.cell (i := 0) rfl; rw [hAm] at x0; clear hAm am1 am2 am3 am4 hm5; have hown4 := hown'; clear hown' hb3 hgr3 hat3 hb4)
          have hT1 : (Tl ++ [t + cm]).length = (i + 1) + 1 := by rw [List.length_append, HTl.out]; rfl
          have HT1 := Lib.hid hT1
          clear hnew hba hoV hbV hSV hT1
          have hal : (a1 : Int) < (s.acts.length : Int) := by omega
          go_wp2
          go_roundw
          case rel => exact ⟨(i + 1) + 1, Tl ++ [t + cm], _, rfl, by go_num, by omega, HT1.out, by omega, by omega, Lib.hid ⟨fun h => by omega, Hn2.out.1, Hn2.out.2⟩, hown4, hbw4, hS4⟩
          case measure => simp [intOf]; omega
      · obtain rfl : j = n := by omega
        have hrs := Hrs.out
        have Hfin : Hid (Tl = rr.1 ∧ t = rr.2) := Lib.hid (by
          rcases Nat.eq_zero_or_pos j with h0 | h0
          · subst h0
            have hk0 : k = [] := List.length_eq_zero_iff.1 Hkn.out
            rw [hk0] at hrs
            refine ⟨by rw [← hrs.2.1]; simp [restS, Sh.sheet], by rw [← hrs.2.2, hrs.1 rfl]; simp [restS, Sh.sheet]⟩
          · rw [rest_end (by rw [Hkn.out]; omega) h0] at hrs
            exact ⟨by rw [← hrs.2.1]; simp, hrs.2.2⟩)
        obtain ⟨A1, c1, hv, -, -, -⟩ := hown.cells encI_len
        subst hv
        clear hrs Hrs
        go_wp2
        refine bodyPost_ret (v := .tuple #[.slice A1 Tl.length c1, .int .i64 t, .int .i64 0]) (by simp [results, Tryz.results8, go_sem]) rfl ?_
        exact ⟨HH.out _ _ _ (fun h => absurd rfl h) (fun _ => ⟨by rw [← Hfin.out.1]; exact FreshL.of_own hown encI_len (by omega), Hfin.out.2⟩), hbr⟩
  · have hz' : (ek != 0) = true := by simpa using hz
    have Hz := Lib.hid hz
    clear hz HZ
    go_wp2
    refine bodyPost_ret (v := .tuple #[.slice none 0 0, .int .i64 0, .int .i64 ek]) (by simp [results, Tryz.results8, go_sem]) rfl ?_
    exact ⟨HH.out _ _ _ (fun _ => ⟨rfl, rfl⟩) (fun h => absurd h Hz.out), hw1⟩
end Go.Proofs.YtilkoooahoecfaaGreat

/- Walks: the set of all acts; is a state one; the acts that may follow, or come first. (Printed by mk_prgo.py.) -/
namespace Go.Pg
open Go.RowKit Go.Bs Go.Pl
def folTo (s : Sh) (x : St) (c : Nat) : List Nx := ((List.range c).filter (s.may x)).map (s.nx x)
theorem folTo_hit {s : Sh} {x : St} {c : Nat} (h : s.may x c = true) : folTo s x (c + 1) = folTo s x c ++ [s.nx x c] := by
  unfold folTo; rw [List.range_succ, List.filter_append, List.map_append]; simp [h]
theorem folTo_miss {s : Sh} {x : St} {c : Nat} (h : s.may x c = false) : folTo s x (c + 1) = folTo s x c := by
  unfold folTo; rw [List.range_succ, List.filter_append, List.map_append]; simp [h]
theorem folTo_len (s : Sh) (x : St) (c : Nat) : (folTo s x c).length ≤ c := by
  unfold folTo; rw [List.length_map]; exact Nat.le_trans (List.length_filter_le _ _) (by simp)
theorem folTo_end (s : Sh) (x : St) : folTo s x s.acts.length = s.fol x := rfl
def firTo (s : Sh) (c : Nat) : List Nat := (List.range c).filter s.first
theorem firTo_hit {s : Sh} {c : Nat} (h : s.first c = true) : firTo s (c + 1) = firTo s c ++ [c] := by
  unfold firTo; rw [List.range_succ, List.filter_append]; simp [h]
theorem firTo_miss {s : Sh} {c : Nat} (h : s.first c = false) : firTo s (c + 1) = firTo s c := by
  unfold firTo; rw [List.range_succ, List.filter_append]; simp [h]
theorem firTo_len (s : Sh) (c : Nat) : (firTo s c).length ≤ c := by
  unfold firTo; exact Nat.le_trans (List.length_filter_le _ _) (by simp)
def stC (x : St) : List Value := [.int .u16 x.set, .int .i64 x.last, .int .i64 x.sec]
/-- a state of a show -/
structure StOk (s : Sh) (x : St) : Prop where
  set : x.set < 2 ^ s.acts.length
  last : x.last < s.acts.length
  sec : x.sec < s.acts.length
theorem StOk.lt {s : Sh} {x : St} (h : StOk s x) (hok : s.Ok) : x.set < 65536 := Nat.lt_of_lt_of_le h.set (show 2 ^ s.acts.length ≤ 2 ^ 16 from Nat.pow_le_pow_right (by omega) (by have := hok.n8; omega))
theorem StOk.to {s : Sh} {x : St} {c : Nat} (h : StOk s x) (hc : c < s.acts.length) : StOk s (Sh.to x c) := ⟨or_lt h.set hc, hc, h.last⟩
theorem StOk.fol {s : Sh} {x : St} {y : Nx} (h : StOk s x) (hy : y ∈ s.fol x) : StOk s y.st := by
  obtain ⟨c, h1, -, rfl⟩ := Sh.fol_mem hy
  exact h.to h1
theorem StOk.one {s : Sh} {a : Nat} (h : a < s.acts.length) : StOk s (Sh.one a) := ⟨Sh.one_lt h, h, h⟩
theorem pow16 {a : Nat} (ha : a < 16) : IntKind.u16.wrap ((2 : Int) ^ a) = ((2 ^ a : Nat) : Int) := by
  have h2 : 2 ^ a < 65536 := Nat.lt_of_le_of_lt (Nat.pow_le_pow_right (by omega) (show a ≤ 15 by omega)) (by decide)
  rw [IntKind.wrap_u16, show ((2 : Int) ^ a) = ((2 ^ a : Nat) : Int) by norm_cast]
  exact Int.emod_eq_of_lt (Int.natCast_nonneg _) (show ((2 ^ a : Nat) : Int) < ((65536 : Nat) : Int) from Int.ofNat_lt.2 h2)
end Go.Pg
namespace Go.Proofs.YtilkoooahoecfaaGreat
open Go.RowKit Go.Bs Go.Pg Go.Pl Go.Sort
end Go.Proofs.YtilkoooahoecfaaGreat

/- Walk: the acts that may follow. (Printed by mk_prgo.py.) -/
namespace Go.Bs
open Go.RowKit
theorem OwnL.up {α : Type} {w : World} {base b2 : Nat} {e : TypeId} {sz : Nat} {enc : α → List Value} {v : Value} {l : List α} (h : OwnL w base e sz enc v l) (hb : b2 ≤ base) : OwnL w b2 e sz enc v l := by
  obtain ⟨h1, h2⟩ := h
  refine ⟨h1, h2.imp id ?_⟩
  rintro ⟨g, cap, cur, h3, h4, h5⟩
  exact ⟨g, cap, cur, h3, Nat.le_trans hb h4, h5⟩
end Go.Bs
namespace Go.Proofs.YtilkoooahoecfaaGreat
open Go.RowKit Go.Bs Go.Pg Go.Pl Go.Sort
end Go.Proofs.YtilkoooahoecfaaGreat
