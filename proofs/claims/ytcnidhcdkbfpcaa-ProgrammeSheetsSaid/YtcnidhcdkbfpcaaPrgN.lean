/- Walks: the cost and the sheet of a programme. (Printed by mk_prgn.py.) -/
import Derived.Test.YtcnidhcdkbfpcaaPrgM
namespace Go.Proofs.Ytcnidhcdkbfpcaa
open Go.RowKit Go.Bs Go.Pg Go.Pl Go.Sort
theorem right_zero {s : Sh} {l : List Int} (h : rightE s l = 0) : s.Ok ∧ ∃ k, l = toI k ∧ k.length = s.acts.length ∧ (∀ i ∈ k, i < s.acts.length) ∧ k.Nodup ∧ (s.fault k).2 = 0 := by
  unfold rightE at h
  split at h
  · rename_i hz
    obtain ⟨h1, h2⟩ := ask_zero hz
    obtain ⟨k, rfl, k1, k2, k3⟩ := ord_nat h2
    rw [toI_toNat] at h
    split at h
    · rename_i hf; exact ⟨Sh.ok_of h1, k, rfl, k1, k2, k3, hf⟩
    · omega
  · rename_i hz; exact absurd h hz
def CstR (s : Sh) (l : List Int) (e : Ending) : Prop := ∃ x z : Int, e = .returned (.tuple #[.int .i64 x, .int .i64 z]) ∧ z = rightE s l ∧ (z ≠ 0 → x = 0) ∧ (z = 0 → x = s.cost (l.map Int.toNat))
theorem Cost_any (s : Sh) (p : ShP) (A : Option Addr) (n c : Nat) (l : List Int) (w : World) (h : ShM w s p) (hn : l.length = n) (hm : n ≤ 12) (hd : Cells w A 1 encI l) :
    Calls Try.prog 33 #[shV s p, .slice A n c] w fun e w' => CstR s l e ∧ Below w.heap.size w w' := by
  have hb0 := ext_alloc w (.cells (shC s p).toArray 35)
  have hS := Blk.new w 35 (shC s p)
  have C1 := Lib.hid (right_any s p A n c l (w.alloc (.cells (shC s p).toArray 35)) (h.ext hb0) hn hm (hd.ext hb0))
  have C2 := Lib.hid (fun W (hz : rightE s l = 0) (hW : Below w.heap.size w W) => show Calls Try.prog 57 #[shV s p, .slice A n c] W (fun e w' => e = .returned (.int .i64 (s.cost (l.map Int.toNat))) ∧ Below W.heap.size W w') from by
    obtain ⟨hok, k, rfl, k1, k2, -, -⟩ := right_zero hz
    rw [toI_toNat]
    exact cost_any s p A n c k W (h.ext hW) hok k2 (by rw [← toI_len, hn]) (by omega) (hd.ext hW))
  have HG := Lib.hid (show ∀ ek, rightE s l = ek → ∀ cv, s.cost (l.map Int.toNat) = cv → ∀ x : Int, (ek ≠ 0 → x = 0) → (ek = 0 → x = cv) → CstR s l (.returned (.tuple #[.int .i64 x, .int .i64 ek])) from fun ek e1 cv e2 x h1 h2 => ⟨x, ek, rfl, e1.symm, h1, by rw [e2]; exact h2⟩)
  generalize hek : rightE s l = ek at *
  generalize hcv : s.cost (l.map Int.toNat) = cv at *
  have HH := Lib.hid (HG.out ek rfl cv rfl)
  clear h hd hn HG hek hcv
  unfold shV at *
  unfold shC at *
  go_enter Try.func33, Try.ntmps33
  go_upto_region 1 with fail
  generalize w.alloc (.cells #[.slice p.A s.acts.length p.cA, .slice p.R s.rest.length p.cR, .slice p.I s.ins.length p.cI, .slice p.O s.outs.length p.cO, .int .i64 s.cover, .int .i64 s.dull, .slice p.B s.before.length p.cB] 35) = W0 at *
  have x0 : W0.cell? ⟨w.heap.size, 0, none⟩ = _ := hS.cell (i := 0) rfl
  have x1 : W0.cell? ⟨w.heap.size, 1, none⟩ = _ := hS.cell (i := 1) rfl
  have x2 : W0.cell? ⟨w.heap.size, 2, none⟩ = _ := hS.cell (i := 2) rfl
  have x3 : W0.cell? ⟨w.heap.size, 3, none⟩ = _ := hS.cell (i := 3) rfl
  have x4 : W0.cell? ⟨w.heap.size, 4, none⟩ = _ := hS.cell (i := 4) rfl
  have x5 : W0.cell? ⟨w.heap.size, 5, none⟩ = _ := hS.cell (i := 5) rfl
  have x6 : W0.cell? ⟨w.heap.size, 6, none⟩ = _ := hS.cell (i := 6) rfl
  go_wp2_with fail
  refine C1.out.mono ?_; rintro e W1 ⟨rfl, hb1⟩
  have hw1 := hb0.trans (hb1.mono hb0.size)
  have hS1 := hS.ext hb1
  clear x0 x1 x2 x3 x4 x5 x6
  have x0 : W1.cell? ⟨w.heap.size, 0, none⟩ = _ := hS1.cell (i := 0) rfl
  have x1 : W1.cell? ⟨w.heap.size, 1, none⟩ = _ := hS1.cell (i := 1) rfl
  have x2 : W1.cell? ⟨w.heap.size, 2, none⟩ = _ := hS1.cell (i := 2) rfl
  have x3 : W1.cell? ⟨w.heap.size, 3, none⟩ = _ := hS1.cell (i := 3) rfl
  have x4 : W1.cell? ⟨w.heap.size, 4, none⟩ = _ := hS1.cell (i := 4) rfl
  have x5 : W1.cell? ⟨w.heap.size, 5, none⟩ = _ := hS1.cell (i := 5) rfl
  have x6 : W1.cell? ⟨w.heap.size, 6, none⟩ = _ := hS1.cell (i := 6) rfl
  by_cases hz : ek = 0
  · subst hz
    have CC := Lib.hid (C2.out W1 rfl hw1)
    clear C2 C1
    go_wp2_with fail
    refine CC.out.mono ?_; rintro e W2 ⟨rfl, hb2⟩
    go_wp2
    refine bodyPost_ret (v := .tuple #[.int .i64 cv, .int .i64 0]) (by simp [results, Try.results33, go_sem]) rfl ?_
    exact ⟨HH.out cv (fun h => absurd rfl h) (fun _ => rfl), hw1.trans (hb2.mono hw1.size)⟩
  · have hz' : (ek != 0) = true := by simpa using hz
    have Hz := Lib.hid hz
    clear hz C2
    go_wp2
    refine bodyPost_ret (v := .tuple #[.int .i64 0, .int .i64 ek]) (by simp [results, Try.results33, go_sem]) rfl ?_
    exact ⟨HH.out 0 (fun _ => rfl) (fun h => absurd h Hz.out), hw1⟩
def ShtR (w : World) (s : Sh) (l : List Int) (e : Ending) (w' : World) : Prop := ∃ (v : Value) (x z : Int), e = .returned (.tuple #[v, .int .i64 x, .int .i64 z]) ∧ z = rightE s l ∧ (z ≠ 0 → v = .slice none 0 0 ∧ x = 0) ∧
  (z = 0 → FreshL w w' 1 encI v (s.sheet (l.map Int.toNat)).1 ∧ x = (s.sheet (l.map Int.toNat)).2)
set_option maxRecDepth 100000 in
set_option maxHeartbeats 4000000 in
theorem Sheet_any (s : Sh) (p : ShP) (A : Option Addr) (n c : Nat) (l : List Int) (w : World) (h : ShM w s p) (hn : l.length = n) (hm : n ≤ 12) (hd : Cells w A 1 encI l) :
    Calls Try.prog 26 #[shV s p, .slice A n c] w fun e w' => ShtR w s l e w' ∧ Below w.heap.size w w' := by
  have hb0 := ext_alloc w (.cells (shC s p).toArray 35)
  have hS := Blk.new w 35 (shC s p)
  have hs0 : (w.alloc (.cells (shC s p).toArray 35)).heap.size = w.heap.size + 1 := by simp
  have C1 := Lib.hid (right_any s p A n c l (w.alloc (.cells (shC s p).toArray 35)) (h.ext hb0) hn hm (hd.ext hb0))
  have HG := Lib.hid (show ∀ ek, rightE s l = ek → ∀ r, s.sheet (l.map Int.toNat) = r → ∀ (v : Value) (x : Int) (w' : World), (ek ≠ 0 → v = .slice none 0 0 ∧ x = 0) → (ek = 0 → FreshL w w' 1 encI v r.1 ∧ x = r.2) → ShtR w s l (.returned (.tuple #[v, .int .i64 x, .int .i64 ek])) w' from fun ek e1 r e2 v x w' h1 h2 => ⟨v, x, ek, rfl, e1.symm, h1, by rw [e2]; exact h2⟩)
  have HZ := Lib.hid (fun hz => right_zero (s := s) (l := l) hz)
  generalize hek : rightE s l = ek at *
  generalize hrr : s.sheet (l.map Int.toNat) = rr at *
  have HH := Lib.hid (HG.out ek rfl rr rfl)
  have HM := Lib.hid (fun W (hW : Below w.heap.size w W) => h.ext hW)
  have Hn := Lib.hid hn
  have Hrr := Lib.hid hrr
  clear h hn HG hek hrr
  unfold shV at *
  unfold shC at *
  go_enter Try.func26, Try.ntmps26
  go_upto_region 1 with fail
  generalize w.alloc (.cells #[.slice p.A s.acts.length p.cA, .slice p.R s.rest.length p.cR, .slice p.I s.ins.length p.cI, .slice p.O s.outs.length p.cO, .int .i64 s.cover, .int .i64 s.dull, .slice p.B s.before.length p.cB] 35) = W0 at *
  have x0 : W0.cell? ⟨w.heap.size, 0, none⟩ = _ := hS.cell (i := 0) rfl
  have x1 : W0.cell? ⟨w.heap.size, 1, none⟩ = _ := hS.cell (i := 1) rfl
  have x2 : W0.cell? ⟨w.heap.size, 2, none⟩ = _ := hS.cell (i := 2) rfl
  have x3 : W0.cell? ⟨w.heap.size, 3, none⟩ = _ := hS.cell (i := 3) rfl
  have x4 : W0.cell? ⟨w.heap.size, 4, none⟩ = _ := hS.cell (i := 4) rfl
  have x5 : W0.cell? ⟨w.heap.size, 5, none⟩ = _ := hS.cell (i := 5) rfl
  have x6 : W0.cell? ⟨w.heap.size, 6, none⟩ = _ := hS.cell (i := 6) rfl
  go_wp2_with fail
  refine C1.out.mono ?_; rintro e W1 ⟨rfl, hb1⟩
  have hw1 := hb0.trans (hb1.mono hb0.size)
  have hS1 := hS.ext hb1
  have hsz1 : w.heap.size + 1 ≤ W1.heap.size := by have := hb1.size; omega
  clear x0 x1 x2 x3 x4 x5 x6
  clear C1 hS hb0 hb1 hs0
  by_cases hz : ek = 0
  · subst hz
    obtain ⟨hok, k, rfl, -, k2, -, -⟩ := HZ.out rfl
    have Hr2 := Lib.hid (show s.sheet k = rr by rw [← Hrr.out, toI_toNat])
    have hkn : k.length = n := by rw [← toI_len]; exact Hn.out
    have CH := Lib.hid (fun W (hW : Below w.heap.size w W) (i j : Nat) (hi : i < s.acts.length) (hj : j < s.acts.length) => change_any s p i j W ((HM.out W hW)) hok hi hj)
    have HC := Lib.hid (fun i j => hok.chM i j)
    have HA := Lib.hid (fun i (hi : i < s.acts.length) => (hok.act hi).min)
    have Hk := Lib.hid k2
    have Hkn := Lib.hid hkn
    clear hok k2 hkn HZ Hrr Hn
    have hlen9 : n ≤ 12 := hm
    go_wp2
    go_loopw [4, 5, 20] (fun v e x wr => ∃ (j : Nat) (Tl : List Int) (t : Int), e = .int .i64 t ∧ x = .int .i64 j ∧ j ≤ n ∧ Tl.length = j ∧ 0 ≤ t ∧ t ≤ 1020 * j ∧ Hid ((j = 0 → t = 0) ∧ Tl ++ (restS s k j t).1 = rr.1 ∧ (restS s k j t).2 = rr.2) ∧ OwnL wr (w.heap.size + 1) 3 1 encI v Tl ∧ Below w.heap.size w wr ∧ Blk wr w.heap.size 35 [.slice p.A s.acts.length p.cA, .slice p.R s.rest.length p.cR, .slice p.I s.ins.length p.cI, .slice p.O s.outs.length p.cO, .int .i64 s.cover, .int .i64 s.dull, .slice p.B s.before.length p.cB])
      (fun _ _ x _ => n - (intOf x).toNat)
    case atStart => exact ⟨0, [], 0, rfl, rfl, by omega, rfl, by omega, by omega, Lib.hid ⟨fun _ => rfl, by rw [rest_zero, List.nil_append, Hr2.out], by rw [rest_zero, Hr2.out]⟩, OwnL.nil, hw1, hS1⟩
    case round =>
      obtain ⟨j, Tl, t, rfl, rfl, hj, hTl, ht0, ht1, Hrs, hown, hbr, hSr⟩ := hrel
      have HTl := Lib.hid hTl
      clear hw1 hS1 hsz1 hTl
      by_cases hlt : j < n
      · have hjk : j < k.length := by rw [Hkn.out]; exact hlt
        obtain ⟨b, o, rfl, -, c0⟩ := (hd.ext hbr).at1 (k := j) (by rw [toI_len]; exact hjk) rfl
        rw [toI_get hjk] at c0
        have l1 := Hk.out _ (List.getElem_mem hjk)
        have hmn := HA.out _ l1
        have hlt' : (j : Int) < n := by omega
        have hj0 : (0 : Int) ≤ j := by omega
        by_cases hj00 : j = 0
        · subst hj00
          rw [Nat.add_zero] at c0
          have ht : t = 0 := Hrs.out.1 rfl
          subst ht
          have hrs := Hrs.out.2
          rw [rest_first hjk] at hrs
          have Hn2 := Lib.hid (show Tl ++ [(0 : Int)] ++ (restS s k (0 + 1) (s.act k[0]).min).1 = rr.1 ∧ (restS s k (0 + 1) (s.act k[0]).min).2 = rr.2 from by
            exact ⟨by rw [← hrs.1]; simp, hrs.2⟩)
          clear hrs Hrs
          generalize k[0] = a1 at *
          have hoV := hown
          have hbV := hbr
          have hSV := hSr
          clear hown hbr hSr
          generalize wr = V at *
          have hnew := Blk.new V 3 [.int .i64 (0)]
          have hba := ext_alloc V (.cells #[.int .i64 (0)] 3)
          go_upto_region 10 with fail
          go_upto_region 11 with (at_builtin; refine app1 encI 23 3 1 8 et23 (by decide) (by decide) encI_len encI_one rfl _ _ rfl (w.heap.size + 1) _ Tl rfl (hoV.alloc _) V.heap.size rfl (0) (encI_cell (hnew.cell rfl)) (by have := HTl.out; omega) (by have := hbV.size; have := hSV.lt; simp; omega) ?_; intro g' cap' V2 hown' hb3 hgr3 hat3; have hb4 : RowKit.Below (w.heap.size + 1) V V2 := (hba.mono (by have := hSV.lt; omega)).trans hb3; have hbw4 := hbV.trans (hb4.mono (by omega)); have hS4 : Blk V2 w.heap.size 35 [.slice p.A s.acts.length p.cA, .slice p.R s.rest.length p.cR, .slice p.I s.ins.length p.cI, .slice p.O s.outs.length p.cO, .int .i64 s.cover, .int .i64 s.dull, .slice p.B s.before.length p.cB] := (hb4.block w.heap.size (by omega)).trans hSV; obtain ⟨bm, om, Cm, cm2, hAm, lm, am, am1, am2, am3, am4, hm5⟩ := (HM.out V2 hbw4).at l1; have x0 := hS4.cell (i := 0) rfl; rw [hAm] at x0; clear hAm am1 am2 am3 am4 hm5; have hown4 := hown'; clear hown' hb3 hgr3 hat3 hb4)
          have hT1 : (Tl ++ [0]).length = 0 + 1 := by rw [List.length_append, HTl.out]; rfl
          have HT1 := Lib.hid hT1
          clear hnew hba hoV hbV hSV hT1
          have hal : (a1 : Int) < (s.acts.length : Int) := by omega
          go_wp2
          go_roundw
          case rel => exact ⟨0 + 1, Tl ++ [0], _, rfl, by go_num, by omega, HT1.out, by omega, by omega, Lib.hid ⟨fun h => by omega, Hn2.out.1, Hn2.out.2⟩, hown4, hbw4, hS4⟩
          case measure => simp [intOf]; omega
        · have hjk0 : j - 1 < k.length := by omega
          have hg0 : k.getD (j - 1) 0 = k[j - 1] := by simp [hjk0]
          have hrs := Hrs.out.2
          rw [rest_next hjk (by omega), hg0] at hrs
          have l0 := Hk.out _ (List.getElem_mem hjk0)
          have hcm := HC.out k[j - 1] k[j]
          have Hn2 := Lib.hid (show Tl ++ [t + s.chM k[j - 1] k[j]] ++ (restS s k (j + 1) (t + s.chM k[j - 1] k[j] + (s.act k[j]).min)).1 = rr.1 ∧ (restS s k (j + 1) (t + s.chM k[j - 1] k[j] + (s.act k[j]).min)).2 = rr.2 from
            ⟨by rw [← hrs.1]; simp, hrs.2⟩)
          clear hrs Hrs hg0
          have hjp : (0 : Int) < j := by omega
          have hjm : (j : Int) - 1 < n := by omega
          have hj9 : (0 : Int) ≤ (j : Int) - 1 := by omega
          go_upto_region 8 with fail
          refine Dr.wp_region_plan 13 [] (.q [0, 1, 2, 3, 4, 5, 6] (.e1 7 (.q [8, 9, 10, 11, 12] .done))) (by kernel_rfl) (by kernel_rfl) ?_
          have hb1 := hbr.drew
          have hS1 := hSr.ext (ext_drew wr)
          have ho1 := hown.drew
          clear hbr hSr hown
          generalize World.drew _ = W at *
          obtain ⟨b', o', hA', -, c1⟩ := (hd.ext hb1).at1 (k := j - 1) (by rw [toI_len]; exact hjk0) rfl
          obtain ⟨rfl, rfl⟩ : b = b' ∧ o = o' := by simpa using hA'
          clear hA' c0
          rw [toI_get hjk0] at c1
          generalize k[j - 1] = a0 at *
          generalize k[j] = a1 at *
          obtain ⟨i, rfl⟩ : ∃ i, j = i + 1 := ⟨j - 1, by omega⟩
          simp only [Nat.add_sub_cancel] at c1
          have q0 := Dr.cell0 (hS1.cell (i := 0) rfl)
          have q1 := Dr.cell0 (hS1.cell (i := 1) rfl)
          have q2 := Dr.cell0 (hS1.cell (i := 2) rfl)
          have q3 := Dr.cell0 (hS1.cell (i := 3) rfl)
          have q4 := Dr.cell0 (hS1.cell (i := 4) rfl)
          have q5 := Dr.cell0 (hS1.cell (i := 5) rfl)
          have q6 := Dr.cell0 (hS1.cell (i := 6) rfl)
          have r1 := Dr.cell0 c1
          refine Dr.plan_q (l := [_, _, _, _, _, _, _]) rfl (fun K hK => ?_)
          iterate 7 (go_big_quiet_step (fail))
          refine wpQuiet_nil (hK _ ?_); clear hK K
          clear q0 q1 q2 q3 q4 q5 q6
          clear r1 c1
          have CC := Lib.hid (CH.out W hb1 a0 a1 l0 l1)
          refine Dr.plan_e rfl (by rfl) (fun K hK => ?_)
          go_wp2_with fail
          refine CC.out.mono ?_; rintro e V ⟨rfl, hx1⟩
          refine hK _ _ (.of hx1) ?_; clear hK K CC
          have hbV := hb1.trans (hx1.mono hb1.size)
          have hSV := hS1.ext hx1
          have hoV := ho1.ext hx1
          clear hb1 hS1 hx1 ho1
          refine Dr.plan_q (l := [_, _, _, _, _]) rfl (fun K hK => ?_)
          iterate 5 (go_big_quiet_step (fail))
          refine wpQuiet_nil (hK _ ?_); clear hK K
          refine Dr.plan_end rfl ?_
          generalize s.chM a0 a1 = cm at *
          have hnew := Blk.new V 3 [.int .i64 (t + cm)]
          have hba := ext_alloc V (.cells #[.int .i64 (t + cm)] 3)
          go_upto_region 10 with fail
          go_upto_region 11 with (at_builtin; refine app1 encI 23 3 1 8 et23 (by decide) (by decide) encI_len encI_one rfl _ _ rfl (w.heap.size + 1) _ Tl rfl (hoV.alloc _) V.heap.size rfl (t + cm) (encI_cell (hnew.cell rfl)) (by have := HTl.out; omega) (by have := hbV.size; have := hSV.lt; simp; omega) ?_; intro g' cap' V2 hown' hb3 hgr3 hat3; have hb4 : RowKit.Below (w.heap.size + 1) V V2 := (hba.mono (by have := hSV.lt; omega)).trans hb3; have hbw4 := hbV.trans (hb4.mono (by omega)); have hS4 : Blk V2 w.heap.size 35 [.slice p.A s.acts.length p.cA, .slice p.R s.rest.length p.cR, .slice p.I s.ins.length p.cI, .slice p.O s.outs.length p.cO, .int .i64 s.cover, .int .i64 s.dull, .slice p.B s.before.length p.cB] := (hb4.block w.heap.size (by omega)).trans hSV; obtain ⟨bm, om, Cm, cm2, hAm, lm, am, am1, am2, am3, am4, hm5⟩ := (HM.out V2 hbw4).at l1; have x0 := hS4.cell (i := 0) rfl; rw [hAm] at x0; clear hAm am1 am2 am3 am4 hm5; have hown4 := hown'; clear hown' hb3 hgr3 hat3 hb4)
          have hT1 : (Tl ++ [t + cm]).length = (i + 1) + 1 := by rw [List.length_append, HTl.out]; rfl
          have HT1 := Lib.hid hT1
          clear hnew hba hoV hbV hSV hT1
          have hal : (a1 : Int) < (s.acts.length : Int) := by omega
          go_wp2
          go_roundw
          case rel => exact ⟨(i + 1) + 1, Tl ++ [t + cm], _, rfl, by go_num, by omega, HT1.out, by omega, by omega, Lib.hid ⟨fun h => by omega, Hn2.out.1, Hn2.out.2⟩, hown4, hbw4, hS4⟩
          case measure => simp [intOf]; omega
      · obtain rfl : j = n := by omega
        have hrs := Hrs.out
        have Hfin : Hid (Tl = rr.1 ∧ t = rr.2) := Lib.hid (by
          rcases Nat.eq_zero_or_pos j with h0 | h0
          · subst h0
            have hk0 : k = [] := List.length_eq_zero_iff.1 Hkn.out
            rw [hk0] at hrs
            refine ⟨by rw [← hrs.2.1]; simp [restS, Sh.sheet], by rw [← hrs.2.2, hrs.1 rfl]; simp [restS, Sh.sheet]⟩
          · rw [rest_end (by rw [Hkn.out]; omega) h0] at hrs
            exact ⟨by rw [← hrs.2.1]; simp, hrs.2.2⟩)
        obtain ⟨A1, c1, hv, -, -, -⟩ := hown.cells encI_len
        subst hv
        clear hrs Hrs
        go_wp2
        refine bodyPost_ret (v := .tuple #[.slice A1 Tl.length c1, .int .i64 t, .int .i64 0]) (by simp [results, Try.results26, go_sem]) rfl ?_
        exact ⟨HH.out _ _ _ (fun h => absurd rfl h) (fun _ => ⟨by rw [← Hfin.out.1]; exact FreshL.of_own hown encI_len (by omega), Hfin.out.2⟩), hbr⟩
  · have hz' : (ek != 0) = true := by simpa using hz
    have Hz := Lib.hid hz
    clear hz HZ
    go_wp2
    refine bodyPost_ret (v := .tuple #[.slice none 0 0, .int .i64 0, .int .i64 ek]) (by simp [results, Try.results26, go_sem]) rfl ?_
    exact ⟨HH.out _ _ _ (fun _ => ⟨rfl, rfl⟩) (fun h => absurd h Hz.out), hw1⟩
end Go.Proofs.Ytcnidhcdkbfpcaa
