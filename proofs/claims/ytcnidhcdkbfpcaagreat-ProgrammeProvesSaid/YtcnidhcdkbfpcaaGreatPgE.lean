/- Walks: right, Fault, cost, Cost, Sheet, whole, real, follows. -/
import Derived.Test.YtcnidhcdkbfpcaaGreatPgD
/- Walks: the error, the cost and the sheet of an order. (Printed by mk_prgm.py.) -/
namespace Go.Pg
open Go.Pl
theorem toI_toNat (k : List Nat) : (toI k).map Int.toNat = k := by
  unfold toI; rw [List.map_map]; exact (List.map_congr_left fun x _ => by simp).trans (List.map_id k)
def restS (s : Sh) (k : List Nat) (j : Nat) (e : Int) : List Int × Int := if j = 0 then s.sheet k else s.sheetL (k.getD (j - 1) 0) e (k.drop j)
theorem rest_zero (s : Sh) (k : List Nat) (e : Int) : restS s k 0 e = s.sheet k := rfl
theorem rest_first {s : Sh} {k : List Nat} (h : 0 < k.length) : restS s k 0 0 = ((0 : Int) :: (restS s k 1 (s.act k[0]).min).1, (restS s k 1 (s.act k[0]).min).2) := by
  cases k with
  | nil => simp at h
  | cons a r => rfl
theorem rest_next {s : Sh} {k : List Nat} {j : Nat} (h : j < k.length) (hj : 0 < j) (e : Int) :
    restS s k j e = ((e + s.chM (k.getD (j - 1) 0) k[j]) :: (restS s k (j + 1) (e + s.chM (k.getD (j - 1) 0) k[j] + (s.act k[j]).min)).1, (restS s k (j + 1) (e + s.chM (k.getD (j - 1) 0) k[j] + (s.act k[j]).min)).2) := by
  unfold restS
  rw [if_neg (by omega), if_neg (by omega), List.drop_eq_getElem_cons h, Sh.sheetL]
  simp [h]
theorem rest_end {s : Sh} {k : List Nat} {j : Nat} (h : k.length ≤ j) (hj : 0 < j) (e : Int) : restS s k j e = ([], e) := by
  unfold restS
  rw [if_neg (by omega), List.drop_eq_nil_of_le h, Sh.sheetL]
end Go.Pg
namespace Go.Proofs.YtcnidhcdkbfpcaaGreat
open Go.RowKit Go.Bs Go.Pg Go.Pl Go.Sort
/-- the error of what must be a programme -/
def rightE (s : Sh) (l : List Int) : Int := if askE s l = 0 then if (s.fault (l.map Int.toNat)).2 = 0 then 0 else 9 else askE s l
theorem ask_zero {s : Sh} {l : List Int} (h : askE s l = 0) : s.okB = true ∧ ordB s.acts.length l = true := by
  unfold askE at h
  split at h
  · rename_i h1
    split at h
    · rename_i h2; exact ⟨h1, h2⟩
    · omega
  · omega
theorem fault_of (s : Sh) (p : ShP) (A : Option Addr) (n c : Nat) (l : List Int) (w W : World) (h : ShM w s p) (hn : l.length = n) (hm : n ≤ 12) (hd : Cells w A 1 encI l) (hz : askE s l = 0) (hW : Below w.heap.size w W) :
    Calls Tryz.prog 37 #[shV s p, .slice A n c] W fun e w' => e = .returned (.tuple #[.int .i64 (s.fault (l.map Int.toNat)).1, .int .u8 (s.fault (l.map Int.toNat)).2]) ∧ Below W.heap.size W w' := by
  obtain ⟨h1, h2⟩ := ask_zero hz
  obtain ⟨k, rfl, k1, k2, k3⟩ := ord_nat h2
  rw [toI_toNat]
  exact fault_any s p A n c k W (h.ext hW) (Sh.ok_of h1) k2 (by rw [← toI_len, hn]) (by omega) (hd.ext hW)
theorem faultL_le (s : Sh) : ∀ (k : List Nat) (i : Nat) (last sec : Int) (set : Nat), (s.faultL k i last sec set).2 ≤ 3
  | [], _, _, _, _ => by simp [Sh.faultL]
  | a :: r, i, last, sec, set => by
    rw [Sh.faultL]
    split
    · exact faultL_le s r _ _ _ _
    · exact why_le s a last sec set
theorem right_any (s : Sh) (p : ShP) (A : Option Addr) (n c : Nat) (l : List Int) (w : World) (h : ShM w s p) (hn : l.length = n) (hm : n ≤ 12) (hd : Cells w A 1 encI l) :
    Calls Tryz.prog 38 #[shV s p, .slice A n c] w fun e w' => e = .returned (.int .i64 (rightE s l)) ∧ Below w.heap.size w w' := by
  have hb0 := ext_alloc w (.cells (shC s p).toArray 37)
  have hS := Blk.new w 37 (shC s p)
  have C1 := Lib.hid (asked_any s p A n c l (w.alloc (.cells (shC s p).toArray 37)) (h.ext hb0) hn hm (hd.ext hb0))
  have C2 := Lib.hid (fun W (hz : askE s l = 0) (hW : Below w.heap.size w W) => fault_of s p A n c l w W h hn hm hd hz hW)
  have hf3 := faultL_le s (l.map Int.toNat) 0 (-1) (-1) 0
  change (s.fault (l.map Int.toNat)).2 ≤ 3 at hf3
  unfold rightE
  generalize s.fault (l.map Int.toNat) = ft at *
  obtain ⟨f1, f2⟩ := ft
  simp only at C2 hf3 ⊢
  generalize askE s l = ek at *
  clear h hd hn
  unfold shV at *
  unfold shC at *
  go_enter Tryz.func38, Tryz.ntmps38
  go_upto_region 1 with fail
  generalize w.alloc (.cells #[.slice p.A s.acts.length p.cA, .slice p.R s.rest.length p.cR, .slice p.I s.ins.length p.cI, .slice p.O s.outs.length p.cO, .int .i64 s.cover, .int .i64 s.dull, .slice p.B s.before.length p.cB] 37) = W0 at *
  have x0 : W0.cell? ⟨w.heap.size, 0, none⟩ = _ := hS.cell (i := 0) rfl
  have x1 : W0.cell? ⟨w.heap.size, 1, none⟩ = _ := hS.cell (i := 1) rfl
  have x2 : W0.cell? ⟨w.heap.size, 2, none⟩ = _ := hS.cell (i := 2) rfl
  have x3 : W0.cell? ⟨w.heap.size, 3, none⟩ = _ := hS.cell (i := 3) rfl
  have x4 : W0.cell? ⟨w.heap.size, 4, none⟩ = _ := hS.cell (i := 4) rfl
  have x5 : W0.cell? ⟨w.heap.size, 5, none⟩ = _ := hS.cell (i := 5) rfl
  have x6 : W0.cell? ⟨w.heap.size, 6, none⟩ = _ := hS.cell (i := 6) rfl
  go_wp2_with fail
  refine C1.out.mono ?_; rintro e W1 ⟨rfl, hb1⟩
  have hw1 := hb0.trans (hb1.mono hb0.size)
  have hS1 := hS.ext hb1
  clear x0 x1 x2 x3 x4 x5 x6
  have x0 : W1.cell? ⟨w.heap.size, 0, none⟩ = _ := hS1.cell (i := 0) rfl
  have x1 : W1.cell? ⟨w.heap.size, 1, none⟩ = _ := hS1.cell (i := 1) rfl
  have x2 : W1.cell? ⟨w.heap.size, 2, none⟩ = _ := hS1.cell (i := 2) rfl
  have x3 : W1.cell? ⟨w.heap.size, 3, none⟩ = _ := hS1.cell (i := 3) rfl
  have x4 : W1.cell? ⟨w.heap.size, 4, none⟩ = _ := hS1.cell (i := 4) rfl
  have x5 : W1.cell? ⟨w.heap.size, 5, none⟩ = _ := hS1.cell (i := 5) rfl
  have x6 : W1.cell? ⟨w.heap.size, 6, none⟩ = _ := hS1.cell (i := 6) rfl
  by_cases hz : ek = 0
  · subst hz
    have CC := Lib.hid (C2.out W1 rfl hw1)
    clear C2 C1
    go_wp2_with fail
    refine CC.out.mono ?_; rintro e W2 ⟨rfl, hb2⟩
    by_cases h0 : f2 = 0
    · subst h0
      go_wp2
      go_ret
      exact ⟨rfl, hw1.trans (hb2.mono hw1.size)⟩
    · have h0' : ((f2 : Int) != 0) = true := by simp; omega
      have H0 := Lib.hid h0
      go_wp2
      go_ret
      exact ⟨by simp, hw1.trans (hb2.mono hw1.size)⟩
  · have hz' : (ek != 0) = true := by simpa using hz
    have Hz := Lib.hid hz
    clear hz C2
    go_wp2
    go_ret
    exact ⟨by simp, hw1⟩
def FltR (s : Sh) (l : List Int) (e : Ending) : Prop := ∃ (x : Int) (y : Nat) (z : Int), e = .returned (.tuple #[.int .i64 x, .int .u8 y, .int .i64 z]) ∧
  (askE s l ≠ 0 → x = 0 ∧ y = 0 ∧ z = askE s l) ∧ (askE s l = 0 → (s.fault (l.map Int.toNat)).2 = 0 → x = 0 ∧ y = 0 ∧ z = 7) ∧ (askE s l = 0 → (s.fault (l.map Int.toNat)).2 ≠ 0 → x = (s.fault (l.map Int.toNat)).1 ∧ y = (s.fault (l.map Int.toNat)).2 ∧ z = 0)
theorem Fault_any (s : Sh) (p : ShP) (A : Option Addr) (n c : Nat) (l : List Int) (w : World) (h : ShM w s p) (hn : l.length = n) (hm : n ≤ 12) (hd : Cells w A 1 encI l) :
    Calls Tryz.prog 19 #[shV s p, .slice A n c] w fun e w' => FltR s l e ∧ Below w.heap.size w w' := by
  have hb0 := ext_alloc w (.cells (shC s p).toArray 37)
  have hS := Blk.new w 37 (shC s p)
  have C1 := Lib.hid (asked_any s p A n c l (w.alloc (.cells (shC s p).toArray 37)) (h.ext hb0) hn hm (hd.ext hb0))
  have C2 := Lib.hid (fun W (hz : askE s l = 0) (hW : Below w.heap.size w W) => fault_of s p A n c l w W h hn hm hd hz hW)
  have hf3 := faultL_le s (l.map Int.toNat) 0 (-1) (-1) 0
  change (s.fault (l.map Int.toNat)).2 ≤ 3 at hf3
  have HF := Lib.hid (show ∀ f1 f2, s.fault (l.map Int.toNat) = (f1, f2) → ∀ ek, askE s l = ek → ∀ (x : Int) (y : Nat) (z : Int), (ek ≠ 0 → x = 0 ∧ y = 0 ∧ z = ek) → (ek = 0 → f2 = 0 → x = 0 ∧ y = 0 ∧ z = 7) → (ek = 0 → f2 ≠ 0 → x = f1 ∧ y = f2 ∧ z = 0) → FltR s l (.returned (.tuple #[.int .i64 x, .int .u8 y, .int .i64 z])) from
    fun f1 f2 e1 ek e2 x y z h1 h2 h3 => ⟨x, y, z, rfl, by rw [e2]; exact h1, by rw [e1, e2]; exact h2, by rw [e1, e2]; exact h3⟩)
  generalize hft : s.fault (l.map Int.toNat) = ft at *
  obtain ⟨f1, f2⟩ := ft
  simp only at C2 hf3
  generalize hek : askE s l = ek at *
  have HG := Lib.hid (HF.out f1 f2 rfl ek rfl)
  clear h hd hn HF hft hek
  unfold shV at *
  unfold shC at *
  go_enter Tryz.func19, Tryz.ntmps19
  go_upto_region 1 with fail
  generalize w.alloc (.cells #[.slice p.A s.acts.length p.cA, .slice p.R s.rest.length p.cR, .slice p.I s.ins.length p.cI, .slice p.O s.outs.length p.cO, .int .i64 s.cover, .int .i64 s.dull, .slice p.B s.before.length p.cB] 37) = W0 at *
  have x0 : W0.cell? ⟨w.heap.size, 0, none⟩ = _ := hS.cell (i := 0) rfl
  have x1 : W0.cell? ⟨w.heap.size, 1, none⟩ = _ := hS.cell (i := 1) rfl
  have x2 : W0.cell? ⟨w.heap.size, 2, none⟩ = _ := hS.cell (i := 2) rfl
  have x3 : W0.cell? ⟨w.heap.size, 3, none⟩ = _ := hS.cell (i := 3) rfl
  have x4 : W0.cell? ⟨w.heap.size, 4, none⟩ = _ := hS.cell (i := 4) rfl
  have x5 : W0.cell? ⟨w.heap.size, 5, none⟩ = _ := hS.cell (i := 5) rfl
  have x6 : W0.cell? ⟨w.heap.size, 6, none⟩ = _ := hS.cell (i := 6) rfl
  go_wp2_with fail
  refine C1.out.mono ?_; rintro e W1 ⟨rfl, hb1⟩
  have hw1 := hb0.trans (hb1.mono hb0.size)
  have hS1 := hS.ext hb1
  clear x0 x1 x2 x3 x4 x5 x6
  have x0 : W1.cell? ⟨w.heap.size, 0, none⟩ = _ := hS1.cell (i := 0) rfl
  have x1 : W1.cell? ⟨w.heap.size, 1, none⟩ = _ := hS1.cell (i := 1) rfl
  have x2 : W1.cell? ⟨w.heap.size, 2, none⟩ = _ := hS1.cell (i := 2) rfl
  have x3 : W1.cell? ⟨w.heap.size, 3, none⟩ = _ := hS1.cell (i := 3) rfl
  have x4 : W1.cell? ⟨w.heap.size, 4, none⟩ = _ := hS1.cell (i := 4) rfl
  have x5 : W1.cell? ⟨w.heap.size, 5, none⟩ = _ := hS1.cell (i := 5) rfl
  have x6 : W1.cell? ⟨w.heap.size, 6, none⟩ = _ := hS1.cell (i := 6) rfl
  by_cases hz : ek = 0
  · subst hz
    have CC := Lib.hid (C2.out W1 rfl hw1)
    clear C2 C1
    go_wp2_with fail
    refine CC.out.mono ?_; rintro e W2 ⟨rfl, hb2⟩
    by_cases h0 : f2 = 0
    · subst h0
      go_wp2
      refine bodyPost_ret (v := .tuple #[.int .i64 0, .int .u8 0, .int .i64 7]) (by simp [results, Tryz.results19, go_sem]) rfl ?_
      exact ⟨HG.out 0 0 7 (fun h => absurd rfl h) (fun _ _ => ⟨rfl, rfl, rfl⟩) (fun _ h => absurd rfl h), hw1.trans (hb2.mono hw1.size)⟩
    · have h0' : ((f2 : Int) == 0) = false := by simp; omega
      have H0 := Lib.hid h0
      clear h0
      go_wp2
      refine bodyPost_ret (v := .tuple #[.int .i64 f1, .int .u8 f2, .int .i64 0]) (by simp [results, Tryz.results19, go_sem]) rfl ?_
      exact ⟨HG.out f1 f2 0 (fun h => absurd rfl h) (fun _ h => absurd h H0.out) (fun _ _ => ⟨rfl, rfl, rfl⟩), hw1.trans (hb2.mono hw1.size)⟩
  · have hz' : (ek != 0) = true := by simpa using hz
    have Hz := Lib.hid hz
    clear hz C2
    go_wp2
    refine bodyPost_ret (v := .tuple #[.int .i64 0, .int .u8 0, .int .i64 ek]) (by simp [results, Tryz.results19, go_sem]) rfl ?_
    exact ⟨HG.out 0 0 ek (fun _ => ⟨rfl, rfl, rfl⟩) (fun h => absurd h Hz.out) (fun h => absurd h Hz.out), hw1⟩
set_option maxRecDepth 100000 in
set_option maxHeartbeats 2000000 in
theorem cost_any (s : Sh) (p : ShP) (A : Option Addr) (m c : Nat) (k : List Nat) (w : World) (h : ShM w s p) (hok : s.Ok) (hkn : ∀ i ∈ k, i < s.acts.length) (hm : k.length = m) (hm12 : m ≤ 1000) (hd : Cells w A 1 encI (toI k)) :
    Calls Tryz.prog 54 #[shV s p, .slice A m c] w fun e w' => e = .returned (.int .i64 (s.cost k)) ∧ Below w.heap.size w w' := by
  have hb0 := ext_alloc w (.cells (shC s p).toArray 37)
  have hS := Blk.new w 37 (shC s p)
  have CH := Lib.hid (fun W (hW : Below w.heap.size w W) (i j : Nat) (hi : i < s.acts.length) (hj : j < s.acts.length) => change_any s p i j W (h.ext hW) hok hi hj)
  have HC := Lib.hid (fun i j => hok.chC i j)
  have Hk := Lib.hid hkn
  have Hm := Lib.hid hm
  generalize hres : s.cost k = res
  have Hres := Lib.hid hres
  clear hkn hm hres h hok
  unfold shV at *
  unfold shC at *
  go_enter Tryz.func54, Tryz.ntmps54
  go_upto_region 1 with fail
  generalize w.alloc (.cells #[.slice p.A s.acts.length p.cA, .slice p.R s.rest.length p.cR, .slice p.I s.ins.length p.cI, .slice p.O s.outs.length p.cO, .int .i64 s.cover, .int .i64 s.dull, .slice p.B s.before.length p.cB] 37) = W0 at *
  go_wp2
  go_loopw [4, 5] (fun a x wr => ∃ (acc : Int) (j : Nat), a = .int .i64 acc ∧ x = .int .i64 j ∧ 1 ≤ j ∧ (j ≤ m ∨ j = 1) ∧ 0 ≤ acc ∧ acc ≤ 1960 * j ∧ Hid (j ≤ m → acc + s.pc (k.getD (j - 1) 0) (k.drop j) = res) ∧ Hid (m = 0 → acc = 0) ∧ Below w.heap.size w wr ∧ Blk wr w.heap.size 37 [.slice p.A s.acts.length p.cA, .slice p.R s.rest.length p.cR, .slice p.I s.ins.length p.cI, .slice p.O s.outs.length p.cO, .int .i64 s.cover, .int .i64 s.dull, .slice p.B s.before.length p.cB])
    (fun _ x _ => m + 1 - (intOf x).toNat)
  case atStart =>
    refine ⟨0, 1, rfl, rfl, Nat.le_refl _, .inr rfl, by omega, by omega, Lib.hid (fun h1 => ?_), Lib.hid (fun _ => rfl), hb0, hS⟩
    rw [← Hres.out]
    cases k with
    | nil => have := Hm.out; simp at this; omega
    | cons a r => simp [Sh.cost]
  case round =>
    obtain ⟨acc, j, rfl, rfl, hj1, hj2, ha0, ha1, Hacc, Hz, hbr, hSr⟩ := hrel
    clear hb0 hS
    by_cases hlt : j < m
    · have hjk : j < k.length := by rw [Hm.out]; exact hlt
      have hjk0 : j - 1 < k.length := by omega
      have hacc := Hacc.out (by omega)
      rw [List.drop_eq_getElem_cons hjk, Sh.pc] at hacc
      have hg0 : k.getD (j - 1) 0 = k[j - 1] := by simp [hjk0]
      have hg1 : k.getD (j + 1 - 1) 0 = k[j] := by simp [hjk]
      rw [hg0] at hacc
      have hc1 := HC.out k[j - 1] k[j]
      have l0 := Hk.out _ (List.getElem_mem hjk0)
      have l1 := Hk.out _ (List.getElem_mem hjk)
      have Hn := Lib.hid (show j + 1 ≤ m → acc + s.chC k[j - 1] k[j] + s.pc (k.getD (j + 1 - 1) 0) (k.drop (j + 1)) = res from fun _ => by rw [hg1]; omega)
      have hlt' : (j : Int) < m := by omega
      have hj0 : (0 : Int) ≤ j := by omega
      have hjm : (j : Int) - 1 < m := by omega
      have hj9 : (0 : Int) ≤ (j : Int) - 1 := by omega
      clear hacc hg0 hg1 Hacc Hz
      go_upto_region 4 with fail
      refine Dr.wp_region_plan 16 [] (.q [0, 1, 2, 3, 4, 5, 6, 7, 8, 9] (.e1 10 (.q [11, 12, 13, 14, 15] .done))) (by kernel_rfl) (by kernel_rfl) ?_
      have hb1 := hbr.drew
      have hS1 := hSr.ext (ext_drew wr)
      clear hbr hSr
      generalize World.drew _ = W at *
      obtain ⟨b, o, hA, -, c0⟩ := (hd.ext hb1).at1 (k := j - 1) (by rw [toI_len]; exact hjk0) rfl
      obtain ⟨b', o', hA', -, c1⟩ := (hd.ext hb1).at1 (k := j) (by rw [toI_len]; exact hjk) rfl
      rw [hA] at hA'
      obtain ⟨rfl, rfl⟩ : b = b' ∧ o = o' := by simpa using hA'
      subst hA
      clear hA'
      rw [toI_get hjk0] at c0
      rw [toI_get hjk] at c1
      generalize k[j - 1] = a0 at *
      generalize k[j] = a1 at *
      obtain ⟨i, rfl⟩ : ∃ i, j = i + 1 := ⟨j - 1, by omega⟩
      simp only [Nat.add_sub_cancel] at c0
      have q0 := Dr.cell0 (hS1.cell (i := 0) rfl)
      have q1 := Dr.cell0 (hS1.cell (i := 1) rfl)
      have q2 := Dr.cell0 (hS1.cell (i := 2) rfl)
      have q3 := Dr.cell0 (hS1.cell (i := 3) rfl)
      have q4 := Dr.cell0 (hS1.cell (i := 4) rfl)
      have q5 := Dr.cell0 (hS1.cell (i := 5) rfl)
      have q6 := Dr.cell0 (hS1.cell (i := 6) rfl)
      have r0 := Dr.cell0 c0
      have r1 := Dr.cell0 c1
      refine Dr.plan_q (l := [_, _, _, _, _, _, _, _, _, _]) rfl (fun K hK => ?_)
      iterate 10 (go_big_quiet_step (fail))
      refine wpQuiet_nil (hK _ ?_); clear hK K
      clear q0 q1 q2 q3 q4 q5 q6
      clear r0 r1 c0 c1
      have CC := Lib.hid (CH.out W hb1 a0 a1 l0 l1)
      refine Dr.plan_e rfl (by rfl) (fun K hK => ?_)
      go_wp2_with fail
      refine CC.out.mono ?_; rintro e W1 ⟨rfl, hx1⟩
      refine hK _ _ (.of hx1) ?_; clear hK K CC
      have hb2 := hb1.trans (hx1.mono hb1.size)
      have hS2 := hS1.ext hx1
      clear hb1 hS1 hx1
      refine Dr.plan_q (l := [_, _, _, _, _]) rfl (fun K hK => ?_)
      iterate 5 (go_big_quiet_step (fail))
      refine wpQuiet_nil (hK _ ?_); clear hK K
      refine Dr.plan_end rfl ?_
      go_wp2
      go_roundw
      case rel => exact ⟨acc + s.chC a0 a1, i + 1 + 1, rfl, by go_num, by omega, .inl (by omega), by omega, by omega, Hn, Lib.hid (fun h => by omega), hb2, hS2⟩
      case measure => simp [intOf]; omega
    · have hfin : acc = res := by
        rcases Nat.eq_zero_or_pos m with h0 | h0
        · rw [Hz.out h0, ← Hres.out]
          have : k = [] := List.length_eq_zero_iff.1 (Hm.out.trans h0)
          rw [this]; rfl
        · have hjm : j = m := by omega
          have := Hacc.out (by omega)
          rw [List.drop_eq_nil_of_le (by rw [Hm.out]; omega), Sh.pc] at this
          omega
      subst hfin
      have hlt' : ¬ (j : Int) < m := by omega
      go_wp2
      go_ret
      exact ⟨rfl, hbr⟩
end Go.Proofs.YtcnidhcdkbfpcaaGreat

/- Walks: the cost and the sheet of a programme. (Printed by mk_prgn.py.) -/
namespace Go.Proofs.YtcnidhcdkbfpcaaGreat
open Go.RowKit Go.Bs Go.Pg Go.Pl Go.Sort
theorem right_zero {s : Sh} {l : List Int} (h : rightE s l = 0) : s.Ok ∧ ∃ k, l = toI k ∧ k.length = s.acts.length ∧ (∀ i ∈ k, i < s.acts.length) ∧ k.Nodup ∧ (s.fault k).2 = 0 := by
  unfold rightE at h
  split at h
  · rename_i hz
    obtain ⟨h1, h2⟩ := ask_zero hz
    obtain ⟨k, rfl, k1, k2, k3⟩ := ord_nat h2
    rw [toI_toNat] at h
    split at h
    · rename_i hf; exact ⟨Sh.ok_of h1, k, rfl, k1, k2, k3, hf⟩
    · omega
  · rename_i hz; exact absurd h hz
def CstR (s : Sh) (l : List Int) (e : Ending) : Prop := ∃ x z : Int, e = .returned (.tuple #[.int .i64 x, .int .i64 z]) ∧ z = rightE s l ∧ (z ≠ 0 → x = 0) ∧ (z = 0 → x = s.cost (l.map Int.toNat))
theorem Cost_any (s : Sh) (p : ShP) (A : Option Addr) (n c : Nat) (l : List Int) (w : World) (h : ShM w s p) (hn : l.length = n) (hm : n ≤ 12) (hd : Cells w A 1 encI l) :
    Calls Tryz.prog 32 #[shV s p, .slice A n c] w fun e w' => CstR s l e ∧ Below w.heap.size w w' := by
  have hb0 := ext_alloc w (.cells (shC s p).toArray 37)
  have hS := Blk.new w 37 (shC s p)
  have C1 := Lib.hid (right_any s p A n c l (w.alloc (.cells (shC s p).toArray 37)) (h.ext hb0) hn hm (hd.ext hb0))
  have C2 := Lib.hid (fun W (hz : rightE s l = 0) (hW : Below w.heap.size w W) => show Calls Tryz.prog 54 #[shV s p, .slice A n c] W (fun e w' => e = .returned (.int .i64 (s.cost (l.map Int.toNat))) ∧ Below W.heap.size W w') from by
    obtain ⟨hok, k, rfl, k1, k2, -, -⟩ := right_zero hz
    rw [toI_toNat]
    exact cost_any s p A n c k W (h.ext hW) hok k2 (by rw [← toI_len, hn]) (by omega) (hd.ext hW))
  have HG := Lib.hid (show ∀ ek, rightE s l = ek → ∀ cv, s.cost (l.map Int.toNat) = cv → ∀ x : Int, (ek ≠ 0 → x = 0) → (ek = 0 → x = cv) → CstR s l (.returned (.tuple #[.int .i64 x, .int .i64 ek])) from fun ek e1 cv e2 x h1 h2 => ⟨x, ek, rfl, e1.symm, h1, by rw [e2]; exact h2⟩)
  generalize hek : rightE s l = ek at *
  generalize hcv : s.cost (l.map Int.toNat) = cv at *
  have HH := Lib.hid (HG.out ek rfl cv rfl)
  clear h hd hn HG hek hcv
  unfold shV at *
  unfold shC at *
  go_enter Tryz.func32, Tryz.ntmps32
  go_upto_region 1 with fail
  generalize w.alloc (.cells #[.slice p.A s.acts.length p.cA, .slice p.R s.rest.length p.cR, .slice p.I s.ins.length p.cI, .slice p.O s.outs.length p.cO, .int .i64 s.cover, .int .i64 s.dull, .slice p.B s.before.length p.cB] 37) = W0 at *
  have x0 : W0.cell? ⟨w.heap.size, 0, none⟩ = _ := hS.cell (i := 0) rfl
  have x1 : W0.cell? ⟨w.heap.size, 1, none⟩ = _ := hS.cell (i := 1) rfl
  have x2 : W0.cell? ⟨w.heap.size, 2, none⟩ = _ := hS.cell (i := 2) rfl
  have x3 : W0.cell? ⟨w.heap.size, 3, none⟩ = _ := hS.cell (i := 3) rfl
  have x4 : W0.cell? ⟨w.heap.size, 4, none⟩ = _ := hS.cell (i := 4) rfl
  have x5 : W0.cell? ⟨w.heap.size, 5, none⟩ = _ := hS.cell (i := 5) rfl
  have x6 : W0.cell? ⟨w.heap.size, 6, none⟩ = _ := hS.cell (i := 6) rfl
  go_wp2_with fail
  refine C1.out.mono ?_; rintro e W1 ⟨rfl, hb1⟩
  have hw1 := hb0.trans (hb1.mono hb0.size)
  have hS1 := hS.ext hb1
  clear x0 x1 x2 x3 x4 x5 x6
  have x0 : W1.cell? ⟨w.heap.size, 0, none⟩ = _ := hS1.cell (i := 0) rfl
  have x1 : W1.cell? ⟨w.heap.size, 1, none⟩ = _ := hS1.cell (i := 1) rfl
  have x2 : W1.cell? ⟨w.heap.size, 2, none⟩ = _ := hS1.cell (i := 2) rfl
  have x3 : W1.cell? ⟨w.heap.size, 3, none⟩ = _ := hS1.cell (i := 3) rfl
  have x4 : W1.cell? ⟨w.heap.size, 4, none⟩ = _ := hS1.cell (i := 4) rfl
  have x5 : W1.cell? ⟨w.heap.size, 5, none⟩ = _ := hS1.cell (i := 5) rfl
  have x6 : W1.cell? ⟨w.heap.size, 6, none⟩ = _ := hS1.cell (i := 6) rfl
  by_cases hz : ek = 0
  · subst hz
    have CC := Lib.hid (C2.out W1 rfl hw1)
    clear C2 C1
    go_wp2_with fail
    refine CC.out.mono ?_; rintro e W2 ⟨rfl, hb2⟩
    go_wp2
    refine bodyPost_ret (v := .tuple #[.int .i64 cv, .int .i64 0]) (by simp [results, Tryz.results32, go_sem]) rfl ?_
    exact ⟨HH.out cv (fun h => absurd rfl h) (fun _ => rfl), hw1.trans (hb2.mono hw1.size)⟩
  · have hz' : (ek != 0) = true := by simpa using hz
    have Hz := Lib.hid hz
    clear hz C2
    go_wp2
    refine bodyPost_ret (v := .tuple #[.int .i64 0, .int .i64 ek]) (by simp [results, Tryz.results32, go_sem]) rfl ?_
    exact ⟨HH.out 0 (fun _ => rfl) (fun h => absurd h Hz.out), hw1⟩
def ShtR (w : World) (s : Sh) (l : List Int) (e : Ending) (w' : World) : Prop := ∃ (v : Value) (x z : Int), e = .returned (.tuple #[v, .int .i64 x, .int .i64 z]) ∧ z = rightE s l ∧ (z ≠ 0 → v = .slice none 0 0 ∧ x = 0) ∧
  (z = 0 → FreshL w w' 1 encI v (s.sheet (l.map Int.toNat)).1 ∧ x = (s.sheet (l.map Int.toNat)).2)
set_option maxRecDepth 100000 in
set_option maxHeartbeats 4000000 in
theorem Sheet_any (s : Sh) (p : ShP) (A : Option Addr) (n c : Nat) (l : List Int) (w : World) (h : ShM w s p) (hn : l.length = n) (hm : n ≤ 12) (hd : Cells w A 1 encI l) :
    Calls Tryz.prog 20 #[shV s p, .slice A n c] w fun e w' => ShtR w s l e w' ∧ Below w.heap.size w w' := by
  have hb0 := ext_alloc w (.cells (shC s p).toArray 37)
  have hS := Blk.new w 37 (shC s p)
  have hs0 : (w.alloc (.cells (shC s p).toArray 37)).heap.size = w.heap.size + 1 := by simp
  have C1 := Lib.hid (right_any s p A n c l (w.alloc (.cells (shC s p).toArray 37)) (h.ext hb0) hn hm (hd.ext hb0))
  have HG := Lib.hid (show ∀ ek, rightE s l = ek → ∀ r, s.sheet (l.map Int.toNat) = r → ∀ (v : Value) (x : Int) (w' : World), (ek ≠ 0 → v = .slice none 0 0 ∧ x = 0) → (ek = 0 → FreshL w w' 1 encI v r.1 ∧ x = r.2) → ShtR w s l (.returned (.tuple #[v, .int .i64 x, .int .i64 ek])) w' from fun ek e1 r e2 v x w' h1 h2 => ⟨v, x, ek, rfl, e1.symm, h1, by rw [e2]; exact h2⟩)
  have HZ := Lib.hid (fun hz => right_zero (s := s) (l := l) hz)
  generalize hek : rightE s l = ek at *
  generalize hrr : s.sheet (l.map Int.toNat) = rr at *
  have HH := Lib.hid (HG.out ek rfl rr rfl)
  have HM := Lib.hid (fun W (hW : Below w.heap.size w W) => h.ext hW)
  have Hn := Lib.hid hn
  have Hrr := Lib.hid hrr
  clear h hn HG hek hrr
  unfold shV at *
  unfold shC at *
  go_enter Tryz.func20, Tryz.ntmps20
  go_upto_region 1 with fail
  generalize w.alloc (.cells #[.slice p.A s.acts.length p.cA, .slice p.R s.rest.length p.cR, .slice p.I s.ins.length p.cI, .slice p.O s.outs.length p.cO, .int .i64 s.cover, .int .i64 s.dull, .slice p.B s.before.length p.cB] 37) = W0 at *
  have x0 : W0.cell? ⟨w.heap.size, 0, none⟩ = _ := hS.cell (i := 0) rfl
  have x1 : W0.cell? ⟨w.heap.size, 1, none⟩ = _ := hS.cell (i := 1) rfl
  have x2 : W0.cell? ⟨w.heap.size, 2, none⟩ = _ := hS.cell (i := 2) rfl
  have x3 : W0.cell? ⟨w.heap.size, 3, none⟩ = _ := hS.cell (i := 3) rfl
  have x4 : W0.cell? ⟨w.heap.size, 4, none⟩ = _ := hS.cell (i := 4) rfl
  have x5 : W0.cell? ⟨w.heap.size, 5, none⟩ = _ := hS.cell (i := 5) rfl
  have x6 : W0.cell? ⟨w.heap.size, 6, none⟩ = _ := hS.cell (i := 6) rfl
  go_wp2_with fail
  refine C1.out.mono ?_; rintro e W1 ⟨rfl, hb1⟩
  have hw1 := hb0.trans (hb1.mono hb0.size)
  have hS1 := hS.ext hb1
  have hsz1 : w.heap.size + 1 ≤ W1.heap.size := by have := hb1.size; omega
  clear x0 x1 x2 x3 x4 x5 x6
  clear C1 hS hb0 hb1 hs0
  by_cases hz : ek = 0
  · subst hz
    obtain ⟨hok, k, rfl, -, k2, -, -⟩ := HZ.out rfl
    have Hr2 := Lib.hid (show s.sheet k = rr by rw [← Hrr.out, toI_toNat])
    have hkn : k.length = n := by rw [← toI_len]; exact Hn.out
    have CH := Lib.hid (fun W (hW : Below w.heap.size w W) (i j : Nat) (hi : i < s.acts.length) (hj : j < s.acts.length) => change_any s p i j W ((HM.out W hW)) hok hi hj)
    have HC := Lib.hid (fun i j => hok.chM i j)
    have HA := Lib.hid (fun i (hi : i < s.acts.length) => (hok.act hi).min)
    have Hk := Lib.hid k2
    have Hkn := Lib.hid hkn
    clear hok k2 hkn HZ Hrr Hn
    have hlen9 : n ≤ 12 := hm
    go_wp2
    go_loopw [4, 5, 20] (fun v e x wr => ∃ (j : Nat) (Tl : List Int) (t : Int), e = .int .i64 t ∧ x = .int .i64 j ∧ j ≤ n ∧ Tl.length = j ∧ 0 ≤ t ∧ t ≤ 1020 * j ∧ Hid ((j = 0 → t = 0) ∧ Tl ++ (restS s k j t).1 = rr.1 ∧ (restS s k j t).2 = rr.2) ∧ OwnL wr (w.heap.size + 1) 3 1 encI v Tl ∧ Below w.heap.size w wr ∧ Blk wr w.heap.size 37 [.slice p.A s.acts.length p.cA, .slice p.R s.rest.length p.cR, .slice p.I s.ins.length p.cI, .slice p.O s.outs.length p.cO, .int .i64 s.cover, .int .i64 s.dull, .slice p.B s.before.length p.cB])
      (fun _ _ x _ => n - (intOf x).toNat)
    case atStart => exact ⟨0, [], 0, rfl, rfl, by omega, rfl, by omega, by omega, Lib.hid ⟨fun _ => rfl, by rw [rest_zero, List.nil_append, Hr2.out], by rw [rest_zero, Hr2.out]⟩, OwnL.nil, hw1, hS1⟩
    case round =>
      obtain ⟨j, Tl, t, rfl, rfl, hj, hTl, ht0, ht1, Hrs, hown, hbr, hSr⟩ := hrel
      have HTl := Lib.hid hTl
      clear hw1 hS1 hsz1 hTl
      by_cases hlt : j < n
      · have hjk : j < k.length := by rw [Hkn.out]; exact hlt
        obtain ⟨b, o, rfl, -, c0⟩ := (hd.ext hbr).at1 (k := j) (by rw [toI_len]; exact hjk) rfl
        rw [toI_get hjk] at c0
        have l1 := Hk.out _ (List.getElem_mem hjk)
        have hmn := HA.out _ l1
        have hlt' : (j : Int) < n := by omega
        have hj0 : (0 : Int) ≤ j := by omega
        by_cases hj00 : j = 0
        · subst hj00
          rw [Nat.add_zero] at c0
          have ht : t = 0 := Hrs.out.1 rfl
          subst ht
          have hrs := Hrs.out.2
          rw [rest_first hjk] at hrs
          have Hn2 := Lib.hid (show Tl ++ [(0 : Int)] ++ (restS s k (0 + 1) (s.act k[0]).min).1 = rr.1 ∧ (restS s k (0 + 1) (s.act k[0]).min).2 = rr.2 from by
            exact ⟨by rw [← hrs.1]; simp, hrs.2⟩)
          clear hrs Hrs
          generalize k[0] = a1 at *
          have hoV := hown
          have hbV := hbr
          have hSV := hSr
          clear hown hbr hSr
          generalize wr = V at *
          have hnew := Blk.new V 3 [.int .i64 (0)]
          have hba := ext_alloc V (.cells #[.int .i64 (0)] 3)
          go_upto_region 10 with fail
          go_upto_region 11 with (at_builtin; refine app1 encI 23 3 1 8 et23 (by decide) (by decide) encI_len encI_one rfl _ _ rfl (w.heap.size + 1) _ Tl rfl (hoV.alloc _) V.heap.size rfl (0) (encI_cell (hnew.cell rfl)) (by have := HTl.out; omega) (by have := hbV.size; have := hSV.lt; simp; omega) ?_; intro g' cap' V2 hown' hb3 hgr3 hat3; have hb4 : RowKit.Below (w.heap.size + 1) V V2 := (hba.mono (by have := hSV.lt; omega)).trans hb3; have hbw4 := hbV.trans (hb4.mono (by omega)); have hS4 : Blk V2 w.heap.size 37 [.slice p.A s.acts.length p.cA, .slice p.R s.rest.length p.cR, .slice p.I s.ins.length p.cI, .slice p.O s.outs.length p.cO, .int .i64 s.cover, .int .i64 s.dull, .slice p.B s.before.length p.cB] := (hb4.block w.heap.size (by omega)).trans hSV; obtain ⟨bm, om, Cm, cm2, hAm, lm, am, am1, am2, am3, am4, hm5⟩ := (HM.out V2 hbw4).at l1; have x0 := hS4.cell (i := 0) rfl; rw [hAm] at x0; clear hAm am1 am2 am3 am4 hm5; have hown4 := hown'; clear hown' hb3 hgr3 hat3 hb4)
          have hT1 : (Tl ++ [0]).length = 0 + 1 := by rw [List.length_append, HTl.out]; rfl
          have HT1 := Lib.hid hT1
          clear hnew hba hoV hbV hSV hT1
          have hal : (a1 : Int) < (s.acts.length : Int) := by omega
          go_wp2
          go_roundw
          case rel => exact ⟨0 + 1, Tl ++ [0], _, rfl, by go_num, by omega, HT1.out, by omega, by omega, Lib.hid ⟨fun h => by omega, Hn2.out.1, Hn2.out.2⟩, hown4, hbw4, hS4⟩
          case measure => simp [intOf]; omega
        · have hjk0 : j - 1 < k.length := by omega
          have hg0 : k.getD (j - 1) 0 = k[j - 1] := by simp [hjk0]
          have hrs := Hrs.out.2
          rw [rest_next hjk (by omega), hg0] at hrs
          have l0 := Hk.out _ (List.getElem_mem hjk0)
          have hcm := HC.out k[j - 1] k[j]
          have Hn2 := Lib.hid (show Tl ++ [t + s.chM k[j - 1] k[j]] ++ (restS s k (j + 1) (t + s.chM k[j - 1] k[j] + (s.act k[j]).min)).1 = rr.1 ∧ (restS s k (j + 1) (t + s.chM k[j - 1] k[j] + (s.act k[j]).min)).2 = rr.2 from
            ⟨by rw [← hrs.1]; simp, hrs.2⟩)
          clear hrs Hrs hg0
          have hjp : (0 : Int) < j := by omega
          have hjm : (j : Int) - 1 < n := by omega
          have hj9 : (0 : Int) ≤ (j : Int) - 1 := by omega
          go_upto_region 8 with fail
          refine Dr.wp_region_plan 13 [] (.q [0, 1, 2, 3, 4, 5, 6] (.e1 7 (.q [8, 9, 10, 11, 12] .done))) (by kernel_rfl) (by kernel_rfl) ?_
          have hb1 := hbr.drew
          have hS1 := hSr.ext (ext_drew wr)
          have ho1 := hown.drew
          clear hbr hSr hown
          generalize World.drew _ = W at *
          obtain ⟨b', o', hA', -, c1⟩ := (hd.ext hb1).at1 (k := j - 1) (by rw [toI_len]; exact hjk0) rfl
          obtain ⟨rfl, rfl⟩ : b = b' ∧ o = o' := by simpa using hA'
          clear hA' c0
          rw [toI_get hjk0] at c1
          generalize k[j - 1] = a0 at *
          generalize k[j] = a1 at *
          obtain ⟨i, rfl⟩ : ∃ i, j = i + 1 := ⟨j - 1, by omega⟩
          simp only [Nat.add_sub_cancel] at c1
          have q0 := Dr.cell0 (hS1.cell (i := 0) rfl)
          have q1 := Dr.cell0 (hS1.cell (i := 1) rfl)
          have q2 := Dr.cell0 (hS1.cell (i := 2) rfl)
          have q3 := Dr.cell0 (hS1.cell (i := 3) rfl)
          have q4 := Dr.cell0 (hS1.cell (i := 4) rfl)
          have q5 := Dr.cell0 (hS1.cell (i := 5) rfl)
          have q6 := Dr.cell0 (hS1.cell (i := 6) rfl)
          have r1 := Dr.cell0 c1
          refine Dr.plan_q (l := [_, _, _, _, _, _, _]) rfl (fun K hK => ?_)
          iterate 7 (go_big_quiet_step (fail))
          refine wpQuiet_nil (hK _ ?_); clear hK K
          clear q0 q1 q2 q3 q4 q5 q6
          clear r1 c1
          have CC := Lib.hid (CH.out W hb1 a0 a1 l0 l1)
          refine Dr.plan_e rfl (by rfl) (fun K hK => ?_)
          go_wp2_with fail
          refine CC.out.mono ?_; rintro e V ⟨rfl, hx1⟩
          refine hK _ _ (.of hx1) ?_; clear hK K CC
          have hbV := hb1.trans (hx1.mono hb1.size)
          have hSV := hS1.ext hx1
          have hoV := ho1.ext hx1
          clear hb1 hS1 hx1 ho1
          refine Dr.plan_q (l := [_, _, _, _, _]) rfl (fun K hK => ?_)
          iterate 5 (go_big_quiet_step (fail))
          refine wpQuiet_nil (hK _ ?_); clear hK K
          refine Dr.plan_end rfl ?_
          generalize s.chM a0 a1 = cm at *
          have hnew := Blk.new V 3 [.int .i64 (t + cm)]
          have hba := ext_alloc V (.cells #[.int .i64 (t + cm)] 3)
          go_upto_region 10 with fail
          go_upto_region 11 with (at_builtin; refine app1 encI 23 3 1 8 et23 (by decide) (by decide) encI_len encI_one rfl _ _ rfl (w.heap.size + 1) _ Tl rfl (hoV.alloc _) V.heap.size rfl (t + cm) (encI_cell (hnew.cell rfl)) (by have := HTl.out; omega) (by have := hbV.size; have := hSV.lt; simp; omega) ?_; intro g' cap' V2 hown' hb3 hgr3 hat3; have hb4 : RowKit.Below (w.heap.size + 1) V V2 := (hba.mono (by have := hSV.lt; omega)).trans hb3; have hbw4 := hbV.trans (hb4.mono (by omega)); have hS4 : Blk V2 w.heap.size 37 [.slice p.A s.acts.length p.cA, .slice p.R s.rest.length p.cR, .slice p.I s.ins.length p.cI, .slice p.O s.outs.length p.cO, .int .i64 s.cover, .int .i64 s.dull, .slice p.B s.before.length p.cB] := (hb4.block w.heap.size (by omega)).trans hSV; obtain ⟨bm, om, Cm, cm2, hAm, lm, am, am1, am2, am3, am4, hm5⟩ := (HM.out V2 hbw4).at l1; have x0 := hS4.cell (i := 0) rfl; rw [hAm] at x0; clear hAm am1 am2 am3 am4 hm5; have hown4 := hown'; clear hown' hb3 hgr3 hat3 hb4)
          have hT1 : (Tl ++ [t + cm]).length = (i + 1) + 1 := by rw [List.length_append, HTl.out]; rfl
          have HT1 := Lib.hid hT1
          clear hnew hba hoV hbV hSV hT1
          have hal : (a1 : Int) < (s.acts.length : Int) := by omega
          go_wp2
          go_roundw
          case rel => exact ⟨(i + 1) + 1, Tl ++ [t + cm], _, rfl, by go_num, by omega, HT1.out, by omega, by omega, Lib.hid ⟨fun h => by omega, Hn2.out.1, Hn2.out.2⟩, hown4, hbw4, hS4⟩
          case measure => simp [intOf]; omega
      · obtain rfl : j = n := by omega
        have hrs := Hrs.out
        have Hfin : Hid (Tl = rr.1 ∧ t = rr.2) := Lib.hid (by
          rcases Nat.eq_zero_or_pos j with h0 | h0
          · subst h0
            have hk0 : k = [] := List.length_eq_zero_iff.1 Hkn.out
            rw [hk0] at hrs
            refine ⟨by rw [← hrs.2.1]; simp [restS, Sh.sheet], by rw [← hrs.2.2, hrs.1 rfl]; simp [restS, Sh.sheet]⟩
          · rw [rest_end (by rw [Hkn.out]; omega) h0] at hrs
            exact ⟨by rw [← hrs.2.1]; simp, hrs.2.2⟩)
        obtain ⟨A1, c1, hv, -, -, -⟩ := hown.cells encI_len
        subst hv
        clear hrs Hrs
        go_wp2
        refine bodyPost_ret (v := .tuple #[.slice A1 Tl.length c1, .int .i64 t, .int .i64 0]) (by simp [results, Tryz.results20, go_sem]) rfl ?_
        exact ⟨HH.out _ _ _ (fun h => absurd rfl h) (fun _ => ⟨by rw [← Hfin.out.1]; exact FreshL.of_own hown encI_len (by omega), Hfin.out.2⟩), hbr⟩
  · have hz' : (ek != 0) = true := by simpa using hz
    have Hz := Lib.hid hz
    clear hz HZ
    go_wp2
    refine bodyPost_ret (v := .tuple #[.slice none 0 0, .int .i64 0, .int .i64 ek]) (by simp [results, Tryz.results20, go_sem]) rfl ?_
    exact ⟨HH.out _ _ _ (fun _ => ⟨rfl, rfl⟩) (fun h => absurd h Hz.out), hw1⟩
end Go.Proofs.YtcnidhcdkbfpcaaGreat

/- Walks: the set of all acts; is a state one; the acts that may follow, or come first. (Printed by mk_prgo.py.) -/
namespace Go.Pg
open Go.RowKit Go.Bs Go.Pl
def folTo (s : Sh) (x : St) (c : Nat) : List Nx := ((List.range c).filter (s.may x)).map (s.nx x)
theorem folTo_hit {s : Sh} {x : St} {c : Nat} (h : s.may x c = true) : folTo s x (c + 1) = folTo s x c ++ [s.nx x c] := by
  unfold folTo; rw [List.range_succ, List.filter_append, List.map_append]; simp [h]
theorem folTo_miss {s : Sh} {x : St} {c : Nat} (h : s.may x c = false) : folTo s x (c + 1) = folTo s x c := by
  unfold folTo; rw [List.range_succ, List.filter_append, List.map_append]; simp [h]
theorem folTo_len (s : Sh) (x : St) (c : Nat) : (folTo s x c).length ≤ c := by
  unfold folTo; rw [List.length_map]; exact Nat.le_trans (List.length_filter_le _ _) (by simp)
theorem folTo_end (s : Sh) (x : St) : folTo s x s.acts.length = s.fol x := rfl
def firTo (s : Sh) (c : Nat) : List Nat := (List.range c).filter s.first
theorem firTo_hit {s : Sh} {c : Nat} (h : s.first c = true) : firTo s (c + 1) = firTo s c ++ [c] := by
  unfold firTo; rw [List.range_succ, List.filter_append]; simp [h]
theorem firTo_miss {s : Sh} {c : Nat} (h : s.first c = false) : firTo s (c + 1) = firTo s c := by
  unfold firTo; rw [List.range_succ, List.filter_append]; simp [h]
theorem firTo_len (s : Sh) (c : Nat) : (firTo s c).length ≤ c := by
  unfold firTo; exact Nat.le_trans (List.length_filter_le _ _) (by simp)
def stC (x : St) : List Value := [.int .u16 x.set, .int .i64 x.last, .int .i64 x.sec]
/-- a state of a show -/
structure StOk (s : Sh) (x : St) : Prop where
  set : x.set < 2 ^ s.acts.length
  last : x.last < s.acts.length
  sec : x.sec < s.acts.length
theorem StOk.lt {s : Sh} {x : St} (h : StOk s x) (hok : s.Ok) : x.set < 65536 := Nat.lt_of_lt_of_le h.set (show 2 ^ s.acts.length ≤ 2 ^ 16 from Nat.pow_le_pow_right (by omega) (by have := hok.n8; omega))
theorem StOk.to {s : Sh} {x : St} {c : Nat} (h : StOk s x) (hc : c < s.acts.length) : StOk s (Sh.to x c) := ⟨or_lt h.set hc, hc, h.last⟩
theorem StOk.fol {s : Sh} {x : St} {y : Nx} (h : StOk s x) (hy : y ∈ s.fol x) : StOk s y.st := by
  obtain ⟨c, h1, -, rfl⟩ := Sh.fol_mem hy
  exact h.to h1
theorem StOk.one {s : Sh} {a : Nat} (h : a < s.acts.length) : StOk s (Sh.one a) := ⟨Sh.one_lt h, h, h⟩
theorem pow16 {a : Nat} (ha : a < 16) : IntKind.u16.wrap ((2 : Int) ^ a) = ((2 ^ a : Nat) : Int) := by
  have h2 : 2 ^ a < 65536 := Nat.lt_of_le_of_lt (Nat.pow_le_pow_right (by omega) (show a ≤ 15 by omega)) (by decide)
  rw [IntKind.wrap_u16, show ((2 : Int) ^ a) = ((2 ^ a : Nat) : Int) by norm_cast]
  exact Int.emod_eq_of_lt (Int.natCast_nonneg _) (show ((2 ^ a : Nat) : Int) < ((65536 : Nat) : Int) from Int.ofNat_lt.2 h2)
end Go.Pg
namespace Go.Proofs.YtcnidhcdkbfpcaaGreat
open Go.RowKit Go.Bs Go.Pg Go.Pl Go.Sort
theorem et113 : ElemT Tryz.prog 90 94 5 40 := ElemT.mk (z := .agg #[.int .i64 0, .int .i64 0, .int .u16 0, .int .i64 0, .int .i64 0]) Tryz.underlying90 (by kernel_rfl) rfl
theorem whole_any (s : Sh) (p : ShP) (w : World) (hn : s.acts.length ≤ 8) : Calls Tryz.prog 25 #[shV s p] w fun e w' => e = .returned (.int .u16 s.whole) ∧ Below w.heap.size w w' := by
  have hb0 := ext_alloc w (.cells (shC s p).toArray 37)
  have hS := Blk.new w 37 (shC s p)
  have hr : IntKind.u16.wrap (IntKind.u16.wrap ((2 : Int) ^ s.acts.length) - 1) = (s.whole : Int) := by
    have h1 := Nat.two_pow_pos s.acts.length
    have h2 : 2 ^ s.acts.length ≤ 256 := Nat.pow_le_pow_right (n := 2) (by omega) (show s.acts.length ≤ 8 from hn)
    rw [pow16 (by omega), IntKind.wrap_u16]
    unfold Sh.whole
    omega
  generalize s.whole = wh at *
  unfold shV at *
  unfold shC at *
  go_enter Tryz.func25, Tryz.ntmps25
  go_upto_region 1 with fail
  generalize w.alloc (.cells #[.slice p.A s.acts.length p.cA, .slice p.R s.rest.length p.cR, .slice p.I s.ins.length p.cI, .slice p.O s.outs.length p.cO, .int .i64 s.cover, .int .i64 s.dull, .slice p.B s.before.length p.cB] 37) = W0 at *
  have x0 : W0.cell? ⟨w.heap.size, 0, none⟩ = _ := hS.cell rfl
  clear hS
  generalize s.acts.length = n at *
  go_wp2
  go_ret
  exact ⟨rfl, hb0⟩
theorem real_any (s : Sh) (x : St) (w : World) (h : StOk s x) (hok : s.Ok) : Calls Tryz.prog 26 #[St.val x] w fun e w' => e = .returned (.bool (Sh.real x)) ∧ Below w.heap.size w w' := by
  have hs := h.lt hok
  have hn8 := hok.n8
  have hl := h.last
  have hc := h.sec
  have hb0 := ext_alloc w (.cells (stC x).toArray 65)
  have hX := Blk.new w 65 (stC x)
  obtain ⟨set, last, sec⟩ := x
  simp only at hs hl hc
  unfold St.val Sh.real
  unfold stC at *
  simp only at *
  have h1 := bit16 set last hs
  have h2 := bit16 set sec hs
  have h3 := pow16 (a := last) (by omega)
  clear h
  go_enter Tryz.func26, Tryz.ntmps26
  go_upto_region 1 with fail
  generalize w.alloc (.cells #[.int .u16 set, .int .i64 last, .int .i64 sec] 65) = W0 at *
  refine Dr.wp_region_plan 7 [] (.q [0, 1, 2, 3, 4, 5, 6] .done) (by kernel_rfl) (by kernel_rfl) ?_
  have hb1 := hb0.drew
  have hX1 := hX.ext (ext_drew W0)
  clear hb0 hX
  generalize World.drew _ = W at *
  have q0 := Dr.cell0 (hX1.cell (i := 0) rfl)
  have q1 := Dr.cell0 (hX1.cell (i := 1) rfl)
  refine Dr.plan_q (l := [_, _, _, _, _, _, _]) rfl (fun K hK => ?_)
  iterate 7 (go_big_quiet_step (fail))
  refine wpQuiet_nil (hK _ ?_); clear hK K
  refine Dr.plan_end rfl ?_
  clear q0 q1
  have x0 : W.cell? ⟨w.heap.size, 0, none⟩ = _ := hX1.cell (i := 0) rfl
  have x1 : W.cell? ⟨w.heap.size, 1, none⟩ = _ := hX1.cell (i := 1) rfl
  have x2 : W.cell? ⟨w.heap.size, 2, none⟩ = _ := hX1.cell (i := 2) rfl
  cases hb : set.testBit last
  · rw [hb] at h1
    simp only [Bool.false_eq_true, if_false] at h1
    go_wp2
    go_ret
    exact ⟨by simp [hb], hb1⟩
  · rw [hb] at h1
    simp only [if_true] at h1
    cases hb' : set.testBit sec
    · rw [hb'] at h2
      simp only [Bool.false_eq_true, if_false] at h2
      go_wp2
      go_ret
      exact ⟨by simp [hb'], hb1⟩
    · rw [hb'] at h2
      simp only [if_true] at h2
      have H1 := Lib.hid hb
      have H2 := Lib.hid hb'
      clear hb hb'
      have hv : (((set : Int) == (2 : Int) ^ last) == ((last : Int) == (sec : Int))) = (set.testBit last && set.testBit sec && (decide (set = 2 ^ last) == decide (last = sec))) := by
        rw [H1.out, H2.out, Bool.true_and, Bool.true_and]
        have e1 : ((set : Int) == (2 : Int) ^ last) = decide (set = 2 ^ last) := by
          rw [show ((2 : Int) ^ last) = ((2 ^ last : Nat) : Int) by norm_cast]
          rw [Bool.eq_iff_iff]; simp only [beq_iff_eq, decide_eq_true_eq]; omega
        have e2 : ((last : Int) == (sec : Int)) = decide (last = sec) := by
          rw [Bool.eq_iff_iff]; simp only [beq_iff_eq, decide_eq_true_eq]; omega
        rw [e1, e2]
      have Hv := Lib.hid hv
      clear hv
      go_wp2
      go_ret
      exact ⟨ret_congr (bool_congr Hv.out), hb1⟩
end Go.Proofs.YtcnidhcdkbfpcaaGreat

/- Walk: the acts that may follow. (Printed by mk_prgo.py.) -/
namespace Go.Bs
open Go.RowKit
theorem OwnL.up {α : Type} {w : World} {base b2 : Nat} {e : TypeId} {sz : Nat} {enc : α → List Value} {v : Value} {l : List α} (h : OwnL w base e sz enc v l) (hb : b2 ≤ base) : OwnL w b2 e sz enc v l := by
  obtain ⟨h1, h2⟩ := h
  refine ⟨h1, h2.imp id ?_⟩
  rintro ⟨g, cap, cur, h3, h4, h5⟩
  exact ⟨g, cap, cur, h3, Nat.le_trans hb h4, h5⟩
end Go.Bs
namespace Go.Proofs.YtcnidhcdkbfpcaaGreat
open Go.RowKit Go.Bs Go.Pg Go.Pl Go.Sort
set_option maxRecDepth 100000 in
set_option maxHeartbeats 4000000 in
theorem follows_any (s : Sh) (p : ShP) (x : St) (w : World) (h : ShM w s p) (hok : s.Ok) (hx : StOk s x) :
    Calls Tryz.prog 49 #[shV s p, St.val x] w fun e w' => (∃ v, e = .returned v ∧ OwnL w' w.heap.size 94 5 Nx.enc v (s.fol x)) ∧ Below w.heap.size w w' := by
  have hs := hx.lt hok
  have hn8 := hok.n8
  have hl := hx.last
  have hc := hx.sec
  have hset := hx.set
  have CP := Lib.hid (fun i (hi : i < s.acts.length) (last sec : Int) (set : Nat) W (hW : Below w.heap.size w W) => place_any s p i last sec set W (h.ext hW) hi)
  have CW := Lib.hid (fun (y : AcV) i (hi : i < s.acts.length) (hy : y.a = s.act i) W (hW : Below w.heap.size w W) => why_any s p y i x.last (Sh.secI x) x.set W (h.ext hW) hok hi hy hs (.inr ⟨x.last, hl, rfl, by
    unfold Sh.secI
    by_cases e : x.sec = x.last
    · rw [if_pos e]; exact .inl rfl
    · rw [if_neg e]; exact .inr ⟨x.sec, hc, rfl⟩⟩))
  have CC := Lib.hid (fun (j : Nat) (hj : j < s.acts.length) W (hW : Below w.heap.size w W) => change_any s p x.last j W (h.ext hW) hok hl hj)
  have HCB := Lib.hid (fun a b => hok.chC a b)
  have Hsec := Lib.hid (show (if x.sec = x.last then -1 else (x.sec : Int)) = Sh.secI x from rfl)
  have Hmay := Lib.hid (show ∀ c, s.may x c = (!x.set.testBit c && decide (s.why c x.last (Sh.secI x) x.set = 0)) from fun _ => rfl)
  have Hnx := Lib.hid (show ∀ c, s.nx x c = ⟨c, s.chC x.last c, ⟨x.set ||| 2 ^ c, c, x.last⟩⟩ from fun _ => rfl)
  have Hhit := Lib.hid (fun c (h : s.may x c = true) => folTo_hit h)
  have Hmiss := Lib.hid (fun c (h : s.may x c = false) => folTo_miss h)
  have Hlen := Lib.hid (fun c => folTo_len s x c)
  have H00 := Lib.hid (show folTo s x 0 = [] from rfl)
  have Hend := Lib.hid (show folTo s x s.acts.length = s.fol x from rfl)
  have hb0 : Below w.heap.size w ((w.alloc (.cells (shC s p).toArray 37)).alloc (.cells (stC x).toArray 65)) := ((Below.refl _ _).alloc (Nat.le_refl _) _).alloc (by simp) _
  have hS := (Blk.new w 37 (shC s p)).alloc (.cells (stC x).toArray 65)
  have hX := Blk.new (w.alloc (.cells (shC s p).toArray 37)) 65 (stC x)
  have hsz : ((w.alloc (.cells (shC s p).toArray 37)).alloc (.cells (stC x).toArray 65)).heap.size = w.heap.size + 2 := by simp
  simp only [World.size_alloc] at hX
  generalize hFT : folTo s x = FT at *
  generalize s.fol x = FL at *
  generalize Sh.secI x = sI at *
  generalize hmm : s.may x = may at *
  generalize hnn : s.nx x = nx at *
  clear h hok hx hFT hmm hnn
  obtain ⟨set, last, sec⟩ := x
  simp only at hs hl hc hset Hsec Hmay Hnx CP CW CC
  unfold St.val
  unfold stC shC at hb0 hS hX hsz
  simp only at hb0 hS hX hsz
  unfold shV at *
  go_enter Tryz.func49, Tryz.ntmps49
  go_upto_region 1 with fail
  change Blk ((w.alloc (.cells #[.slice p.A s.acts.length p.cA, .slice p.R s.rest.length p.cR, .slice p.I s.ins.length p.cI, .slice p.O s.outs.length p.cO, .int .i64 s.cover, .int .i64 s.dull, .slice p.B s.before.length p.cB] 37)).alloc (.cells #[.int .u16 set, .int .i64 last, .int .i64 sec] 65)) _ _ _ at hS hX
  change Below w.heap.size w ((w.alloc (.cells #[.slice p.A s.acts.length p.cA, .slice p.R s.rest.length p.cR, .slice p.I s.ins.length p.cI, .slice p.O s.outs.length p.cO, .int .i64 s.cover, .int .i64 s.dull, .slice p.B s.before.length p.cB] 37)).alloc (.cells #[.int .u16 set, .int .i64 last, .int .i64 sec] 65)) at hb0
  change ((w.alloc (.cells #[.slice p.A s.acts.length p.cA, .slice p.R s.rest.length p.cR, .slice p.I s.ins.length p.cI, .slice p.O s.outs.length p.cO, .int .i64 s.cover, .int .i64 s.dull, .slice p.B s.before.length p.cB] 37)).alloc (.cells #[.int .u16 set, .int .i64 last, .int .i64 sec] 65)).heap.size = _ at hsz
  generalize (w.alloc (.cells #[.slice p.A s.acts.length p.cA, .slice p.R s.rest.length p.cR, .slice p.I s.ins.length p.cI, .slice p.O s.outs.length p.cO, .int .i64 s.cover, .int .i64 s.dull, .slice p.B s.before.length p.cB] 37)).alloc (.cells #[.int .u16 set, .int .i64 last, .int .i64 sec] 65) = W0 at *
  have x1 : W0.cell? ⟨w.heap.size + 1, 1, none⟩ = _ := hX.cell (i := 1) rfl
  have x2 : W0.cell? ⟨w.heap.size + 1, 2, none⟩ = _ := hX.cell (i := 2) rfl
  have x0 : W0.cell? ⟨w.heap.size, 0, none⟩ = _ := hS.cell (i := 0) rfl
  go_upto_if 14 with fail
  go_cut [5] (fun v W => v = .int .i64 sI ∧ W = W0)
  case first =>
    by_cases he : sec = last
    · have he' : ((sec : Int) == last) = true := by simp; omega
      have hI : sI = -1 := by rw [← Hsec.out, if_pos he]
      subst hI
      go_wp2
      go_meet
      case rel => exact ⟨rfl, rfl⟩
    · have he' : ((sec : Int) == last) = false := by simp; omega
      have hI : sI = sec := by rw [← Hsec.out, if_neg he]
      subst hI
      go_wp2
      go_meet
      case rel => exact ⟨rfl, rfl⟩
  case rest =>
    obtain ⟨rfl, rfl⟩ := hcut
    have Hsz := Lib.hid hsz
    clear x1 x2 Hsec hsz
    go_wp2
    clear x0
    go_loopw [4, 18] (fun v t wr => ∃ c : Nat, t = .int .i64 c ∧ c ≤ s.acts.length ∧ OwnL wr (w.heap.size + 2) 94 5 Nx.enc v (FT c) ∧ Below w.heap.size w wr ∧ Blk wr w.heap.size 37 [.slice p.A s.acts.length p.cA, .slice p.R s.rest.length p.cR, .slice p.I s.ins.length p.cI, .slice p.O s.outs.length p.cO, .int .i64 s.cover, .int .i64 s.dull, .slice p.B s.before.length p.cB] ∧ Blk wr (w.heap.size + 1) 65 [.int .u16 set, .int .i64 last, .int .i64 sec] ∧ w.heap.size + 2 ≤ wr.heap.size)
      (fun _ t _ => s.acts.length - (intOf t).toNat)
    case atStart => exact ⟨0, rfl, by omega, by rw [H00.out]; exact OwnL.nil, hb0, hS, hX, by have := Hsz.out; omega⟩
    case round =>
      obtain ⟨c, rfl, hcn, hown, hbr, hSr, hXr, hzr⟩ := hrel
      clear hb0 hS hX
      by_cases hlt : c < s.acts.length
      · have hlt' : (c : Int) < (s.acts.length : Int) := by omega
        have hbit := bit16 set c hs
        have hmay := Hmay.out c
        cases hb : set.testBit c
        · rw [hb] at hbit hmay
          simp only [Bool.false_eq_true, if_false] at hbit
          rw [Bool.not_false, Bool.true_and] at hmay
          have Hm := Lib.hid hmay
          clear hmay hb
          go_upto_region 7 with fail
          refine Dr.wp_region_plan 19 [] (.q [0, 1, 2, 3, 4, 5, 6, 7, 8, 9, 10, 11, 12, 13, 14] (.e1 15 (.e1 16 (.q [17, 18] .done)))) (by kernel_rfl) (by kernel_rfl) ?_
          have hb1 := hbr.drew
          have hS1 := hSr.ext (ext_drew wr)
          have hX1 := hXr.ext (ext_drew wr)
          have ho1 := hown.drew
          have hz1 : w.heap.size + 2 ≤ wr.drew.heap.size := hzr
          clear hbr hSr hXr hown hzr
          generalize World.drew _ = W at *
          have q0 := Dr.cell0 (hS1.cell (i := 0) rfl)
          have q1 := Dr.cell0 (hS1.cell (i := 1) rfl)
          have q2 := Dr.cell0 (hS1.cell (i := 2) rfl)
          have q3 := Dr.cell0 (hS1.cell (i := 3) rfl)
          have q4 := Dr.cell0 (hS1.cell (i := 4) rfl)
          have q5 := Dr.cell0 (hS1.cell (i := 5) rfl)
          have q6 := Dr.cell0 (hS1.cell (i := 6) rfl)
          have r0 := Dr.cell0 (hX1.cell (i := 0) rfl)
          have r1 := Dr.cell0 (hX1.cell (i := 1) rfl)
          have r2 := Dr.cell0 (hX1.cell (i := 2) rfl)
          refine Dr.plan_q (l := [_, _, _, _, _, _, _, _, _, _, _, _, _, _, _]) rfl (fun K hK => ?_)
          iterate 15 (go_big_quiet_step (fail))
          refine wpQuiet_nil (hK _ ?_); clear hK K
          clear q0 q1 q2 q3 q4 q5 q6 r0 r1 r2
          refine Dr.plan_e rfl (by rfl) (fun K hK => ?_)
          go_wp2_with fail
          refine (CP.out c hlt last sI set W hb1).mono ?_; rintro e W1 ⟨⟨y, -, hy, rfl⟩, hx1⟩
          refine hK _ _ (.of hx1) ?_; clear hK K
          have hb2 := hb1.trans (hx1.mono hb1.size)
          have hS2 := hS1.ext hx1
          have hX2 := hX1.ext hx1
          have ho2 := ho1.ext hx1
          have hz2 := Nat.le_trans hz1 hx1.size
          clear hb1 hS1 hX1 ho1 hx1 hz1
          refine Dr.plan_e rfl (by rfl) (fun K hK => ?_)
          go_wp2_with fail
          refine (CW.out y c hlt hy W1 hb2).mono ?_; rintro e W2 ⟨rfl, hx2⟩
          refine hK _ _ (.of hx2) ?_; clear hK K
          have hb3 := hb2.trans (hx2.mono hb2.size)
          have hS3 := hS2.ext hx2
          have hX3 := hX2.ext hx2
          have ho3 := ho2.ext hx2
          have hz3 := Nat.le_trans hz2 hx2.size
          clear hb2 hS2 hX2 ho2 hx2 hy hz2
          refine Dr.plan_q (l := [_, _]) rfl (fun K hK => ?_)
          iterate 2 (go_big_quiet_step (fail))
          refine wpQuiet_nil (hK _ ?_); clear hK K
          refine Dr.plan_end rfl ?_
          by_cases hw : s.why c last sI set = 0
          · rw [hw] at Hm ⊢
            have hft := Hhit.out c (Hm.out.trans (by simp))
            rw [Hnx.out] at hft
            have Hft := Lib.hid hft
            have hor := or16 set c hs (by omega)
            have hcb := HCB.out last c
            clear hft hw Hm hbit
            have y0 : W2.cell? ⟨w.heap.size, 0, none⟩ = _ := hS3.cell (i := 0) rfl
            have y1 : W2.cell? ⟨w.heap.size, 1, none⟩ = _ := hS3.cell (i := 1) rfl
            have y2 : W2.cell? ⟨w.heap.size, 2, none⟩ = _ := hS3.cell (i := 2) rfl
            have y3 : W2.cell? ⟨w.heap.size, 3, none⟩ = _ := hS3.cell (i := 3) rfl
            have y4 : W2.cell? ⟨w.heap.size, 4, none⟩ = _ := hS3.cell (i := 4) rfl
            have y5 : W2.cell? ⟨w.heap.size, 5, none⟩ = _ := hS3.cell (i := 5) rfl
            have y6 : W2.cell? ⟨w.heap.size, 6, none⟩ = _ := hS3.cell (i := 6) rfl
            have z1 : W2.cell? ⟨w.heap.size + 1, 1, none⟩ = _ := hX3.cell (i := 1) rfl
            go_wp2_with fail
            refine (CC.out c hlt W2 hb3).mono ?_; rintro e W3 ⟨rfl, hx3⟩
            have hb4 := hb3.trans (hx3.mono hb3.size)
            have hS4 := hS3.ext hx3
            have hX4 := hX3.ext hx3
            have ho4 := ho3.ext hx3
            have hz4 := Nat.le_trans hz3 hx3.size
            clear hb3 hS3 hX3 ho3 hx3 y0 y1 y2 y3 y4 y5 y6 z1 hz3
            generalize s.chC last c = cc at *
            go_upto_region 9 with fail
            refine Dr.wp_region_plan 14 [] (.q [0, 1, 2, 3, 4, 5, 6, 7, 8, 9, 10, 11, 12] (.e1 13 .done)) (by kernel_rfl) (by kernel_rfl) ?_
            have hb5 := hb4.drew
            have hS5 := hS4.ext (ext_drew W3)
            have hX5 := hX4.ext (ext_drew W3)
            have ho5 := ho4.drew
            have hz5 : w.heap.size + 2 ≤ W3.drew.heap.size := hz4
            clear hb4 hS4 hX4 ho4 hz4
            generalize World.drew _ = V at *
            have r0 := Dr.cell0 (hX5.cell (i := 0) rfl)
            have r1 := Dr.cell0 (hX5.cell (i := 1) rfl)
            refine Dr.plan_q (l := [_, _, _, _, _, _, _, _, _, _, _, _, _]) rfl (fun K hK => ?_)
            iterate 13 (go_big_quiet_step (fail))
            refine wpQuiet_nil (hK _ ?_); clear hK K
            clear r0 r1
            have hln := Hlen.out c
            refine Dr.plan_e rfl (by rfl) (fun K hK => ?_)
            go_wp2_with fail
            refine hK _ _ (.of (ext_alloc _ _)) ?_; clear hK K
            have hnew := Blk.new V 94 (Nx.enc ⟨c, cc, ⟨set ||| 2 ^ c, c, last⟩⟩)
            have hx6 := ext_alloc V (.cells (Nx.enc ⟨c, cc, ⟨set ||| 2 ^ c, c, last⟩⟩).toArray 94)
            have hb6 := hb5.trans (hx6.mono hb5.size)
            have hS6 := hS5.ext hx6
            have hX6 := hX5.ext hx6
            have ho6 := ho5.ext hx6
            have hz6 := Nat.le_trans hz5 hx6.size
            clear hb5 hS5 hX5 ho5 hx6
            change Blk (V.alloc (.cells #[.int .i64 c, .int .i64 cc, .int .u16 ((set ||| 2 ^ c : Nat) : Int), .int .i64 c, .int .i64 last] 94)) _ _ _ at hnew hS6 hX6
            change Below w.heap.size w (V.alloc (.cells #[.int .i64 c, .int .i64 cc, .int .u16 ((set ||| 2 ^ c : Nat) : Int), .int .i64 c, .int .i64 last] 94)) at hb6
            change OwnL (V.alloc (.cells #[.int .i64 c, .int .i64 cc, .int .u16 ((set ||| 2 ^ c : Nat) : Int), .int .i64 c, .int .i64 last] 94)) _ _ _ _ _ _ at ho6
            change w.heap.size + 2 ≤ (V.alloc (.cells #[.int .i64 c, .int .i64 cc, .int .u16 ((set ||| 2 ^ c : Nat) : Int), .int .i64 c, .int .i64 last] 94)).heap.size at hz6
            generalize V.alloc (.cells #[.int .i64 c, .int .i64 cc, .int .u16 ((set ||| 2 ^ c : Nat) : Int), .int .i64 c, .int .i64 last] 94) = V2 at *
            generalize V.heap.size = N at *
            refine Dr.plan_done (tl := [_, _]) rfl ?_
            refine app1 Nx.enc 90 94 5 40 et113 (by decide) (by decide) nx_len nx_one rfl _ _ rfl (w.heap.size + 2) _ (FT c) rfl ho6 N rfl ⟨c, cc, ⟨set ||| 2 ^ c, c, last⟩⟩ (fun j u hu => hnew.cell hu) (by omega) hz6 ?_
            intro g' cap' V3 hown' hb7 hgr7 hat7
            have hown8 : OwnL V3 (w.heap.size + 2) 94 5 Nx.enc (.slice (some ⟨g', 0, none⟩) ((FT c).length + 1) cap') (FT (c + 1)) := by (rw [Hft.out]; exact hown')
            have hb8 := hb6.trans (hb7.mono (by omega))
            have hS8 : Blk V3 w.heap.size 37 [.slice p.A s.acts.length p.cA, .slice p.R s.rest.length p.cR, .slice p.I s.ins.length p.cI, .slice p.O s.outs.length p.cO, .int .i64 s.cover, .int .i64 s.dull, .slice p.B s.before.length p.cB] := (hb7.block w.heap.size (by omega)).trans hS6
            have hX8 : Blk V3 (w.heap.size + 1) 65 [.int .u16 set, .int .i64 last, .int .i64 sec] := (hb7.block (w.heap.size + 1) (by omega)).trans hX6
            have hz8 : w.heap.size + 2 ≤ V3.heap.size := Nat.le_trans hz6 hb7.size
            clear hown' hb7 hgr7 hat7 hb6 hS6 hX6 ho6 hnew
            go_wp2
            go_roundw
            case rel => exact ⟨c + 1, by go_num, by omega, hown8, hb8, hS8, hX8, hz8⟩
            case measure => simp [intOf]; omega
          · rw [show decide (s.why c last sI set = 0) = false by simpa using hw] at Hm
            have Hft := Lib.hid (Hmiss.out c Hm.out)
            have hw3 := why_le s c last sI set
            generalize s.why c last sI set = wv at *
            have hw0 : ((wv : Int) != 0) = true := by simp; omega
            clear hw Hm
            go_wp2
            go_roundw
            case rel => exact ⟨c + 1, by go_num, by omega, by rw [Hft.out]; exact ho3, hb3, hS3, hX3, hz3⟩
            case measure => simp [intOf]; omega
        · rw [hb] at hbit hmay
          simp only [if_true] at hbit
          rw [Bool.not_true, Bool.false_and] at hmay
          have Hft := Lib.hid (Hmiss.out c hmay)
          clear hmay hb
          go_upto_region 7 with fail
          refine Dr.wp_region_plan 19 [] (.q [0, 1, 2, 3, 4, 5, 6, 7, 8, 9, 10, 11, 12, 13, 14] (.e1 15 (.e1 16 (.q [17, 18] .done)))) (by kernel_rfl) (by kernel_rfl) ?_
          have hb1 := hbr.drew
          have hS1 := hSr.ext (ext_drew wr)
          have hX1 := hXr.ext (ext_drew wr)
          have ho1 := hown.drew
          have hz1 : w.heap.size + 2 ≤ wr.drew.heap.size := hzr
          clear hbr hSr hXr hown hzr
          generalize World.drew _ = W at *
          have q0 := Dr.cell0 (hS1.cell (i := 0) rfl)
          have q1 := Dr.cell0 (hS1.cell (i := 1) rfl)
          have q2 := Dr.cell0 (hS1.cell (i := 2) rfl)
          have q3 := Dr.cell0 (hS1.cell (i := 3) rfl)
          have q4 := Dr.cell0 (hS1.cell (i := 4) rfl)
          have q5 := Dr.cell0 (hS1.cell (i := 5) rfl)
          have q6 := Dr.cell0 (hS1.cell (i := 6) rfl)
          have r0 := Dr.cell0 (hX1.cell (i := 0) rfl)
          have r1 := Dr.cell0 (hX1.cell (i := 1) rfl)
          have r2 := Dr.cell0 (hX1.cell (i := 2) rfl)
          refine Dr.plan_q (l := [_, _, _, _, _, _, _, _, _, _, _, _, _, _, _]) rfl (fun K hK => ?_)
          iterate 15 (go_big_quiet_step (fail))
          refine wpQuiet_nil (hK _ ?_); clear hK K
          clear q0 q1 q2 q3 q4 q5 q6 r0 r1 r2
          refine Dr.plan_e_skip rfl (by rfl) ?_; go_frame
          refine Dr.plan_e_skip rfl (by rfl) ?_; go_frame
          refine Dr.plan_q (l := [_, _]) rfl (fun K hK => ?_)
          iterate 2 (go_big_quiet_step (fail))
          refine wpQuiet_nil (hK _ ?_); clear hK K
          refine Dr.plan_end rfl ?_
          go_wp2
          go_roundw
          case rel => exact ⟨c + 1, by go_num, by omega, by rw [Hft.out]; exact ho1, hb1, hS1, hX1, hz1⟩
          case measure => simp [intOf]; omega
      · obtain rfl : c = s.acts.length := by omega
        go_wp2
        go_ret
        exact ⟨⟨_, rfl, by rw [← Hend.out]; exact (OwnL.up hown (by omega))⟩, hbr⟩
end Go.Proofs.YtcnidhcdkbfpcaaGreat
