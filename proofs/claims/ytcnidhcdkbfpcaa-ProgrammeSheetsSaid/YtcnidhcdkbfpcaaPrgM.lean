/- Walks: the error, the cost and the sheet of an order. (Printed by mk_prgm.py.) -/
import Derived.Test.YtcnidhcdkbfpcaaPrgL
namespace Go.Pg
open Go.Pl
theorem toI_toNat (k : List Nat) : (toI k).map Int.toNat = k := by
  unfold toI; rw [List.map_map]; exact (List.map_congr_left fun x _ => by simp).trans (List.map_id k)
def restS (s : Sh) (k : List Nat) (j : Nat) (e : Int) : List Int × Int := if j = 0 then s.sheet k else s.sheetL (k.getD (j - 1) 0) e (k.drop j)
theorem rest_zero (s : Sh) (k : List Nat) (e : Int) : restS s k 0 e = s.sheet k := rfl
theorem rest_first {s : Sh} {k : List Nat} (h : 0 < k.length) : restS s k 0 0 = ((0 : Int) :: (restS s k 1 (s.act k[0]).min).1, (restS s k 1 (s.act k[0]).min).2) := by
  cases k with
  | nil => simp at h
  | cons a r => rfl
theorem rest_next {s : Sh} {k : List Nat} {j : Nat} (h : j < k.length) (hj : 0 < j) (e : Int) :
    restS s k j e = ((e + s.chM (k.getD (j - 1) 0) k[j]) :: (restS s k (j + 1) (e + s.chM (k.getD (j - 1) 0) k[j] + (s.act k[j]).min)).1, (restS s k (j + 1) (e + s.chM (k.getD (j - 1) 0) k[j] + (s.act k[j]).min)).2) := by
  unfold restS
  rw [if_neg (by omega), if_neg (by omega), List.drop_eq_getElem_cons h, Sh.sheetL]
  simp [h]
theorem rest_end {s : Sh} {k : List Nat} {j : Nat} (h : k.length ≤ j) (hj : 0 < j) (e : Int) : restS s k j e = ([], e) := by
  unfold restS
  rw [if_neg (by omega), List.drop_eq_nil_of_le h, Sh.sheetL]
end Go.Pg
namespace Go.Proofs.Ytcnidhcdkbfpcaa
open Go.RowKit Go.Bs Go.Pg Go.Pl Go.Sort
/-- the error of what must be a programme -/
def rightE (s : Sh) (l : List Int) : Int := if askE s l = 0 then if (s.fault (l.map Int.toNat)).2 = 0 then 0 else 9 else askE s l
theorem ask_zero {s : Sh} {l : List Int} (h : askE s l = 0) : s.okB = true ∧ ordB s.acts.length l = true := by
  unfold askE at h
  split at h
  · rename_i h1
    split at h
    · rename_i h2; exact ⟨h1, h2⟩
    · omega
  · omega
theorem fault_of (s : Sh) (p : ShP) (A : Option Addr) (n c : Nat) (l : List Int) (w W : World) (h : ShM w s p) (hn : l.length = n) (hm : n ≤ 12) (hd : Cells w A 1 encI l) (hz : askE s l = 0) (hW : Below w.heap.size w W) :
    Calls Try.prog 56 #[shV s p, .slice A n c] W fun e w' => e = .returned (.tuple #[.int .i64 (s.fault (l.map Int.toNat)).1, .int .u8 (s.fault (l.map Int.toNat)).2]) ∧ Below W.heap.size W w' := by
  obtain ⟨h1, h2⟩ := ask_zero hz
  obtain ⟨k, rfl, k1, k2, k3⟩ := ord_nat h2
  rw [toI_toNat]
  exact fault_any s p A n c k W (h.ext hW) (Sh.ok_of h1) k2 (by rw [← toI_len, hn]) (by omega) (hd.ext hW)
theorem faultL_le (s : Sh) : ∀ (k : List Nat) (i : Nat) (last sec : Int) (set : Nat), (s.faultL k i last sec set).2 ≤ 3
  | [], _, _, _, _ => by simp [Sh.faultL]
  | a :: r, i, last, sec, set => by
    rw [Sh.faultL]
    split
    · exact faultL_le s r _ _ _ _
    · exact why_le s a last sec set
theorem right_any (s : Sh) (p : ShP) (A : Option Addr) (n c : Nat) (l : List Int) (w : World) (h : ShM w s p) (hn : l.length = n) (hm : n ≤ 12) (hd : Cells w A 1 encI l) :
    Calls Try.prog 52 #[shV s p, .slice A n c] w fun e w' => e = .returned (.int .i64 (rightE s l)) ∧ Below w.heap.size w w' := by
  have hb0 := ext_alloc w (.cells (shC s p).toArray 35)
  have hS := Blk.new w 35 (shC s p)
  have C1 := Lib.hid (asked_any s p A n c l (w.alloc (.cells (shC s p).toArray 35)) (h.ext hb0) hn hm (hd.ext hb0))
  have C2 := Lib.hid (fun W (hz : askE s l = 0) (hW : Below w.heap.size w W) => fault_of s p A n c l w W h hn hm hd hz hW)
  have hf3 := faultL_le s (l.map Int.toNat) 0 (-1) (-1) 0
  change (s.fault (l.map Int.toNat)).2 ≤ 3 at hf3
  unfold rightE
  generalize s.fault (l.map Int.toNat) = ft at *
  obtain ⟨f1, f2⟩ := ft
  simp only at C2 hf3 ⊢
  generalize askE s l = ek at *
  clear h hd hn
  unfold shV at *
  unfold shC at *
  go_enter Try.func52, Try.ntmps52
  go_upto_region 1 with fail
  generalize w.alloc (.cells #[.slice p.A s.acts.length p.cA, .slice p.R s.rest.length p.cR, .slice p.I s.ins.length p.cI, .slice p.O s.outs.length p.cO, .int .i64 s.cover, .int .i64 s.dull, .slice p.B s.before.length p.cB] 35) = W0 at *
  have x0 : W0.cell? ⟨w.heap.size, 0, none⟩ = _ := hS.cell (i := 0) rfl
  have x1 : W0.cell? ⟨w.heap.size, 1, none⟩ = _ := hS.cell (i := 1) rfl
  have x2 : W0.cell? ⟨w.heap.size, 2, none⟩ = _ := hS.cell (i := 2) rfl
  have x3 : W0.cell? ⟨w.heap.size, 3, none⟩ = _ := hS.cell (i := 3) rfl
  have x4 : W0.cell? ⟨w.heap.size, 4, none⟩ = _ := hS.cell (i := 4) rfl
  have x5 : W0.cell? ⟨w.heap.size, 5, none⟩ = _ := hS.cell (i := 5) rfl
  have x6 : W0.cell? ⟨w.heap.size, 6, none⟩ = _ := hS.cell (i := 6) rfl
  go_wp2_with fail
  refine C1.out.mono ?_; rintro e W1 ⟨rfl, hb1⟩
  have hw1 := hb0.trans (hb1.mono hb0.size)
  have hS1 := hS.ext hb1
  clear x0 x1 x2 x3 x4 x5 x6
  have x0 : W1.cell? ⟨w.heap.size, 0, none⟩ = _ := hS1.cell (i := 0) rfl
  have x1 : W1.cell? ⟨w.heap.size, 1, none⟩ = _ := hS1.cell (i := 1) rfl
  have x2 : W1.cell? ⟨w.heap.size, 2, none⟩ = _ := hS1.cell (i := 2) rfl
  have x3 : W1.cell? ⟨w.heap.size, 3, none⟩ = _ := hS1.cell (i := 3) rfl
  have x4 : W1.cell? ⟨w.heap.size, 4, none⟩ = _ := hS1.cell (i := 4) rfl
  have x5 : W1.cell? ⟨w.heap.size, 5, none⟩ = _ := hS1.cell (i := 5) rfl
  have x6 : W1.cell? ⟨w.heap.size, 6, none⟩ = _ := hS1.cell (i := 6) rfl
  by_cases hz : ek = 0
  · subst hz
    have CC := Lib.hid (C2.out W1 rfl hw1)
    clear C2 C1
    go_wp2_with fail
    refine CC.out.mono ?_; rintro e W2 ⟨rfl, hb2⟩
    by_cases h0 : f2 = 0
    · subst h0
      go_wp2
      go_ret
      exact ⟨rfl, hw1.trans (hb2.mono hw1.size)⟩
    · have h0' : ((f2 : Int) != 0) = true := by simp; omega
      have H0 := Lib.hid h0
      go_wp2
      go_ret
      exact ⟨by simp, hw1.trans (hb2.mono hw1.size)⟩
  · have hz' : (ek != 0) = true := by simpa using hz
    have Hz := Lib.hid hz
    clear hz C2
    go_wp2
    go_ret
    exact ⟨by simp, hw1⟩
def FltR (s : Sh) (l : List Int) (e : Ending) : Prop := ∃ (x : Int) (y : Nat) (z : Int), e = .returned (.tuple #[.int .i64 x, .int .u8 y, .int .i64 z]) ∧
  (askE s l ≠ 0 → x = 0 ∧ y = 0 ∧ z = askE s l) ∧ (askE s l = 0 → (s.fault (l.map Int.toNat)).2 = 0 → x = 0 ∧ y = 0 ∧ z = 7) ∧ (askE s l = 0 → (s.fault (l.map Int.toNat)).2 ≠ 0 → x = (s.fault (l.map Int.toNat)).1 ∧ y = (s.fault (l.map Int.toNat)).2 ∧ z = 0)
theorem Fault_any (s : Sh) (p : ShP) (A : Option Addr) (n c : Nat) (l : List Int) (w : World) (h : ShM w s p) (hn : l.length = n) (hm : n ≤ 12) (hd : Cells w A 1 encI l) :
    Calls Try.prog 32 #[shV s p, .slice A n c] w fun e w' => FltR s l e ∧ Below w.heap.size w w' := by
  have hb0 := ext_alloc w (.cells (shC s p).toArray 35)
  have hS := Blk.new w 35 (shC s p)
  have C1 := Lib.hid (asked_any s p A n c l (w.alloc (.cells (shC s p).toArray 35)) (h.ext hb0) hn hm (hd.ext hb0))
  have C2 := Lib.hid (fun W (hz : askE s l = 0) (hW : Below w.heap.size w W) => fault_of s p A n c l w W h hn hm hd hz hW)
  have hf3 := faultL_le s (l.map Int.toNat) 0 (-1) (-1) 0
  change (s.fault (l.map Int.toNat)).2 ≤ 3 at hf3
  have HF := Lib.hid (show ∀ f1 f2, s.fault (l.map Int.toNat) = (f1, f2) → ∀ ek, askE s l = ek → ∀ (x : Int) (y : Nat) (z : Int), (ek ≠ 0 → x = 0 ∧ y = 0 ∧ z = ek) → (ek = 0 → f2 = 0 → x = 0 ∧ y = 0 ∧ z = 7) → (ek = 0 → f2 ≠ 0 → x = f1 ∧ y = f2 ∧ z = 0) → FltR s l (.returned (.tuple #[.int .i64 x, .int .u8 y, .int .i64 z])) from
    fun f1 f2 e1 ek e2 x y z h1 h2 h3 => ⟨x, y, z, rfl, by rw [e2]; exact h1, by rw [e1, e2]; exact h2, by rw [e1, e2]; exact h3⟩)
  generalize hft : s.fault (l.map Int.toNat) = ft at *
  obtain ⟨f1, f2⟩ := ft
  simp only at C2 hf3
  generalize hek : askE s l = ek at *
  have HG := Lib.hid (HF.out f1 f2 rfl ek rfl)
  clear h hd hn HF hft hek
  unfold shV at *
  unfold shC at *
  go_enter Try.func32, Try.ntmps32
  go_upto_region 1 with fail
  generalize w.alloc (.cells #[.slice p.A s.acts.length p.cA, .slice p.R s.rest.length p.cR, .slice p.I s.ins.length p.cI, .slice p.O s.outs.length p.cO, .int .i64 s.cover, .int .i64 s.dull, .slice p.B s.before.length p.cB] 35) = W0 at *
  have x0 : W0.cell? ⟨w.heap.size, 0, none⟩ = _ := hS.cell (i := 0) rfl
  have x1 : W0.cell? ⟨w.heap.size, 1, none⟩ = _ := hS.cell (i := 1) rfl
  have x2 : W0.cell? ⟨w.heap.size, 2, none⟩ = _ := hS.cell (i := 2) rfl
  have x3 : W0.cell? ⟨w.heap.size, 3, none⟩ = _ := hS.cell (i := 3) rfl
  have x4 : W0.cell? ⟨w.heap.size, 4, none⟩ = _ := hS.cell (i := 4) rfl
  have x5 : W0.cell? ⟨w.heap.size, 5, none⟩ = _ := hS.cell (i := 5) rfl
  have x6 : W0.cell? ⟨w.heap.size, 6, none⟩ = _ := hS.cell (i := 6) rfl
  go_wp2_with fail
  refine C1.out.mono ?_; rintro e W1 ⟨rfl, hb1⟩
  have hw1 := hb0.trans (hb1.mono hb0.size)
  have hS1 := hS.ext hb1
  clear x0 x1 x2 x3 x4 x5 x6
  have x0 : W1.cell? ⟨w.heap.size, 0, none⟩ = _ := hS1.cell (i := 0) rfl
  have x1 : W1.cell? ⟨w.heap.size, 1, none⟩ = _ := hS1.cell (i := 1) rfl
  have x2 : W1.cell? ⟨w.heap.size, 2, none⟩ = _ := hS1.cell (i := 2) rfl
  have x3 : W1.cell? ⟨w.heap.size, 3, none⟩ = _ := hS1.cell (i := 3) rfl
  have x4 : W1.cell? ⟨w.heap.size, 4, none⟩ = _ := hS1.cell (i := 4) rfl
  have x5 : W1.cell? ⟨w.heap.size, 5, none⟩ = _ := hS1.cell (i := 5) rfl
  have x6 : W1.cell? ⟨w.heap.size, 6, none⟩ = _ := hS1.cell (i := 6) rfl
  by_cases hz : ek = 0
  · subst hz
    have CC := Lib.hid (C2.out W1 rfl hw1)
    clear C2 C1
    go_wp2_with fail
    refine CC.out.mono ?_; rintro e W2 ⟨rfl, hb2⟩
    by_cases h0 : f2 = 0
    · subst h0
      go_wp2
      refine bodyPost_ret (v := .tuple #[.int .i64 0, .int .u8 0, .int .i64 7]) (by simp [results, Try.results32, go_sem]) rfl ?_
      exact ⟨HG.out 0 0 7 (fun h => absurd rfl h) (fun _ _ => ⟨rfl, rfl, rfl⟩) (fun _ h => absurd rfl h), hw1.trans (hb2.mono hw1.size)⟩
    · have h0' : ((f2 : Int) == 0) = false := by simp; omega
      have H0 := Lib.hid h0
      clear h0
      go_wp2
      refine bodyPost_ret (v := .tuple #[.int .i64 f1, .int .u8 f2, .int .i64 0]) (by simp [results, Try.results32, go_sem]) rfl ?_
      exact ⟨HG.out f1 f2 0 (fun h => absurd rfl h) (fun _ h => absurd h H0.out) (fun _ _ => ⟨rfl, rfl, rfl⟩), hw1.trans (hb2.mono hw1.size)⟩
  · have hz' : (ek != 0) = true := by simpa using hz
    have Hz := Lib.hid hz
    clear hz C2
    go_wp2
    refine bodyPost_ret (v := .tuple #[.int .i64 0, .int .u8 0, .int .i64 ek]) (by simp [results, Try.results32, go_sem]) rfl ?_
    exact ⟨HG.out 0 0 ek (fun _ => ⟨rfl, rfl, rfl⟩) (fun h => absurd h Hz.out) (fun h => absurd h Hz.out), hw1⟩
set_option maxRecDepth 100000 in
set_option maxHeartbeats 2000000 in
theorem cost_any (s : Sh) (p : ShP) (A : Option Addr) (m c : Nat) (k : List Nat) (w : World) (h : ShM w s p) (hok : s.Ok) (hkn : ∀ i ∈ k, i < s.acts.length) (hm : k.length = m) (hm12 : m ≤ 1000) (hd : Cells w A 1 encI (toI k)) :
    Calls Try.prog 57 #[shV s p, .slice A m c] w fun e w' => e = .returned (.int .i64 (s.cost k)) ∧ Below w.heap.size w w' := by
  have hb0 := ext_alloc w (.cells (shC s p).toArray 35)
  have hS := Blk.new w 35 (shC s p)
  have CH := Lib.hid (fun W (hW : Below w.heap.size w W) (i j : Nat) (hi : i < s.acts.length) (hj : j < s.acts.length) => change_any s p i j W (h.ext hW) hok hi hj)
  have HC := Lib.hid (fun i j => hok.chC i j)
  have Hk := Lib.hid hkn
  have Hm := Lib.hid hm
  generalize hres : s.cost k = res
  have Hres := Lib.hid hres
  clear hkn hm hres h hok
  unfold shV at *
  unfold shC at *
  go_enter Try.func57, Try.ntmps57
  go_upto_region 1 with fail
  generalize w.alloc (.cells #[.slice p.A s.acts.length p.cA, .slice p.R s.rest.length p.cR, .slice p.I s.ins.length p.cI, .slice p.O s.outs.length p.cO, .int .i64 s.cover, .int .i64 s.dull, .slice p.B s.before.length p.cB] 35) = W0 at *
  go_wp2
  go_loopw [4, 5] (fun a x wr => ∃ (acc : Int) (j : Nat), a = .int .i64 acc ∧ x = .int .i64 j ∧ 1 ≤ j ∧ (j ≤ m ∨ j = 1) ∧ 0 ≤ acc ∧ acc ≤ 1960 * j ∧ Hid (j ≤ m → acc + s.pc (k.getD (j - 1) 0) (k.drop j) = res) ∧ Hid (m = 0 → acc = 0) ∧ Below w.heap.size w wr ∧ Blk wr w.heap.size 35 [.slice p.A s.acts.length p.cA, .slice p.R s.rest.length p.cR, .slice p.I s.ins.length p.cI, .slice p.O s.outs.length p.cO, .int .i64 s.cover, .int .i64 s.dull, .slice p.B s.before.length p.cB])
    (fun _ x _ => m + 1 - (intOf x).toNat)
  case atStart =>
    refine ⟨0, 1, rfl, rfl, Nat.le_refl _, .inr rfl, by omega, by omega, Lib.hid (fun h1 => ?_), Lib.hid (fun _ => rfl), hb0, hS⟩
    rw [← Hres.out]
    cases k with
    | nil => have := Hm.out; simp at this; omega
    | cons a r => simp [Sh.cost]
  case round =>
    obtain ⟨acc, j, rfl, rfl, hj1, hj2, ha0, ha1, Hacc, Hz, hbr, hSr⟩ := hrel
    clear hb0 hS
    by_cases hlt : j < m
    · have hjk : j < k.length := by rw [Hm.out]; exact hlt
      have hjk0 : j - 1 < k.length := by omega
      have hacc := Hacc.out (by omega)
      rw [List.drop_eq_getElem_cons hjk, Sh.pc] at hacc
      have hg0 : k.getD (j - 1) 0 = k[j - 1] := by simp [hjk0]
      have hg1 : k.getD (j + 1 - 1) 0 = k[j] := by simp [hjk]
      rw [hg0] at hacc
      have hc1 := HC.out k[j - 1] k[j]
      have l0 := Hk.out _ (List.getElem_mem hjk0)
      have l1 := Hk.out _ (List.getElem_mem hjk)
      have Hn := Lib.hid (show j + 1 ≤ m → acc + s.chC k[j - 1] k[j] + s.pc (k.getD (j + 1 - 1) 0) (k.drop (j + 1)) = res from fun _ => by rw [hg1]; omega)
      have hlt' : (j : Int) < m := by omega
      have hj0 : (0 : Int) ≤ j := by omega
      have hjm : (j : Int) - 1 < m := by omega
      have hj9 : (0 : Int) ≤ (j : Int) - 1 := by omega
      clear hacc hg0 hg1 Hacc Hz
      go_upto_region 4 with fail
      refine Dr.wp_region_plan 16 [] (.q [0, 1, 2, 3, 4, 5, 6, 7, 8, 9] (.e1 10 (.q [11, 12, 13, 14, 15] .done))) (by kernel_rfl) (by kernel_rfl) ?_
      have hb1 := hbr.drew
      have hS1 := hSr.ext (ext_drew wr)
      clear hbr hSr
      generalize World.drew _ = W at *
      obtain ⟨b, o, hA, -, c0⟩ := (hd.ext hb1).at1 (k := j - 1) (by rw [toI_len]; exact hjk0) rfl
      obtain ⟨b', o', hA', -, c1⟩ := (hd.ext hb1).at1 (k := j) (by rw [toI_len]; exact hjk) rfl
      rw [hA] at hA'
      obtain ⟨rfl, rfl⟩ : b = b' ∧ o = o' := by simpa using hA'
      subst hA
      clear hA'
      rw [toI_get hjk0] at c0
      rw [toI_get hjk] at c1
      generalize k[j - 1] = a0 at *
      generalize k[j] = a1 at *
      obtain ⟨i, rfl⟩ : ∃ i, j = i + 1 := ⟨j - 1, by omega⟩
      simp only [Nat.add_sub_cancel] at c0
      have q0 := Dr.cell0 (hS1.cell (i := 0) rfl)
      have q1 := Dr.cell0 (hS1.cell (i := 1) rfl)
      have q2 := Dr.cell0 (hS1.cell (i := 2) rfl)
      have q3 := Dr.cell0 (hS1.cell (i := 3) rfl)
      have q4 := Dr.cell0 (hS1.cell (i := 4) rfl)
      have q5 := Dr.cell0 (hS1.cell (i := 5) rfl)
      have q6 := Dr.cell0 (hS1.cell (i := 6) rfl)
      have r0 := Dr.cell0 c0
      have r1 := Dr.cell0 c1
      refine Dr.plan_q (l := [_, _, _, _, _, _, _, _, _, _]) rfl (fun K hK => ?_)
      iterate 10 (go_big_quiet_step (fail))
      refine wpQuiet_nil (hK _ ?_); clear hK K
      clear q0 q1 q2 q3 q4 q5 q6
      clear r0 r1 c0 c1
      have CC := Lib.hid (CH.out W hb1 a0 a1 l0 l1)
      refine Dr.plan_e rfl (by rfl) (fun K hK => ?_)
      go_wp2_with fail
      refine CC.out.mono ?_; rintro e W1 ⟨rfl, hx1⟩
      refine hK _ _ (.of hx1) ?_; clear hK K CC
      have hb2 := hb1.trans (hx1.mono hb1.size)
      have hS2 := hS1.ext hx1
      clear hb1 hS1 hx1
      refine Dr.plan_q (l := [_, _, _, _, _]) rfl (fun K hK => ?_)
      iterate 5 (go_big_quiet_step (fail))
      refine wpQuiet_nil (hK _ ?_); clear hK K
      refine Dr.plan_end rfl ?_
      go_wp2
      go_roundw
      case rel => exact ⟨acc + s.chC a0 a1, i + 1 + 1, rfl, by go_num, by omega, .inl (by omega), by omega, by omega, Hn, Lib.hid (fun h => by omega), hb2, hS2⟩
      case measure => simp [intOf]; omega
    · have hfin : acc = res := by
        rcases Nat.eq_zero_or_pos m with h0 | h0
        · rw [Hz.out h0, ← Hres.out]
          have : k = [] := List.length_eq_zero_iff.1 (Hm.out.trans h0)
          rw [this]; rfl
        · have hjm : j = m := by omega
          have := Hacc.out (by omega)
          rw [List.drop_eq_nil_of_le (by rw [Hm.out]; omega), Sh.pc] at this
          omega
      subst hfin
      have hlt' : ¬ (j : Int) < m := by omega
      go_wp2
      go_ret
      exact ⟨rfl, hbr⟩
end Go.Proofs.Ytcnidhcdkbfpcaa
