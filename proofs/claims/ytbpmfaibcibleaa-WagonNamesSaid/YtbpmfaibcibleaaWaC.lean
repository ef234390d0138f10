/- Walks: the mass and the height of things; what a lorry carries. -/
import Derived.Test.YtbpmfaibcibleaaWaB
namespace Go.Wg
open Go.Pl
theorem isum_take_bd {l : List Int} {m : Int} (h : ∀ x ∈ l, 0 ≤ x ∧ x ≤ m) (hm : 0 ≤ m) (k : Nat) : 0 ≤ isum (l.take k) ∧ isum (l.take k) ≤ l.length * m := by
  constructor
  · exact isum_nonneg fun x hx => (h x (List.mem_of_mem_take hx)).1
  · have h1 := isum_le (l := l.take k) (m := m) fun x hx => (h x (List.mem_of_mem_take hx)).2
    have h2 : ((l.take k).length : Int) * m ≤ l.length * m := Int.mul_le_mul_of_nonneg_right (by rw [List.length_take]; omega) hm
    omega
theorem isum_take_succ {l : List Int} {k : Nat} (h : k < l.length) : isum (l.take (k + 1)) = isum (l.take k) + l[k] := by
  rw [List.take_succ_eq_append_getElem h, isum_append]; simp [isum]
theorem highL_snoc (ts : List Th) (l : List Int) (x : Int) : highL ts (l ++ [x]) = max (highL ts l) (thAt ts x).high := by
  unfold highL; rw [List.foldl_append]; rfl
theorem highL_bd' {ts : List Th} (hok : ∀ t ∈ ts, t.Ok) : ∀ (l : List Int) (m : Int), InR ts.length l → 0 ≤ m ∧ m ≤ 500 → 0 ≤ l.foldl (fun m n => max m (thAt ts n).high) m ∧ l.foldl (fun m n => max m (thAt ts n).high) m ≤ 500
  | [], _, _, h => h
  | x :: l, m, h, hm => by
    have h2 := h x (by simp)
    have h3 := (hok _ (thAt_mem h2.1 h2.2)).high
    exact highL_bd' hok l _ (fun y hy => h y (by simp [hy])) (by show 0 ≤ max m (thAt ts x).high ∧ max m (thAt ts x).high ≤ 500; omega)
theorem highL_bd {ts : List Th} (hok : ∀ t ∈ ts, t.Ok) (l : List Int) (h : InR ts.length l) : 0 ≤ highL ts l ∧ highL ts l ≤ 500 := highL_bd' hok l 0 h (by omega)
theorem massL_bd {ts : List Th} (hok : ∀ t ∈ ts, t.Ok) {l : List Int} (h : InR ts.length l) : 0 ≤ massL ts l ∧ massL ts l ≤ l.length * 100000 :=
  isum_map_bd _ _ _ fun x hx => (hok _ (thAt_mem (h x hx).1 (h x hx).2)).mass
end Go.Wg
namespace Go.Proofs.Ytbpmfaibcibleaa
open Go.RowKit Go.Bs Go.Wg Go.Pl Go.Sort
theorem sum_any (A : Option Addr) (n c : Nat) (l : List Int) (w : World) (hn : l.length = n) (hm : n ≤ 1000000) (hb : ∀ x ∈ l, 0 ≤ x ∧ x ≤ 100000) (hc : Cells w A 1 encI l) :
    Calls Try.prog 97 #[.slice A n c] w fun e w' => e = .returned (.int .i64 (isum l)) ∧ w = w' := by
  have Hn := Lib.hid hn
  have Hbd := Lib.hid (isum_take_bd hb (by omega))
  have Hb := Lib.hid hb
  generalize hres : isum l = res
  have Hres := Lib.hid hres
  clear hres hn hb
  go_enter Try.func97, Try.ntmps97
  go_wp2
  go_loop [2, 4, 7] (fun s _ t => ∃ k : Nat, k ≤ n ∧ t = .int .i64 k ∧ s = .int .i64 (isum (l.take k))) (fun _ _ t => n - (intOf t).toNat)
  case atStart => exact ⟨0, by omega, rfl, rfl⟩
  case round =>
    obtain ⟨k, hk, rfl, rfl⟩ := hrel
    by_cases hlt : k < n
    · have hk1 : k < l.length := by rw [Hn.out]; exact hlt
      obtain ⟨b, off, rfl, hbl, c0⟩ := hc.at1 hk1 rfl
      have hs := Hbd.out k
      rw [Hn.out] at hs
      have hx := Hb.out _ (List.getElem_mem hk1)
      have HS := Lib.hid (isum_take_succ hk1)
      generalize l[k] = x at *
      generalize isum (l.take k) = s at *
      go_wp2
      go_round
      case rel => exact ⟨k + 1, by omega, by go_num, by rw [HS.out]⟩
      case measure => simp [intOf]; omega
    · go_wp2
      go_ret
      exact ⟨ret_congr (int_congr (by rw [← Hres.out, List.take_of_length_le (by rw [Hn.out]; omega)])), rfl⟩
/-! ### printed by mk_wac.py -/
set_option maxHeartbeats 1000000 in
theorem mass_any (v : JbV) (ts : List Th) (A : Option Addr) (n c : Nat) (l : List Int) (w : World) (hj : JbM w v ts) (hok : ∀ t ∈ ts, t.Ok) (hn : l.length = n) (hm : n ≤ 1000) (hin : InR ts.length l) (hc : Cells w A 1 encI l) :
    Calls Try.prog 71 #[JbV.val v ts, .slice A n c] w fun e w' => e = .returned (.int .i64 (massL ts l)) ∧ Below w.heap.size w w' := by
  have hb0 := ext_alloc w (.cells (JbV.enc v ts).toArray 108)
  have hP := Blk.new w 108 (JbV.enc v ts)
  have hj0 := hj.ext hb0
  have hc0 := hc.ext hb0
  have Hn := Lib.hid hn
  have Hin := Lib.hid hin
  have Hok := Lib.hid hok
  generalize hres : massL ts l = res
  have Hres := Lib.hid hres
  clear hres hn hj hc hin hok
  unfold JbV.val
  unfold JbV.enc at *
  go_enter Try.func71, Try.ntmps71
  go_upto_region 1 with fail
  change Blk (w.alloc (.cells #[.slice v.x.A v.x.l.lanes.length v.x.c, .int .i64 v.x.l.height, .int .i64 v.x.l.carries, .int .i64 v.x.l.empty, .int .i64 v.x.l.rear, .int .i64 v.x.l.axle, .int .i64 v.x.l.deck, .slice v.T ts.length v.cT] 108)) _ _ _ at hP
  change Below w.heap.size w (w.alloc (.cells #[.slice v.x.A v.x.l.lanes.length v.x.c, .int .i64 v.x.l.height, .int .i64 v.x.l.carries, .int .i64 v.x.l.empty, .int .i64 v.x.l.rear, .int .i64 v.x.l.axle, .int .i64 v.x.l.deck, .slice v.T ts.length v.cT] 108)) at hb0
  change JbM (w.alloc (.cells #[.slice v.x.A v.x.l.lanes.length v.x.c, .int .i64 v.x.l.height, .int .i64 v.x.l.carries, .int .i64 v.x.l.empty, .int .i64 v.x.l.rear, .int .i64 v.x.l.axle, .int .i64 v.x.l.deck, .slice v.T ts.length v.cT] 108)) _ _ at hj0
  change Cells (w.alloc (.cells #[.slice v.x.A v.x.l.lanes.length v.x.c, .int .i64 v.x.l.height, .int .i64 v.x.l.carries, .int .i64 v.x.l.empty, .int .i64 v.x.l.rear, .int .i64 v.x.l.axle, .int .i64 v.x.l.deck, .slice v.T ts.length v.cT] 108)) _ _ _ _ at hc0
  generalize w.alloc (.cells #[.slice v.x.A v.x.l.lanes.length v.x.c, .int .i64 v.x.l.height, .int .i64 v.x.l.carries, .int .i64 v.x.l.empty, .int .i64 v.x.l.rear, .int .i64 v.x.l.axle, .int .i64 v.x.l.deck, .slice v.T ts.length v.cT] 108) = W0 at *
  go_wp2
  go_loopw [5, 7, 10] (fun s _ t wr => ∃ k : Nat, t = .int .i64 k ∧ k ≤ n ∧ OwnL wr W0.heap.size 3 1 encI s ((l.take k).map fun n => (thAt ts n).mass) ∧ Below W0.heap.size W0 wr) (fun _ _ t _ => n - (intOf t).toNat)
  case atStart => exact ⟨0, rfl, by omega, OwnL.nil, Below.refl _ _⟩
  case round =>
    obtain ⟨k, rfl, hk, hown, hb⟩ := hrel
    by_cases hlt : k < n
    · have hlt' : (k : Int) < (n : Int) := by omega
      have hk1 : k < l.length := by rw [Hn.out]; exact hlt
      obtain ⟨b, off, rfl, -, c0⟩ := (hc0.ext hb).at1 hk1 rfl
      have hx := Hin.out _ (List.getElem_mem hk1)
      have y7 := (hP.ext hb).cell (i := 7) rfl
      obtain ⟨j, hj⟩ : ∃ j : Nat, l[k] = j := ⟨l[k].toNat, by omega⟩
      rw [hj] at c0 hx
      have hjt : j < ts.length := by omega
      obtain ⟨b2, off2, hT, -, -, -, d2, -⟩ := (hj0.things.ext hb).at4 hjt rfl
      rw [hT] at y7
      have hjt' : (j : Int) < (ts.length : Int) := by omega
      have hst := hj0.st
      have hts := Lib.hid (show (l.take (k + 1)).map (fun n => (thAt ts n).mass) = (l.take k).map (fun n => (thAt ts n).mass) ++ [ts[j].mass] by
        rw [List.take_succ_eq_append_getElem hk1, List.map_append, hj]; simp [thAt_eq hjt])
      have hlen : ((l.take k).map fun n => (thAt ts n).mass).length ≤ 1000000 := by rw [List.length_map, List.length_take]; omega
      have Hlen := Lib.hid hlen
      have hnew := Blk.new wr 3 [.int .i64 ts[j].mass]
      clear hlen hT hj
      generalize ts[j].mass = x at *
      generalize ((l.take k).map fun n => (thAt ts n).mass) = L at *
      go_wp2_with (at_builtin; refine app1 encI 35 3 1 8 et35 (by decide) (by decide) encI_len encI_one rfl _ _ rfl W0.heap.size _ L rfl (hown.alloc _) wr.heap.size rfl x (encI_cell (hnew.cell rfl)) Hlen.out (by have := hb.size; simp; omega) ?_; intro g' cap' w' hown' hb3 _ _)
      rw [← hts.out] at hown'
      have hb4 := (hb.alloc hb.size _).trans hb3
      clear hb3
      go_wp2
      go_roundw
      case rel => exact ⟨k + 1, by go_num, by omega, hown', hb4⟩
      case measure => simp [intOf]; omega
    · have hk' : l.take k = l := List.take_of_length_le (by rw [Hn.out]; omega)
      rw [hk'] at hown
      clear hk'
      have hbd : ∀ x ∈ l.map (fun n => (thAt ts n).mass), 0 ≤ x ∧ x ≤ 100000 := fun x hx => by
        obtain ⟨y, hy, rfl⟩ := List.mem_map.1 hx
        exact (Hok.out _ (thAt_mem (Hin.out y hy).1 (Hin.out y hy).2)).mass
      obtain ⟨A2, c2, rfl, -, -, h3⟩ := hown.cells encI_len
      have C := Lib.hid (sum_any A2 _ c2 (l.map fun n => (thAt ts n).mass) wr rfl (by rw [List.length_map, Hn.out]; omega) hbd h3)
      clear hbd hown h3
      rw [show isum (l.map fun n => (thAt ts n).mass) = massL ts l from rfl, Hres.out] at C
      generalize (l.map fun n => (thAt ts n).mass).length = m at *
      go_wp2_with fail
      refine C.out.mono ?_; rintro e w1 ⟨rfl, rfl⟩
      go_wp2
      go_ret
      exact ⟨rfl, ext_trans hb0 hb⟩
set_option maxHeartbeats 1000000 in
theorem high_any (v : JbV) (ts : List Th) (A : Option Addr) (n c : Nat) (l : List Int) (w : World) (hj : JbM w v ts) (hok : ∀ t ∈ ts, t.Ok) (hn : l.length = n) (hm : n ≤ 1000) (hin : InR ts.length l) (hc : Cells w A 1 encI l) :
    Calls Try.prog 84 #[JbV.val v ts, .slice A n c] w fun e w' => e = .returned (.int .i64 (highL ts l)) ∧ Below w.heap.size w w' := by
  have hb0 := ext_alloc w (.cells (JbV.enc v ts).toArray 108)
  have hP := Blk.new w 108 (JbV.enc v ts)
  have hj0 := hj.ext hb0
  have hc0 := hc.ext hb0
  have Hn := Lib.hid hn
  have Hin := Lib.hid hin
  have Hok := Lib.hid hok
  generalize hres : highL ts l = res
  have Hres := Lib.hid hres
  clear hres hn hj hc hin hok
  unfold JbV.val
  unfold JbV.enc at *
  go_enter Try.func84, Try.ntmps84
  go_upto_region 1 with fail
  change Blk (w.alloc (.cells #[.slice v.x.A v.x.l.lanes.length v.x.c, .int .i64 v.x.l.height, .int .i64 v.x.l.carries, .int .i64 v.x.l.empty, .int .i64 v.x.l.rear, .int .i64 v.x.l.axle, .int .i64 v.x.l.deck, .slice v.T ts.length v.cT] 108)) _ _ _ at hP
  change Below w.heap.size w (w.alloc (.cells #[.slice v.x.A v.x.l.lanes.length v.x.c, .int .i64 v.x.l.height, .int .i64 v.x.l.carries, .int .i64 v.x.l.empty, .int .i64 v.x.l.rear, .int .i64 v.x.l.axle, .int .i64 v.x.l.deck, .slice v.T ts.length v.cT] 108)) at hb0
  change JbM (w.alloc (.cells #[.slice v.x.A v.x.l.lanes.length v.x.c, .int .i64 v.x.l.height, .int .i64 v.x.l.carries, .int .i64 v.x.l.empty, .int .i64 v.x.l.rear, .int .i64 v.x.l.axle, .int .i64 v.x.l.deck, .slice v.T ts.length v.cT] 108)) _ _ at hj0
  change Cells (w.alloc (.cells #[.slice v.x.A v.x.l.lanes.length v.x.c, .int .i64 v.x.l.height, .int .i64 v.x.l.carries, .int .i64 v.x.l.empty, .int .i64 v.x.l.rear, .int .i64 v.x.l.axle, .int .i64 v.x.l.deck, .slice v.T ts.length v.cT] 108)) _ _ _ _ at hc0
  generalize w.alloc (.cells #[.slice v.x.A v.x.l.lanes.length v.x.c, .int .i64 v.x.l.height, .int .i64 v.x.l.carries, .int .i64 v.x.l.empty, .int .i64 v.x.l.rear, .int .i64 v.x.l.axle, .int .i64 v.x.l.deck, .slice v.T ts.length v.cT] 108) = W0 at *
  go_wp2
  go_loop [4, 6, 9] (fun s _ t => ∃ k : Nat, t = .int .i64 k ∧ k ≤ n ∧ s = .int .i64 (highL ts (l.take k))) (fun _ _ t => n - (intOf t).toNat)
  case atStart => exact ⟨0, rfl, by omega, rfl⟩
  case round =>
    obtain ⟨k, rfl, hk, rfl⟩ := hrel
    by_cases hlt : k < n
    · have hlt' : (k : Int) < (n : Int) := by omega
      have hk1 : k < l.length := by rw [Hn.out]; exact hlt
      obtain ⟨b, off, rfl, -, c0⟩ := hc0.at1 hk1 rfl
      have hx := Hin.out _ (List.getElem_mem hk1)
      have y7 := hP.cell (i := 7) rfl
      obtain ⟨j, hj⟩ : ∃ j : Nat, l[k] = j := ⟨l[k].toNat, by omega⟩
      rw [hj] at c0 hx
      have hjt : j < ts.length := by omega
      obtain ⟨b2, off2, hT, -, -, d1, -, -⟩ := hj0.things.at4 hjt rfl
      rw [hT] at y7
      have hjt' : (j : Int) < (ts.length : Int) := by omega
      have hst := hj0.st
      have hts := highL_snoc ts (l.take k) l[k]
      rw [← List.take_succ_eq_append_getElem hk1, hj, thAt_eq hjt] at hts
      have Hts := Lib.hid hts
      clear hT hj hts
      generalize ts[j].high = x at *
      generalize highL ts (l.take k) = L at *
      go_wp2
      go_round
      case rel => exact ⟨k + 1, by go_num, by omega, by rw [Hts.out]; exact int_congr (by split <;> omega)⟩
      case measure => simp [intOf]; omega
    · have hk' : l.take k = l := List.take_of_length_le (by rw [Hn.out]; omega)
      rw [hk', Hres.out]
      go_wp2
      go_ret
      exact ⟨rfl, hb0⟩
set_option maxHeartbeats 1000000 in
theorem carries_any (v : JbV) (ts : List Th) (A : Option Addr) (n c : Nat) (l : List Int) (w : World) (hj : JbM w v ts) (hok : ∀ t ∈ ts, t.Ok) (hn : l.length = n) (hm : n ≤ 1000) (hin : InR ts.length l) (hc : Cells w A 1 encI l) :
    Calls Try.prog 96 #[JbV.val v ts, .slice A n c] w fun e w' => e = .returned (.bool (carB v.x.l ts l)) ∧ Below w.heap.size w w' := by
  have hb0 := ext_alloc w (.cells (JbV.enc v ts).toArray 108)
  have hP := Blk.new w 108 (JbV.enc v ts)
  have hj0 := hj.ext hb0
  have hc0 := hc.ext hb0
  have C1 := Lib.hid (fun V (hV : Below w.heap.size w V) => mass_any v ts A n c l V (hj.ext hV) hok hn hm hin (hc.ext hV))
  have C2 := Lib.hid (fun V (hV : Below w.heap.size w V) => high_any v ts A n c l V (hj.ext hV) hok hn hm hin (hc.ext hV))
  generalize hres : carB v.x.l ts l = res
  unfold carB at hres
  have Hres := Lib.hid hres
  clear hres hn hc hin hok hj hj0 hc0
  generalize massL ts l = m1 at *
  generalize highL ts l = m2 at *
  unfold JbV.val
  unfold JbV.enc at *
  go_enter Try.func96, Try.ntmps96
  go_upto_region 1 with fail
  change Blk (w.alloc (.cells #[.slice v.x.A v.x.l.lanes.length v.x.c, .int .i64 v.x.l.height, .int .i64 v.x.l.carries, .int .i64 v.x.l.empty, .int .i64 v.x.l.rear, .int .i64 v.x.l.axle, .int .i64 v.x.l.deck, .slice v.T ts.length v.cT] 108)) _ _ _ at hP
  change Below w.heap.size w (w.alloc (.cells #[.slice v.x.A v.x.l.lanes.length v.x.c, .int .i64 v.x.l.height, .int .i64 v.x.l.carries, .int .i64 v.x.l.empty, .int .i64 v.x.l.rear, .int .i64 v.x.l.axle, .int .i64 v.x.l.deck, .slice v.T ts.length v.cT] 108)) at hb0
  generalize w.alloc (.cells #[.slice v.x.A v.x.l.lanes.length v.x.c, .int .i64 v.x.l.height, .int .i64 v.x.l.carries, .int .i64 v.x.l.empty, .int .i64 v.x.l.rear, .int .i64 v.x.l.axle, .int .i64 v.x.l.deck, .slice v.T ts.length v.cT] 108) = W0 at *
  have hb1 := hb0.drew
  have hP1 := hP.drew
  clear hb0 hP
  by_cases h : m1 ≤ v.x.l.carries
  · refine Dr.wp_region_plan 17 [] (.q [0, 1, 3, 4, 5] (.e1 2 (.q [6, 7, 8, 9, 11, 12, 13] (.e1 10 (.q [14, 15, 16] .done))))) (by kernel_rfl) (by kernel_rfl) ?_
    generalize World.drew _ = W at *
    have q0 := Dr.cell0 (hP1.cell (i := 0) rfl)
    have q1 := Dr.cell0 (hP1.cell (i := 1) rfl)
    have q2 := Dr.cell0 (hP1.cell (i := 2) rfl)
    have q3 := Dr.cell0 (hP1.cell (i := 3) rfl)
    have q4 := Dr.cell0 (hP1.cell (i := 4) rfl)
    have q5 := Dr.cell0 (hP1.cell (i := 5) rfl)
    have q6 := Dr.cell0 (hP1.cell (i := 6) rfl)
    have q7 := Dr.cell0 (hP1.cell (i := 7) rfl)
    refine Dr.plan_q (l := [_, _, _, _, _]) rfl (fun K hK => ?_)
    iterate 5 (go_big_quiet_step (fail))
    refine wpQuiet_nil (hK _ ?_); clear hK K
    clear q0 q1 q2 q3 q4 q5 q6 q7
    have D1 := Lib.hid (C1.out W hb1)
    unfold JbV.val at D1
    refine Dr.plan_e rfl (by rfl) (fun K hK => ?_)
    go_wp2_with fail
    refine (D1.out).mono ?_; rintro e W2 ⟨rfl, hx2⟩
    refine hK _ _ (.of hx2) ?_; clear hK K
    have hb2 := ext_trans hb1 hx2
    have hP2 := hP1.ext hx2
    clear D1 hb1 hP1 hx2
    have q0 := Dr.cell0 (hP2.cell (i := 0) rfl)
    have q1 := Dr.cell0 (hP2.cell (i := 1) rfl)
    have q2 := Dr.cell0 (hP2.cell (i := 2) rfl)
    have q3 := Dr.cell0 (hP2.cell (i := 3) rfl)
    have q4 := Dr.cell0 (hP2.cell (i := 4) rfl)
    have q5 := Dr.cell0 (hP2.cell (i := 5) rfl)
    have q6 := Dr.cell0 (hP2.cell (i := 6) rfl)
    have q7 := Dr.cell0 (hP2.cell (i := 7) rfl)
    refine Dr.plan_q (l := [_, _, _, _, _, _, _]) rfl (fun K hK => ?_)
    iterate 7 (go_big_quiet_step (fail))
    refine wpQuiet_nil (hK _ ?_); clear hK K
    clear q0 q1 q2 q3 q4 q5 q6 q7
    have D2 := Lib.hid (C2.out W2 hb2)
    unfold JbV.val at D2
    refine Dr.plan_e rfl (by rfl) (fun K hK => ?_)
    go_wp2_with fail
    refine (D2.out).mono ?_; rintro e W3 ⟨rfl, hx3⟩
    refine hK _ _ (.of hx3) ?_; clear hK K
    have hb3 := ext_trans hb2 hx3
    clear D2 hb2 hP2 hx3
    refine Dr.plan_q (l := [_, _, _]) rfl (fun K hK => ?_)
    iterate 3 (go_big_quiet_step (fail))
    refine wpQuiet_nil (hK _ ?_); clear hK K
    refine Dr.plan_end rfl ?_
    go_wp2
    go_ret
    exact ⟨ret_congr (bool_congr (by rw [← Hres.out]; simp [h])), hb3⟩
  · have h' : decide (m1 ≤ v.x.l.carries) = false := by simpa using h
    refine Dr.wp_region_plan 17 [] (.q [0, 1, 3, 4, 5] (.e1 2 (.q [6, 7, 8, 9, 11, 12, 13] (.e1 10 (.q [14, 15, 16] .done))))) (by kernel_rfl) (by kernel_rfl) ?_
    generalize World.drew _ = W at *
    have q0 := Dr.cell0 (hP1.cell (i := 0) rfl)
    have q1 := Dr.cell0 (hP1.cell (i := 1) rfl)
    have q2 := Dr.cell0 (hP1.cell (i := 2) rfl)
    have q3 := Dr.cell0 (hP1.cell (i := 3) rfl)
    have q4 := Dr.cell0 (hP1.cell (i := 4) rfl)
    have q5 := Dr.cell0 (hP1.cell (i := 5) rfl)
    have q6 := Dr.cell0 (hP1.cell (i := 6) rfl)
    have q7 := Dr.cell0 (hP1.cell (i := 7) rfl)
    refine Dr.plan_q (l := [_, _, _, _, _]) rfl (fun K hK => ?_)
    iterate 5 (go_big_quiet_step (fail))
    refine wpQuiet_nil (hK _ ?_); clear hK K
    clear q0 q1 q2 q3 q4 q5 q6 q7
    have D1 := Lib.hid (C1.out W hb1)
    unfold JbV.val at D1
    refine Dr.plan_e rfl (by rfl) (fun K hK => ?_)
    go_wp2_with fail
    refine (D1.out).mono ?_; rintro e W2 ⟨rfl, hx2⟩
    refine hK _ _ (.of hx2) ?_; clear hK K
    have hb2 := ext_trans hb1 hx2
    have hP2 := hP1.ext hx2
    clear D1 hb1 hP1 hx2
    refine Dr.plan_q (l := [_, _, _, _, _, _, _]) rfl (fun K hK => ?_)
    iterate 7 (go_big_quiet_step (fail))
    refine wpQuiet_nil (hK _ ?_); clear hK K
    refine Dr.plan_e_skip rfl (by rfl) ?_; go_frame
    refine Dr.plan_q (l := [_, _, _]) rfl (fun K hK => ?_)
    iterate 3 (go_big_quiet_step (fail))
    refine wpQuiet_nil (hK _ ?_); clear hK K
    refine Dr.plan_end rfl ?_
    go_wp2
    go_ret
    exact ⟨ret_congr (bool_congr (by rw [← Hres.out, h']; rfl)), hb2⟩
end Go.Proofs.Ytbpmfaibcibleaa
