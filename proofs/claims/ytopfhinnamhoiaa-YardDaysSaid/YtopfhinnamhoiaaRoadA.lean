/- Walks: need, until, feeds, price of a road. -/
import Derived.Test.YtopfhinnamhoiaaEnc
namespace Go.Proofs.Ytopfhinnamhoiaa
open Go.RowKit Go.Bs Go.Yd Go.Pl Go.Sort

/-- The road's days lie from A on. -/
def RdAt (w : World) (A : Option Addr) (r : Rd) : Prop := Cells w A 4 Mkt.enc r.days
theorem RdAt.ext {w w' : World} {A : Option Addr} {r : Rd} (h : RdAt w A r) (hb : Below w.heap.size w w') : RdAt w' A r := Cells.ext h hb
theorem RdAt.day {w : World} {A : Option Addr} {r : Rd} (h : RdAt w A r) {k : Nat} (hk : k < r.days.length) :
    ∃ b off, A = some ⟨b, off, none⟩ ∧ b < w.heap.size ∧ w.cell? ⟨b, off + k * 4, none⟩ = some (.int .i64 (r.day k).need) ∧ w.cell? ⟨b, off + k * 4 + 1, none⟩ = some (.int .i64 (r.day k).price) ∧ w.cell? ⟨b, off + k * 4 + 2, none⟩ = some (.int .i64 (r.day k).trip) ∧ w.cell? ⟨b, off + k * 4 + 3, none⟩ = some (.bool (r.day k).opn) :=
  Cells.at4 h hk (by rw [Rd.day_get hk]; rfl)

set_option maxHeartbeats 400000 in
theorem need_nat (r : Rd) (A : Option Addr) (n cap : Nat) (keep : Int) (i j : Nat) (w : World) (hok : r.ok) (hn : r.days.length = n) (hcap : n ≤ cap) (hi : i ≤ j) (hj : j ≤ n) (hd : RdAt w A r) :
    Calls Try.prog 115 #[.agg #[.slice A n cap, .int .i64 keep], .int .i64 i, .int .i64 j] w fun e w' => e = .returned (.int .i64 (r.need i j)) ∧ Below w.heap.size w w' := by
  have hcut := fun wx => run_cut2 (P := Try.prog) Try.underlying90 sz123 A n cap i j hi (by omega) wx
  have hd' : Cells w (cutA A 4 cap i) 4 Mkt.enc ((r.days.drop i).take (j - i)) := Cells.cut hd hi (by omega)
  have hmem : ∀ m ∈ (r.days.drop i).take (j - i), 0 ≤ m.need ∧ m.need ≤ 10000 := fun m hm => (hok.2.2 m (List.mem_of_mem_drop (List.mem_of_mem_take hm))).1
  have hl : ((r.days.drop i).take (j - i)).length = j - i := by simp; omega
  have hle : j - i ≤ 30 := by have := hok.1.2; omega
  unfold Rd.need
  generalize (r.days.drop i).take (j - i) = l at *
  generalize cutA A 4 cap i = A' at *
  clear hd hcap
  have Hl := Lib.hid hl
  clear hl hok hn hj
  go_enter Try.func115, Try.ntmps115
  go_wp2
  go_loopw [6, 8, 15] (fun s _ t wr => ∃ (k : Nat) (x : Int), k ≤ j - i ∧ t = .int .i64 k ∧ s = .int .i64 x ∧ (0 ≤ x ∧ x ≤ 300000) ∧ Hid (x = isum ((l.take k).map Mkt.need)) ∧ Below w.heap.size w wr) (fun _ _ t _ => j - i - (intOf t).toNat)
  case atStart => exact ⟨0, 0, by omega, rfl, rfl, by omega, rfl, (Below.refl _ _).alloc (Nat.le_refl _) _⟩
  case round =>
    obtain ⟨k, x, hk, rfl, rfl, hx, Hx, hb⟩ := hrel
    by_cases hlt : k < j - i
    · have hk1 : k < l.length := by rw [Hl.out]; exact hlt
      obtain ⟨b, off, rfl, hbl, c0, c1, c2, c3⟩ := (hd'.ext hb).at4 hk1 rfl
      have h2 := hmem l[k] (List.getElem_mem _)
      have h1 : 0 ≤ x + l[k].need ∧ x + l[k].need ≤ 300000 := by
        have hs := isum_map_take_succ Mkt.need l k hk1
        have h3 := isum_map_bd Mkt.need (l.take (k + 1)) 10000 (fun x hx => hmem x (List.mem_of_mem_take hx))
        have h4 : ((l.take (k + 1)).length : Int) ≤ 30 := by simp; omega
        rw [hs, ← Hx.out] at h3
        omega
      have H1 := Lib.hid (isum_map_take_succ Mkt.need l k hk1)
      go_wp2
      go_roundw
      case rel => exact ⟨k + 1, _, by omega, by go_num, rfl, h1, Lib.hid (by rw [H1.out, ← Hx.out]), hb.alloc hb.size _⟩
      case measure => simp [intOf]; omega
    · go_wp2
      go_ret
      exact ⟨ret_congr (int_congr (by rw [Hx.out, List.take_of_length_le (by rw [Hl.out]; omega)])), hb⟩

theorem need_any (r : Rd) (A : Option Addr) (n cap : Nat) (keep : Int) (i j : Int) (w : World) (hok : r.ok) (hn : r.days.length = n) (hcap : n ≤ cap) (h0 : 0 ≤ i) (hi : i ≤ j) (hj : j ≤ n) (hd : RdAt w A r) :
    Calls Try.prog 115 #[.agg #[.slice A n cap, .int .i64 keep], .int .i64 i, .int .i64 j] w fun e w' => e = .returned (.int .i64 (r.need i.toNat j.toNat)) ∧ Below w.heap.size w w' := by
  obtain ⟨i, rfl⟩ := Int.eq_ofNat_of_zero_le h0
  obtain ⟨j, rfl⟩ := Int.eq_ofNat_of_zero_le (Int.le_trans h0 hi)
  exact need_nat r A n cap keep i j w hok hn hcap (by omega) (by omega) hd

theorem until_any (v : List Int) (B : Option Addr) (m mc : Nat) (A : Option Addr) (n cap : Nat) (keep : Int) (i : Nat) (w : World) (hv : v.length = m) (hm : m ≤ 40) (hi : i < m) (hc : Cells w B 1 encI v) :
    Calls Try.prog 117 #[.agg #[.slice A n cap, .int .i64 keep], .slice B m mc, .int .i64 i] w fun e w' => e = .returned (.int .i64 (if i + 1 < m then v.getD (i + 1) 0 else n)) ∧ Below w.heap.size w w' := by
  generalize hres : (if i + 1 < m then v.getD (i + 1) 0 else (n : Int)) = res
  have Hres := Lib.hid hres
  clear hres
  by_cases h : i + 1 < m
  · obtain ⟨b, off, rfl, hb, c⟩ := hc.at1 (k := i + 1) (by omega) (v := .int .i64 (v.getD (i + 1) 0)) (by simp [encI, show i + 1 < v.length by omega])
    go_enter Try.func117, Try.ntmps117
    go_wp2
    go_ret
    exact ⟨ret_congr (int_congr (by rw [← Hres.out, if_pos h]; simp [show i + 1 < v.length by omega])), ext_alloc _ _⟩
  · go_enter Try.func117, Try.ntmps117
    go_wp2
    go_ret
    exact ⟨ret_congr (int_congr (by rw [← Hres.out, if_neg h])), ext_alloc _ _⟩

theorem feeds_any (r : Rd) (A : Option Addr) (n cap : Nat) (i j : Nat) (w : World) (hok : r.ok) (hn : r.days.length = n) (hcap : n ≤ cap) (hj : j ≤ n) (hij : i ≤ j) (hd : RdAt w A r) :
    Calls Try.prog 116 #[.agg #[.slice A n cap, .int .i64 r.keep], .int .i64 i, .int .i64 j] w fun e w' => e = .returned (.bool (r.feeds i j)) ∧ Below w.heap.size w w' := by
  have hk := hok.2.1
  have hn30 := hok.1.2
  generalize hres : r.feeds i j = res
  have Hres := Lib.hid hres
  clear hres
  have hd1 := hd.ext (ext_alloc w (.cells #[.slice A n cap, .int .i64 r.keep] 92))
  go_enter Try.func116, Try.ntmps116
  go_wp2_with (go_at_call 115; refine (need_any r A n cap r.keep _ _ _ hok hn hcap (by omega) (by omega) (by omega) hd1).mono ?_; rintro e w1 ⟨rfl, hb1⟩)
  all_goals
    go_ret
    refine ⟨ret_congr (bool_congr ?_), (ext_trans (ext_alloc _ _) hb1)⟩
    rw [← Hres.out]
    unfold Rd.feeds
    rw [show min j (i + r.keep.toNat) = _ from ?_]
  all_goals omega

set_option maxHeartbeats 400000 in
theorem price_any (r : Rd) (A : Option Addr) (n cap : Nat) (i j : Nat) (w : World) (hok : r.ok) (hn : r.days.length = n) (hcap : n ≤ cap) (hi : i < j) (hj : j ≤ n) (hd : RdAt w A r) :
    Calls Try.prog 118 #[.agg #[.slice A n cap, .int .i64 r.keep], .int .i64 i, .int .i64 j] w fun e w' => e = .returned (.int .i64 (r.price i j)) ∧ Below w.heap.size w w' := by
  obtain ⟨b, off, rfl, hb, c0, c1, c2, c3⟩ := hd.day (k := i) (by omega)
  have hin : (0 : Int) ≤ (i : Int) ∧ (i : Int) < (n : Int) := by omega
  have hb1 := ext_alloc w (.cells #[.slice (some ⟨b, off, none⟩) n cap, .int .i64 r.keep] 92)
  have hday := Rd.day_ok hok (i := i) (by omega)
  have hnd := Rd.need_bd hok i j
  have hm := mul_bd hday.2.1.1 hday.2.1.2 hnd.1 hnd.2
  have ht := hday.2.2
  generalize hres : r.price i j = res
  have Hres := Lib.hid hres
  clear hres
  go_enter Try.func118, Try.ntmps118
  go_wp2
  refine Dr.wp_region_plan 19 [] (.q [0, 1, 2, 3, 4, 5, 6, 7, 8, 9, 10, 11, 12, 13, 14] (.e1 15 (.q [16, 17, 18] .done))) (by kernel_rfl) (by kernel_rfl) ?_
  generalize hW : World.drew _ = W
  have hbW : Below w.heap.size w W := by rw [← hW]; exact (ext_alloc _ _).drew
  have q0 := Dr.cell0 (w := W) (a := ⟨w.heap.size, 0, none⟩) (v := .slice (some ⟨b, off, none⟩) n cap) (by rw [← hW]; simp)
  have q1 := Dr.cell0 (w := W) (a := ⟨w.heap.size, 1, none⟩) (v := .int .i64 r.keep) (by rw [← hW]; simp)
  have q2 := Dr.cell0 (cell_ext c1 hbW)
  have q3 := Dr.cell0 (cell_ext c2 hbW)
  clear hW hb1
  refine Dr.plan_q (l := [_, _, _, _, _, _, _, _, _, _, _, _, _, _, _]) rfl (fun K hK => ?_)
  iterate 15 (go_big_quiet_step (fail))
  refine wpQuiet_nil (hK _ ?_); clear hK K
  refine Dr.plan_e rfl (by rfl) (fun K hK => ?_)
  go_wp2_with fail
  refine (need_any r (some ⟨b, off, none⟩) n cap r.keep _ _ _ hok hn hcap (by omega) (by omega) (by omega) (hd.ext hbW)).mono ?_; rintro e w1 ⟨rfl, hb1⟩
  refine hK _ _ (.of hb1) ?_; clear hK K
  simp only [Int.toNat_natCast]
  refine Dr.plan_q (l := [_, _, _]) rfl (fun K hK => ?_)
  iterate 3 (go_big_quiet_step (fail))
  refine wpQuiet_nil (hK _ ?_); clear hK K
  refine Dr.plan_end rfl ?_
  go_wp2
  go_ret
  exact ⟨ret_congr (int_congr (by rw [← Hres.out]; unfold Rd.price; rfl)), ext_trans hbW hb1⟩
end Go.Proofs.Ytopfhinnamhoiaa
