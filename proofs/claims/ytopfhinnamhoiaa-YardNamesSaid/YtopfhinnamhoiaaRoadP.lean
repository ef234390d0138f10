/- Walk: RightRoad; Road (the road for the program). -/
import Derived.Deep.DeepCutAuto
import Derived.Test.YtopfhinnamhoiaaSpecP
namespace Go.Proofs.Ytopfhinnamhoiaa
open Go.RowKit Go.Bs Go.Yd Go.Pl Go.Sort

theorem mkt_one (x : Mkt) : ∀ u ∈ Mkt.enc x, u.oneCell' = true := by
  intro u hu
  simp only [Mkt.enc, List.mem_cons, List.not_mem_nil, or_false] at hu
  rcases hu with rfl | rfl | rfl | rfl <;> rfl
theorem et90 : ElemT Try.prog 90 123 4 32 := ElemT.mk (z := .agg #[.int .i64 0, .int .i64 0, .int .i64 0, .bool false]) Try.underlying90 (by kernel_rfl) rfl

/-- what the walk of Road keeps -/
structure RoI (w W : World) (A : Option Addr) (n cap : Nat) (lim : Int) (v : Value) (l : List Mkt) : Prop where
  bl : Below w.heap.size w W
  sz : w.heap.size + 3 ≤ W.heap.size
  b0 : Blk W w.heap.size 87 [.slice A n cap, .int .i64 lim]
  b1 : Blk W (w.heap.size + 1) 92 [.slice none 0 0, .int .i64 0]
  b2 : Blk W (w.heap.size + 2) 92 [v, .int .i64 lim]
  own : OwnL W (w.heap.size + 3) 123 4 Mkt.enc v l
section
variable {w W W' : World} {A : Option Addr} {n cap : Nat} {lim : Int} {v : Value} {l : List Mkt}
theorem RoI.ext (h : RoI w W A n cap lim v l) (hb : Below W.heap.size W W') : RoI w W' A n cap lim v l :=
  ⟨ext_trans h.bl hb, Nat.le_trans h.sz hb.size, h.b0.ext hb, h.b1.ext hb, h.b2.ext hb, h.own.ext hb⟩
theorem RoI.set (h : RoI w W A n cap lim v l) {u : Value} {l2 : List Mkt} (hb : Below (w.heap.size + 3) W W') (ho : OwnL W' (w.heap.size + 3) 123 4 Mkt.enc u l2) : RoI w (W'.setCell ⟨w.heap.size + 2, 0, none⟩ u) A n cap lim u l2 :=
  ⟨(h.bl.trans (hb.mono (by omega))).setCell (by simp) _, by have := h.sz; have := hb.size; simp; omega, (h.b0.under hb (by omega)).other (by simp) _, (h.b1.under hb (by omega)).other (by simp) _, (h.b2.under hb (by omega)).set 0 _, ho.setCell (by simp) _⟩
end

set_option maxRecDepth 100000 in
set_option maxHeartbeats 4000000 in
theorem Road_any (r : Rd) (A : Option Addr) (n cap : Nat) (w : World) (hn : r.days.length = n) (hm : n ≤ 1000) (hd : RdAt w A r) :
    Calls Try.prog 52 #[.agg #[.slice A n cap, .int .i64 r.keep]] w fun e w' => ∃ v, e = .returned (.agg #[v, .int .i64 r.keep]) ∧ FreshL w w' 4 Mkt.enc v r.days ∧ Below w.heap.size w w' := by
  have Hn := Lib.hid hn
  have hS : RoI w (((w.alloc (.cells #[.slice A n cap, .int .i64 r.keep] 87)).alloc (.cells #[.slice none 0 0, .int .i64 0] 92)).alloc (.cells #[.slice none 0 0, .int .i64 r.keep] 92)) A n cap r.keep (.slice none 0 0) [] := by
    refine ⟨((ext_alloc w _).alloc (by simp) _).alloc (by simp; omega) _, by simp, ?_, ?_, ?_, OwnL.nil⟩
    · exact ((Blk.new w 87 [.slice A n cap, .int .i64 r.keep]).alloc _).alloc _
    · have := (Blk.new (w.alloc (.cells #[.slice A n cap, .int .i64 r.keep] 87)) 92 [.slice none 0 0, .int .i64 0]).alloc (.cells #[.slice none 0 0, .int .i64 r.keep] 92)
      simpa using this
    · have := Blk.new ((w.alloc (.cells #[.slice A n cap, .int .i64 r.keep] 87)).alloc (.cells #[.slice none 0 0, .int .i64 0] 92)) 92 [.slice none 0 0, .int .i64 r.keep]
      simpa using this
  go_enter Try.func52, Try.ntmps52
  go_upto_region 2 with fail
  generalize ((w.alloc (.cells #[.slice A n cap, .int .i64 r.keep] 87)).alloc (.cells #[.slice none 0 0, .int .i64 0] 92)).alloc (.cells #[.slice none 0 0, .int .i64 r.keep] 92) = W0 at *
  go_wp2
  go_loopw [4] (fun x wr => ∃ (k : Nat) (v : Value), x = .int .i64 k ∧ k ≤ n ∧ RoI w wr A n cap r.keep v (r.days.take k)) (fun x _ => n - (intOf x).toNat)
  case atStart => exact ⟨0, _, rfl, by omega, by simpa using hS⟩
  case round =>
    clear hS
    obtain ⟨k, v, rfl, hk, hS⟩ := hrel
    have x0 : wr.cell? ⟨w.heap.size, 0, none⟩ = _ := hS.b0.cell rfl
    by_cases hlt : k < n
    · have hlt' : (k : Int) < (n : Int) := by omega
      have hk0 : (0 : Int) ≤ (k : Int) := by omega
      obtain ⟨b, off, rfl, -, c0, c1, c2, c3⟩ := (hd.ext hS.bl).day (k := k) (by omega)
      have hS1 := hS.ext (ext_alloc wr (.cells #[.int .i64 (r.day k).need, .int .i64 (r.day k).price, .int .i64 (r.day k).trip, .bool (r.day k).opn] 95))
      have hbx := Blk.new wr 95 (Mkt.enc (r.day k))
      have hsz := hS.sz
      clear hS
      go_upto_region 6 with fail
      change Blk (wr.alloc (.cells #[.int .i64 (r.day k).need, .int .i64 (r.day k).price, .int .i64 (r.day k).trip, .bool (r.day k).opn] 95)) wr.heap.size 95 [.int .i64 (r.day k).need, .int .i64 (r.day k).price, .int .i64 (r.day k).trip, .bool (r.day k).opn] at hbx
      have hsz1 : (wr.alloc (.cells #[.int .i64 (r.day k).need, .int .i64 (r.day k).price, .int .i64 (r.day k).trip, .bool (r.day k).opn] 95)).heap.size = wr.heap.size + 1 := by simp
      have Hsz1 := Lib.hid hsz1
      clear hsz1 c0 c1 c2 c3 x0
      generalize wr.alloc (.cells #[.int .i64 (r.day k).need, .int .i64 (r.day k).price, .int .i64 (r.day k).trip, .bool (r.day k).opn] 95) = W1 at *
      have d0 : W1.cell? ⟨wr.heap.size, 0, none⟩ = _ := hbx.cell rfl
      have d1 : W1.cell? ⟨wr.heap.size, 1, none⟩ = _ := hbx.cell rfl
      have d2 : W1.cell? ⟨wr.heap.size, 2, none⟩ = _ := hbx.cell rfl
      have d3 : W1.cell? ⟨wr.heap.size, 3, none⟩ = _ := hbx.cell rfl
      have s0 : W1.cell? ⟨w.heap.size + 2, 0, none⟩ = _ := hS1.b2.cell rfl
      have hS2 := hS1.ext (ext_alloc W1 (.cells (Mkt.enc (r.day k)).toArray 123))
      have hnew := Blk.new W1 123 (Mkt.enc (r.day k))
      have hlk : (r.days.take k).length = k := by simp; omega
      have hgk : r.days.take (k + 1) = r.days.take k ++ [r.day k] := by
        rw [List.take_succ_eq_append_getElem (by omega), Rd.day_get (by omega)]
      go_wp2_with (at_builtin; refine app1 Mkt.enc 90 123 4 32 et90 (by decide) (by decide) (fun _ => rfl) mkt_one rfl _ _ rfl (w.heap.size + 3) v (r.days.take k) rfl hS2.own W1.heap.size rfl (r.day k) (fun j u hj => hnew.cell hj) (by omega) (by have := Hsz1.out; simp; omega) ?_; intro g' cap' w' hown hb3 _ _; have f2 : w'.frozen? ⟨w.heap.size + 1 + 1, 0, none⟩ = false := (hS2.b2.under hb3 (by omega)).free 0; have x2 : w'.cell? ⟨w.heap.size + 1 + 1, 0, none⟩ = some v := (hS2.b2.under hb3 (by omega)).cell rfl)
      have hS3 := hS2.set (u := .slice (some ⟨g', 0, none⟩) ((r.days.take k).length + 1) cap') hb3 hown
      rw [← hgk, hlk] at hS3
      go_roundw
      case rel => exact ⟨k + 1, _, by go_num, by omega, hS3⟩
      case measure => simp [intOf]; omega
    · obtain rfl : k = n := by omega
      obtain ⟨A', c', rfl, -, -, -⟩ := hS.own.cells (fun _ => rfl)
      rw [List.take_of_length_le (by rw [Hn.out]; omega), Hn.out] at hS
      have x0 : wr.cell? ⟨w.heap.size + 1 + 1, 0, none⟩ = _ := hS.b2.cell rfl
      have x1 : wr.cell? ⟨w.heap.size + 1 + 1, 1, none⟩ = _ := hS.b2.cell rfl
      have y0 : wr.cell? ⟨w.heap.size + 1, 0, none⟩ = _ := hS.b1.cell rfl
      have y1 : wr.cell? ⟨w.heap.size + 1, 1, none⟩ = _ := hS.b1.cell rfl
      have f0 := hS.b1.free 0
      have f1 := hS.b1.free 1
      go_wp2
      have hR := (hS.b1.set 0 (.slice A' k c')).set 1 (.int .i64 r.keep)
      have hO := (hS.own.setCell (p := ⟨w.heap.size + 1, 0, none⟩) (by simp) (.slice A' k c')).setCell (p := ⟨w.heap.size + 1, 1, none⟩) (by simp) (.int .i64 r.keep)
      have hb := (hS.bl.setCell (p := ⟨w.heap.size + 1, 0, none⟩) (by simp) (.slice A' k c')).setCell (p := ⟨w.heap.size + 1, 1, none⟩) (by simp) (.int .i64 r.keep)
      clear x0 x1 y0 y1 f0 f1 hS
      generalize (wr.setCell ⟨w.heap.size + 1, 0, none⟩ (.slice A' k c')).setCell ⟨w.heap.size + 1, 1, none⟩ (.int .i64 r.keep) = W at *
      have s0 : W.cell? ⟨w.heap.size + 1, 0, none⟩ = _ := hR.cell rfl
      have s1 : W.cell? ⟨w.heap.size + 1, 1, none⟩ = _ := hR.cell rfl
      refine bodyPost_ret (v := .agg #[.slice A' k c', .int .i64 r.keep]) (by simp [results, Try.results52, go_sem, s0, s1]) rfl ?_
      exact ⟨_, rfl, FreshL.of_own hO (fun _ => rfl) (by omega), hb⟩

set_option maxRecDepth 100000 in
set_option maxHeartbeats 4000000 in
theorem RightRoad_any (r : Rd) (A : Option Addr) (n cap : Nat) (w : World) (hn : r.days.length = n) (hm : n ≤ 9223372036854775807) (hd : RdAt w A r) :
    Calls Try.prog 50 #[.agg #[.slice A n cap, .int .i64 r.keep]] w fun e w' => e = .returned (.bool r.okB) ∧ Below w.heap.size w w' := by
  have hb0 := ext_alloc w (.cells #[.slice A n cap, .int .i64 r.keep] 87)
  have hB := Blk.new w 87 [.slice A n cap, .int .i64 r.keep]
  have Hn := Lib.hid hn
  generalize hres : r.okB = res
  have hbad : ¬ r.ok → res = false := fun h => by
    cases hr : res
    · rfl
    · exact absurd ((Rd.okB_iff r).1 (hres.trans hr)) h
  have hgood : r.ok → res = true := fun h => by rw [← hres]; exact (Rd.okB_iff r).2 h
  have Hbad := Lib.hid hbad
  have Hgood := Lib.hid hgood
  clear hres hbad hgood
  go_enter Try.func50, Try.ntmps50
  go_upto_region 1 with fail
  change Blk (w.alloc (.cells #[.slice A n cap, .int .i64 r.keep] 87)) w.heap.size 87 [.slice A n cap, .int .i64 r.keep] at hB
  generalize w.alloc (.cells #[.slice A n cap, .int .i64 r.keep] 87) = W0 at *
  go_wp2
  go_loopw [3] (fun x wr => ∃ k : Nat, x = .int .i64 k ∧ k ≤ n ∧ Hid (∀ j, j < k → (r.day j).ok) ∧ Below w.heap.size w wr ∧ Blk wr w.heap.size 87 [.slice A n cap, .int .i64 r.keep]) (fun x _ => n - (intOf x).toNat)
  case atStart => exact ⟨0, rfl, by omega, Lib.hid (fun j hj => by omega), hb0, hB⟩
  case round =>
    clear hb0 hB
    obtain ⟨k, rfl, hk, Hk, hb, hB⟩ := hrel
    have x0 : wr.cell? ⟨w.heap.size, 0, none⟩ = _ := hB.cell rfl
    have x1 : wr.cell? ⟨w.heap.size, 1, none⟩ = _ := hB.cell rfl
    by_cases hlt : k < n
    · have hlt' : (k : Int) < (n : Int) := by omega
      have hk0 : (0 : Int) ≤ (k : Int) := by omega
      obtain ⟨b, off, rfl, -, c0, c1, c2, c3⟩ := (hd.ext hb).day (k := k) (by omega)
      have hbx := Blk.new wr 95 (Mkt.enc (r.day k))
      have hb2 := ext_trans hb (ext_alloc wr (.cells #[.int .i64 (r.day k).need, .int .i64 (r.day k).price, .int .i64 (r.day k).trip, .bool (r.day k).opn] 95))
      have hB2 := hB.ext (ext_alloc wr (.cells #[.int .i64 (r.day k).need, .int .i64 (r.day k).price, .int .i64 (r.day k).trip, .bool (r.day k).opn] 95))
      have bad : ¬ (r.day k).ok → res = false := fun h => Hbad.out (fun hok => h (Rd.day_ok hok (by rw [Hn.out]; exact hlt)))
      have good : (r.day k).ok → ∀ j, j < k + 1 → (r.day j).ok := fun h j hj => by
        by_cases e : j = k
        · subst e; exact h
        · exact Hk.out j (by omega)
      have Bad := Lib.hid bad
      have Good := Lib.hid good
      clear bad good
      go_upto_region 5 with fail
      change Blk (wr.alloc (.cells #[.int .i64 (r.day k).need, .int .i64 (r.day k).price, .int .i64 (r.day k).trip, .bool (r.day k).opn] 95)) wr.heap.size 95 [.int .i64 (r.day k).need, .int .i64 (r.day k).price, .int .i64 (r.day k).trip, .bool (r.day k).opn] at hbx
      clear c0 c1 c2 c3 x0 x1 hb hB
      generalize wr.alloc (.cells #[.int .i64 (r.day k).need, .int .i64 (r.day k).price, .int .i64 (r.day k).trip, .bool (r.day k).opn] 95) = W1 at *
      have d0 : W1.cell? ⟨wr.heap.size, 0, none⟩ = _ := hbx.cell rfl
      have d1 : W1.cell? ⟨wr.heap.size, 1, none⟩ = _ := hbx.cell rfl
      have d2 : W1.cell? ⟨wr.heap.size, 2, none⟩ = _ := hbx.cell rfl
      have d3 : W1.cell? ⟨wr.heap.size, 3, none⟩ = _ := hbx.cell rfl
      generalize r.day k = d at *
      obtain ⟨nd, pr, tr, op⟩ := d
      simp only at d0 d1 d2 d3
      clear hbx
      by_cases e1 : 0 ≤ nd ∧ nd ≤ 10000
      · have C1 := Lib.hid (In_t e1)
        by_cases e2 : 0 ≤ pr ∧ pr ≤ 1000
        · have C2 := Lib.hid (In_t e2)
          by_cases e3 : 0 ≤ tr ∧ tr ≤ 100000
          · have C3 := Lib.hid (In_t e3)
            have Hr := Lib.hid (Good.out ⟨e1, e2, e3⟩)
            clear e1 e2 e3
            go_wp2_with fail
            refine (C1.out _).mono ?_; rintro e w1 ⟨rfl, rfl⟩
            go_wp2_with fail
            refine (C2.out _).mono ?_; rintro e w1 ⟨rfl, rfl⟩
            go_wp2_with fail
            refine (C3.out _).mono ?_; rintro e w1 ⟨rfl, rfl⟩
            go_wp2
            go_roundw
            case rel => exact ⟨k + 1, by go_num, by omega, Hr, hb2, hB2⟩
            case measure => simp [intOf]; omega
          · have C3 := Lib.hid (In_f e3)
            have Hr := Lib.hid (Bad.out (fun h => e3 h.2.2))
            clear e1 e2 e3
            go_wp2_with fail
            refine (C1.out _).mono ?_; rintro e w1 ⟨rfl, rfl⟩
            go_wp2_with fail
            refine (C2.out _).mono ?_; rintro e w1 ⟨rfl, rfl⟩
            go_wp2_with fail
            refine (C3.out _).mono ?_; rintro e w1 ⟨rfl, rfl⟩
            go_wp2
            go_ret
            exact ⟨ret_congr (bool_congr Hr.out.symm), hb2⟩
        · have C2 := Lib.hid (In_f e2)
          have Hr := Lib.hid (Bad.out (fun h => e2 h.2.1))
          clear e1 e2
          go_wp2_with fail
          refine (C1.out _).mono ?_; rintro e w1 ⟨rfl, rfl⟩
          go_wp2_with fail
          refine (C2.out _).mono ?_; rintro e w1 ⟨rfl, rfl⟩
          go_wp2
          go_ret
          exact ⟨ret_congr (bool_congr Hr.out.symm), hb2⟩
      · have C1 := Lib.hid (In_f e1)
        have Hr := Lib.hid (Bad.out (fun h => e1 h.1))
        clear e1
        go_wp2_with fail
        refine (C1.out _).mono ?_; rintro e w1 ⟨rfl, rfl⟩
        go_wp2
        go_ret
        exact ⟨ret_congr (bool_congr Hr.out.symm), hb2⟩
    · obtain rfl : k = n := by omega
      have hall : ∀ m ∈ r.days, m.ok := fun m hm => by
        obtain ⟨j, hj, rfl⟩ := List.mem_iff_getElem.1 hm
        rw [Rd.day_get hj]
        exact Hk.out j (by rw [Hn.out] at hj; exact hj)
      have Hall := Lib.hid hall
      clear hall
      by_cases h1 : 1 ≤ k
      · by_cases h2 : k ≤ 30
        · have h1' : (1 : Int) ≤ (k : Int) := by omega
          have h2' : (k : Int) ≤ 30 := by omega
          by_cases h3 : 1 ≤ r.keep ∧ r.keep ≤ 10
          · have C3 := Lib.hid (In_t h3)
            have Hr := Lib.hid (Hgood.out ⟨by rw [Hn.out]; exact ⟨h1, h2⟩, h3, Hall.out⟩)
            clear h1 h2 h3
            go_wp2_with fail
            refine (C3.out _).mono ?_; rintro e w1 ⟨rfl, rfl⟩
            go_wp2
            go_ret
            exact ⟨ret_congr (bool_congr Hr.out.symm), hb⟩
          · have C3 := Lib.hid (In_f h3)
            have Hr := Lib.hid (Hbad.out (fun h => h3 h.2.1))
            clear h1 h2 h3
            go_wp2_with fail
            refine (C3.out _).mono ?_; rintro e w1 ⟨rfl, rfl⟩
            go_wp2
            go_ret
            exact ⟨ret_congr (bool_congr Hr.out.symm), hb⟩
        · have h1' : (1 : Int) ≤ (k : Int) := by omega
          have h2' : (30 : Int) < (k : Int) := by omega
          have Hr := Lib.hid (Hbad.out (fun h => by have := h.1; rw [Hn.out] at this; omega))
          clear h1 h2
          go_wp2
          go_ret
          exact ⟨ret_congr (bool_congr Hr.out.symm), hb⟩
      · have h1' : (k : Int) < 1 := by omega
        have Hr := Lib.hid (Hbad.out (fun h => by have := h.1; rw [Hn.out] at this; omega))
        clear h1
        go_wp2
        go_ret
        exact ⟨ret_congr (bool_congr Hr.out.symm), hb⟩
end Go.Proofs.Ytopfhinnamhoiaa
