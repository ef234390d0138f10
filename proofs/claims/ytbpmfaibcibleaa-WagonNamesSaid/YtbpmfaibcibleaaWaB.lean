/- Walks: is a thing, a lorry, are rules valid; cargo, check. (Printed by mk_wab.py.) -/
import Derived.Test.YtbpmfaibcibleaaWaA
namespace Go.Proofs.Ytbpmfaibcibleaa
open Go.RowKit Go.Bs Go.Wg Go.Pl Go.Sort
theorem thvalid4 (a b c d : Int) (w : World) :
    Calls Try.prog 103 #[.agg #[.int .i64 a, .int .i64 b, .int .i64 c, .int .i64 d]] w fun e w' => e = .returned (.bool (btw a 1 2000 && btw b 1 500 && btw c 0 100000 && btw d 0 1000)) ∧ Below w.heap.size w w' := by
  have C1 := Lib.hid (fun W => within_any a 1 2000 W)
  have C2 := Lib.hid (fun W => within_any b 1 500 W)
  have C3 := Lib.hid (fun W => within_any c 0 100000 W)
  have C4 := Lib.hid (fun W => within_any d 0 1000 W)
  generalize btw a 1 2000 = b1 at *
  generalize btw b 1 500 = b2 at *
  generalize btw c 0 100000 = b3 at *
  generalize btw d 0 1000 = b4 at *
  have hb0 := ext_alloc w (.cells #[.int .i64 a, .int .i64 b, .int .i64 c, .int .i64 d] 102)
  have hP := Blk.new w 102 [.int .i64 a, .int .i64 b, .int .i64 c, .int .i64 d]
  go_enter Try.func103, Try.ntmps103
  go_upto_region 1 with fail
  change Blk (w.alloc (.cells #[.int .i64 a, .int .i64 b, .int .i64 c, .int .i64 d] 102)) _ _ _ at hP
  generalize w.alloc (.cells #[.int .i64 a, .int .i64 b, .int .i64 c, .int .i64 d] 102) = W0 at *
  have c0 : W0.cell? ⟨w.heap.size, 0, none⟩ = _ := hP.cell rfl
  have c1 : W0.cell? ⟨w.heap.size, 1, none⟩ = _ := hP.cell rfl
  have c2 : W0.cell? ⟨w.heap.size, 2, none⟩ = _ := hP.cell rfl
  have c3 : W0.cell? ⟨w.heap.size, 3, none⟩ = _ := hP.cell rfl
  have hlt := hP.lt
  clear hP
  go_wp2_with fail
  refine (C1.out _).mono ?_; rintro e w1 ⟨rfl, rfl⟩
  cases b1
  · go_wp2
    go_ret
    exact ⟨rfl, hb0⟩
  go_wp2_with fail
  refine (C2.out _).mono ?_; rintro e w1 ⟨rfl, rfl⟩
  cases b2
  · go_wp2
    go_ret
    exact ⟨rfl, hb0⟩
  go_wp2_with fail
  refine (C3.out _).mono ?_; rintro e w1 ⟨rfl, rfl⟩
  cases b3
  · go_wp2
    go_ret
    exact ⟨rfl, hb0⟩
  go_wp2_with fail
  refine (C4.out _).mono ?_; rintro e w1 ⟨rfl, rfl⟩
  go_wp2
  go_ret
  exact ⟨rfl, hb0⟩
theorem ruvalid4 (a b c d : Int) (w : World) :
    Calls Try.prog 63 #[.agg #[.int .i64 a, .int .i64 b, .int .i64 c, .int .i64 d]] w fun e w' => e = .returned (.bool (btw a 1 24 && btw b 1 a && btw c 0 8 && btw d 0 24)) ∧ Below w.heap.size w w' := by
  have C1 := Lib.hid (fun W => within_any a 1 24 W)
  have C2 := Lib.hid (fun W => within_any b 1 a W)
  have C3 := Lib.hid (fun W => within_any c 0 8 W)
  have C4 := Lib.hid (fun W => within_any d 0 24 W)
  generalize btw a 1 24 = b1 at *
  generalize btw b 1 a = b2 at *
  generalize btw c 0 8 = b3 at *
  generalize btw d 0 24 = b4 at *
  have hb0 := ext_alloc w (.cells #[.int .i64 a, .int .i64 b, .int .i64 c, .int .i64 d] 27)
  have hP := Blk.new w 27 [.int .i64 a, .int .i64 b, .int .i64 c, .int .i64 d]
  go_enter Try.func63, Try.ntmps63
  go_upto_region 1 with fail
  change Blk (w.alloc (.cells #[.int .i64 a, .int .i64 b, .int .i64 c, .int .i64 d] 27)) _ _ _ at hP
  generalize w.alloc (.cells #[.int .i64 a, .int .i64 b, .int .i64 c, .int .i64 d] 27) = W0 at *
  have c0 : W0.cell? ⟨w.heap.size, 0, none⟩ = _ := hP.cell rfl
  have c1 : W0.cell? ⟨w.heap.size, 1, none⟩ = _ := hP.cell rfl
  have c2 : W0.cell? ⟨w.heap.size, 2, none⟩ = _ := hP.cell rfl
  have c3 : W0.cell? ⟨w.heap.size, 3, none⟩ = _ := hP.cell rfl
  have hlt := hP.lt
  clear hP
  go_wp2_with fail
  refine (C1.out _).mono ?_; rintro e w1 ⟨rfl, rfl⟩
  cases b1
  · go_wp2
    go_ret
    exact ⟨rfl, hb0⟩
  go_wp2_with fail
  refine (C2.out _).mono ?_; rintro e w1 ⟨rfl, rfl⟩
  cases b2
  · go_wp2
    go_ret
    exact ⟨rfl, hb0⟩
  go_wp2_with fail
  refine (C3.out _).mono ?_; rintro e w1 ⟨rfl, rfl⟩
  cases b3
  · go_wp2
    go_ret
    exact ⟨rfl, hb0⟩
  go_wp2_with fail
  refine (C4.out _).mono ?_; rintro e w1 ⟨rfl, rfl⟩
  go_wp2
  go_ret
  exact ⟨rfl, hb0⟩
theorem ruright4 (a b c d : Int) (w : World) :
    Calls Try.prog 19 #[.agg #[.int .i64 a, .int .i64 b, .int .i64 c, .int .i64 d]] w fun e w' => e = .returned (.bool (btw a 1 24 && btw b 1 a && btw c 0 8 && btw d 0 24)) ∧ Below w.heap.size w w' := by
  have C1 := Lib.hid (fun W => In_any a 1 24 W)
  have C2 := Lib.hid (fun W => In_any b 1 a W)
  have C3 := Lib.hid (fun W => In_any c 0 8 W)
  have C4 := Lib.hid (fun W => In_any d 0 24 W)
  generalize btw a 1 24 = b1 at *
  generalize btw b 1 a = b2 at *
  generalize btw c 0 8 = b3 at *
  generalize btw d 0 24 = b4 at *
  have hb0 := ext_alloc w (.cells #[.int .i64 a, .int .i64 b, .int .i64 c, .int .i64 d] 23)
  have hP := Blk.new w 23 [.int .i64 a, .int .i64 b, .int .i64 c, .int .i64 d]
  go_enter Try.func19, Try.ntmps19
  go_upto_region 1 with fail
  change Blk (w.alloc (.cells #[.int .i64 a, .int .i64 b, .int .i64 c, .int .i64 d] 23)) _ _ _ at hP
  generalize w.alloc (.cells #[.int .i64 a, .int .i64 b, .int .i64 c, .int .i64 d] 23) = W0 at *
  have c0 : W0.cell? ⟨w.heap.size, 0, none⟩ = _ := hP.cell rfl
  have c1 : W0.cell? ⟨w.heap.size, 1, none⟩ = _ := hP.cell rfl
  have c2 : W0.cell? ⟨w.heap.size, 2, none⟩ = _ := hP.cell rfl
  have c3 : W0.cell? ⟨w.heap.size, 3, none⟩ = _ := hP.cell rfl
  have hlt := hP.lt
  clear hP
  go_wp2_with fail
  refine (C1.out _).mono ?_; rintro e w1 ⟨rfl, rfl⟩
  cases b1
  · go_wp2
    go_ret
    exact ⟨rfl, hb0⟩
  go_wp2_with fail
  refine (C2.out _).mono ?_; rintro e w1 ⟨rfl, rfl⟩
  cases b2
  · go_wp2
    go_ret
    exact ⟨rfl, hb0⟩
  go_wp2_with fail
  refine (C3.out _).mono ?_; rintro e w1 ⟨rfl, rfl⟩
  cases b3
  · go_wp2
    go_ret
    exact ⟨rfl, hb0⟩
  go_wp2_with fail
  refine (C4.out _).mono ?_; rintro e w1 ⟨rfl, rfl⟩
  go_wp2
  go_ret
  exact ⟨rfl, hb0⟩
theorem thvalid_any (t : Th) (w : World) : Calls Try.prog 103 #[Th.val t] w fun e w' => e = .returned (.bool t.okB) ∧ Below w.heap.size w w' := thvalid4 _ _ _ _ w
theorem ths_ok (l : List Th) (w : World) : PredF Try.prog 103 #[] #[] Th.val Th.okB w l := fun W x _ _ => thvalid_any x W
theorem lane_ok (l : List Int) (w : World) : PredF Try.prog 105 #[] #[] (Value.int .i64) (fun n => btw n 1 2000) w l := by
  intro W x hx hb
  have C1 := Lib.hid (fun W => within_any x 1 2000 W)
  show Calls Try.prog 105 #[.int .i64 x] W fun e w' => e = .returned (.bool (btw x 1 2000)) ∧ Below W.heap.size W w'
  generalize btw x 1 2000 = b1 at *
  clear hx hb
  go_enter Try.func105, Try.ntmps105
  go_wp2_with fail
  refine (C1.out _).mono ?_; rintro e w1 ⟨rfl, rfl⟩
  go_wp2
  go_ret
  exact ⟨rfl, Below.refl _ _⟩
set_option maxHeartbeats 1000000 in
theorem lovalid7 (lanes : List Int) (A : Option Addr) (n c : Nat) (h1 h2 h3 h4 h5 h6 : Int) (w : World) (hn : lanes.length = n) (hm : n ≤ 9223372036854775807) (hc : Cells w A 1 encI lanes) :
    Calls Try.prog 79 #[.agg #[.slice A n c, .int .i64 h1, .int .i64 h2, .int .i64 h3, .int .i64 h4, .int .i64 h5, .int .i64 h6]] w fun e w' => e = .returned (.bool (btw n 1 6 && (lanes.all fun n => btw n 1 2000) && btw h1 1 500 && btw h2 0 100000 && btw h3 0 100000 && btw h4 1 4000 && btw h5 0 100000 && btw h6 0 100)) ∧ Below w.heap.size w w' := by
  have hb0 := ext_alloc w (.cells #[.slice A n c, .int .i64 h1, .int .i64 h2, .int .i64 h3, .int .i64 h4, .int .i64 h5, .int .i64 h6] 44)
  have hP := Blk.new w 44 [.slice A n c, .int .i64 h1, .int .i64 h2, .int .i64 h3, .int .i64 h4, .int .i64 h5, .int .i64 h6]
  have C1 := Lib.hid (fun W => within_any n 1 6 W)
  have C2 := Lib.hid (all_int 105 #[] #[] (fun n => btw n 1 2000) A n c lanes _ (enters_of Try.func105 (by kernel_rfl) rfl) hn hm (hc.ext hb0) (lane_ok lanes _))
  have C3 := Lib.hid (fun W => within_any h1 1 500 W)
  have C4 := Lib.hid (fun W => within_any h2 0 100000 W)
  have C5 := Lib.hid (fun W => within_any h3 0 100000 W)
  have C6 := Lib.hid (fun W => within_any h4 1 4000 W)
  have C7 := Lib.hid (fun W => within_any h5 0 100000 W)
  have C8 := Lib.hid (fun W => within_any h6 0 100 W)
  generalize btw n 1 6 = b1 at *
  generalize (lanes.all fun n => btw n 1 2000) = b2 at *
  generalize btw h1 1 500 = b3 at *
  generalize btw h2 0 100000 = b4 at *
  generalize btw h3 0 100000 = b5 at *
  generalize btw h4 1 4000 = b6 at *
  generalize btw h5 0 100000 = b7 at *
  generalize btw h6 0 100 = b8 at *
  clear hn hc
  go_enter Try.func79, Try.ntmps79
  go_upto_region 1 with fail
  change Blk (w.alloc (.cells #[.slice A n c, .int .i64 h1, .int .i64 h2, .int .i64 h3, .int .i64 h4, .int .i64 h5, .int .i64 h6] 44)) _ _ _ at hP
  generalize w.alloc (.cells #[.slice A n c, .int .i64 h1, .int .i64 h2, .int .i64 h3, .int .i64 h4, .int .i64 h5, .int .i64 h6] 44) = W0 at *
  have c0 : W0.cell? ⟨w.heap.size, 0, none⟩ = _ := hP.cell rfl
  go_wp2_with fail
  refine (C1.out _).mono ?_; rintro e w1 ⟨rfl, rfl⟩
  cases b1
  · go_wp2
    go_ret
    exact ⟨rfl, hb0⟩
  go_wp2_with fail
  refine C2.out.mono ?_; rintro e W1 ⟨rfl, hb1⟩
  have hP1 := hP.ext hb1
  have hb01 := ext_trans hb0 hb1
  have c1 : W1.cell? ⟨w.heap.size, 1, none⟩ = _ := hP1.cell rfl
  have c2 : W1.cell? ⟨w.heap.size, 2, none⟩ = _ := hP1.cell rfl
  have c3 : W1.cell? ⟨w.heap.size, 3, none⟩ = _ := hP1.cell rfl
  have c4 : W1.cell? ⟨w.heap.size, 4, none⟩ = _ := hP1.cell rfl
  have c5 : W1.cell? ⟨w.heap.size, 5, none⟩ = _ := hP1.cell rfl
  have c6 : W1.cell? ⟨w.heap.size, 6, none⟩ = _ := hP1.cell rfl
  have hlt := hP1.lt
  clear c0 hP hP1 hb0 hb1 C1 C2
  cases b2
  · go_wp2
    go_ret
    exact ⟨rfl, hb01⟩
  go_wp2_with fail
  refine (C3.out _).mono ?_; rintro e w1 ⟨rfl, rfl⟩
  cases b3
  · go_wp2
    go_ret
    exact ⟨rfl, hb01⟩
  go_wp2_with fail
  refine (C4.out _).mono ?_; rintro e w1 ⟨rfl, rfl⟩
  cases b4
  · go_wp2
    go_ret
    exact ⟨rfl, hb01⟩
  go_wp2_with fail
  refine (C5.out _).mono ?_; rintro e w1 ⟨rfl, rfl⟩
  cases b5
  · go_wp2
    go_ret
    exact ⟨rfl, hb01⟩
  go_wp2_with fail
  refine (C6.out _).mono ?_; rintro e w1 ⟨rfl, rfl⟩
  cases b6
  · go_wp2
    go_ret
    exact ⟨rfl, hb01⟩
  go_wp2_with fail
  refine (C7.out _).mono ?_; rintro e w1 ⟨rfl, rfl⟩
  cases b7
  · go_wp2
    go_ret
    exact ⟨rfl, hb01⟩
  go_wp2_with fail
  refine (C8.out _).mono ?_; rintro e w1 ⟨rfl, rfl⟩
  go_wp2
  go_ret
  exact ⟨rfl, hb01⟩
theorem lovalid_any (x : LoV) (w : World) (hm : x.l.lanes.length ≤ 9223372036854775807) (hc : Cells w x.A 1 encI x.l.lanes) : Calls Try.prog 79 #[LoV.val x] w fun e w' => e = .returned (.bool x.l.okB) ∧ Below w.heap.size w w' :=
  lovalid7 x.l.lanes x.A _ x.c _ _ _ _ _ _ w rfl hm hc
theorem cargo_any (ts : List Th) (T : Option Addr) (n c most : Nat) (w : World) (hn : ts.length = n) (hm : n ≤ 9223372036854775807) (hc : Cells w T 4 Th.enc ts) :
    Calls Try.prog 76 #[.slice T n c, .int .i64 most] w fun e w' => e = .returned (.int .i64 (cargoE ts most)) ∧ Below w.heap.size w w' := by
  have C1 := Lib.hid (all_th 103 #[] #[] Th.okB T n c ts w (enters_of Try.func103 (by kernel_rfl) rfl) hn hm hc (ths_ok ts _))
  have hE : cargoE ts most = if most < n then 3 else if ts.all Th.okB then 0 else 1 := by rw [← hn]; rfl
  rw [hE]
  clear hE
  generalize ts.all Th.okB = b1 at *
  clear hn hc
  by_cases h : most < n
  · rw [if_pos h]
    have h' : (most : Int) < n := by omega
    go_enter Try.func76, Try.ntmps76
    go_wp2_with fail
    go_ret
    exact ⟨rfl, Below.refl _ _⟩
  · rw [if_neg h]
    have h' : ¬ (most : Int) < n := by omega
    go_enter Try.func76, Try.ntmps76
    go_wp2_with fail
    refine C1.out.mono ?_; rintro e w1 ⟨rfl, hb1⟩
    cases b1
    · go_wp2
      go_ret
      exact ⟨rfl, hb1⟩
    · go_wp2
      go_ret
      exact ⟨rfl, hb1⟩
theorem check_any (v : JbV) (ts : List Th) (w : World) (hm : v.x.l.lanes.length ≤ 9223372036854775807) (hn : ts.length ≤ 9223372036854775807) (hl : Cells w v.x.A 1 encI v.x.l.lanes) (ht : Cells w v.T 4 Th.enc ts) :
    Calls Try.prog 68 #[LoV.val v.x, .slice v.T ts.length v.cT] w fun e w' => e = .returned (.int .i64 (checkE v.x.l ts)) ∧ Below w.heap.size w w' := by
  have hb0 := ext_alloc w (.cells (LoV.enc v.x).toArray 44)
  have hP := Blk.new w 44 (LoV.enc v.x)
  have C1 := Lib.hid (lovalid_any v.x (w.alloc (.cells (LoV.enc v.x).toArray 44)) hm (hl.ext hb0))
  have ht0 := ht.ext hb0
  have hE : checkE v.x.l ts = if v.x.l.okB then cargoE ts 14 else 1 := rfl
  rw [hE]
  clear hE hl ht
  unfold LoV.val at *
  unfold LoV.enc at *
  generalize v.x.l.okB = b1 at *
  generalize v.x.l.lanes.length = nl at *
  generalize hce : cargoE ts 14 = ce at *
  have HE := Lib.hid hce
  clear hce
  go_enter Try.func68, Try.ntmps68
  go_upto_region 1 with fail
  change Blk (w.alloc (.cells #[.slice v.x.A nl v.x.c, .int .i64 v.x.l.height, .int .i64 v.x.l.carries, .int .i64 v.x.l.empty, .int .i64 v.x.l.rear, .int .i64 v.x.l.axle, .int .i64 v.x.l.deck] 44)) _ _ _ at hP
  change Below w.heap.size w (w.alloc (.cells #[.slice v.x.A nl v.x.c, .int .i64 v.x.l.height, .int .i64 v.x.l.carries, .int .i64 v.x.l.empty, .int .i64 v.x.l.rear, .int .i64 v.x.l.axle, .int .i64 v.x.l.deck] 44)) at hb0
  change Cells (w.alloc (.cells #[.slice v.x.A nl v.x.c, .int .i64 v.x.l.height, .int .i64 v.x.l.carries, .int .i64 v.x.l.empty, .int .i64 v.x.l.rear, .int .i64 v.x.l.axle, .int .i64 v.x.l.deck] 44)) _ _ _ _ at ht0
  change Hid (Calls Try.prog 79 _ (w.alloc (.cells #[.slice v.x.A nl v.x.c, .int .i64 v.x.l.height, .int .i64 v.x.l.carries, .int .i64 v.x.l.empty, .int .i64 v.x.l.rear, .int .i64 v.x.l.axle, .int .i64 v.x.l.deck] 44)) _) at C1
  generalize w.alloc (.cells #[.slice v.x.A nl v.x.c, .int .i64 v.x.l.height, .int .i64 v.x.l.carries, .int .i64 v.x.l.empty, .int .i64 v.x.l.rear, .int .i64 v.x.l.axle, .int .i64 v.x.l.deck] 44) = W0 at *
  have c0 : W0.cell? ⟨w.heap.size, 0, none⟩ = _ := hP.cell rfl
  have c1 : W0.cell? ⟨w.heap.size, 1, none⟩ = _ := hP.cell rfl
  have c2 : W0.cell? ⟨w.heap.size, 2, none⟩ = _ := hP.cell rfl
  have c3 : W0.cell? ⟨w.heap.size, 3, none⟩ = _ := hP.cell rfl
  have c4 : W0.cell? ⟨w.heap.size, 4, none⟩ = _ := hP.cell rfl
  have c5 : W0.cell? ⟨w.heap.size, 5, none⟩ = _ := hP.cell rfl
  have c6 : W0.cell? ⟨w.heap.size, 6, none⟩ = _ := hP.cell rfl
  have hlt := hP.lt
  go_wp2_with fail
  refine C1.out.mono ?_; rintro e W1 ⟨rfl, hb1⟩
  have h2 := cargo_any ts v.T ts.length v.cT 14 W1 rfl hn (ht0.ext hb1)
  rw [HE.out] at h2
  have C2 := Lib.hid h2
  clear h2
  have hb01 := ext_trans hb0 hb1
  clear hP hb0 hb1 ht0 c0 c1 c2 c3 c4 c5 c6
  cases b1
  · go_wp2
    go_ret
    exact ⟨rfl, hb01⟩
  go_wp2_with fail
  refine C2.out.mono ?_; rintro e W2 ⟨rfl, hb2⟩
  go_wp2
  go_ret
  exact ⟨ret_congr (by simp), ext_trans hb01 hb2⟩
end Go.Proofs.Ytbpmfaibcibleaa
