/- Walks: Right, Loadable, CheckLorry. (Printed by mk_waf.py.) -/
import Derived.Test.YtbpmfaibcibleaaWaE
namespace Go.Wg
open Go.Pl
def rightE (j : Lo) (ts : List Th) (p : List (List Int)) : Bool := decide (checkE j ts = 0) && rightB j ts p
/-- numbers rise (or stay) -/
def Rises (l : List Int) : Prop := l.Pairwise fun a b => a ≤ b
instance (l : List Int) : Decidable (Rises l) := inferInstanceAs (Decidable (List.Pairwise _ l))
theorem rises_of_step : ∀ (l : List Int), (∀ i (h : i + 1 < l.length), l[i] ≤ l[i + 1]) → Rises l
  | [], _ => List.Pairwise.nil
  | [a], _ => List.pairwise_singleton _ _
  | a :: b :: r, h => by
    have ih : Rises (b :: r) := rises_of_step (b :: r) fun i hi => by
      have := h (i + 1) (by simp at hi ⊢; omega)
      simpa using this
    have h0 : a ≤ b := h 0 (by simp)
    refine List.pairwise_cons.2 ⟨fun y hy => ?_, ih⟩
    rcases List.mem_cons.1 hy with rfl | hy
    · exact h0
    · exact Int.le_trans h0 ((List.pairwise_cons.1 ih).1 y hy)
theorem rises_step {l : List Int} (h : Rises l) {i : Nat} (hi : i + 1 < l.length) : l[i] ≤ l[i + 1] := List.pairwise_iff_getElem.1 h i (i + 1) (by omega) hi (by omega)
def loadB (p : List (List Int)) : Bool := p.all fun l => decide (Rises l)
def loadE (j : Lo) (ts : List Th) (p : List (List Int)) : Bool := rightE j ts p && loadB p
end Go.Wg
namespace Go.Proofs.Ytbpmfaibcibleaa
open Go.RowKit Go.Bs Go.Wg Go.Pl Go.Sort
set_option maxHeartbeats 1000000 in
theorem Right_any (v : JbV) (ts : List Th) (A : Option Addr) (n c : Nat) (rs : List RwV) (w : World) (hsl : v.x.l.lanes.length ≤ 9223372036854775807) (hst : ts.length ≤ 9223372036854775807) (hl : Cells w v.x.A 1 Go.Bs.encI v.x.l.lanes) (ht : Cells w v.T 4 Th.enc ts) (hn : rs.length = n) (hm : n ≤ 1000000) (hM : RwM w A rs) (hf : (rows rs).flatten.length ≤ 1000000) :
    Calls Try.prog 35 #[LoV.val v.x, .slice v.T ts.length v.cT, .slice A n c] w fun e w' => e = .returned (.bool (rightE v.x.l ts (rows rs))) ∧ Below w.heap.size w w' := by
  have Hf := Lib.hid hf
  have Hn := Lib.hid hn
  have C1 := Lib.hid (fun V (hV : Below w.heap.size w V) => check_any v ts V hsl hst (hl.ext hV) (ht.ext hV))
  have C2 := Lib.hid (fun V (hV : Below w.heap.size w V) (h0 : checkE v.x.l ts = 0) => by
    obtain ⟨h1, h2, h3⟩ := checkE_zero.1 h0
    exact right_any v ts A n c rs V ⟨hl.ext hV, ht.ext hV, by have := h1.many; omega, by omega⟩ h3 h1 h2 hn hm (hM.ext hV) hf)
  generalize hres : rightE v.x.l ts (rows rs) = res
  unfold rightE at hres
  have Hres := Lib.hid hres
  clear hres hf hn hM
  have hb0 := ext_alloc w (.cells (LoV.enc v.x).toArray 44)
  have hP := Blk.new w 44 (LoV.enc v.x)
  have hl0 := hl.ext hb0
  have ht0 := ht.ext hb0
  clear hl ht
  unfold LoV.val
  unfold LoV.enc at *
  go_enter Try.func35, Try.ntmps35
  go_upto_region 1 with fail
  change Blk (w.alloc (.cells #[.slice v.x.A v.x.l.lanes.length v.x.c, .int .i64 v.x.l.height, .int .i64 v.x.l.carries, .int .i64 v.x.l.empty, .int .i64 v.x.l.rear, .int .i64 v.x.l.axle, .int .i64 v.x.l.deck] 44)) _ _ _ at hP
  change Below w.heap.size w (w.alloc (.cells #[.slice v.x.A v.x.l.lanes.length v.x.c, .int .i64 v.x.l.height, .int .i64 v.x.l.carries, .int .i64 v.x.l.empty, .int .i64 v.x.l.rear, .int .i64 v.x.l.axle, .int .i64 v.x.l.deck] 44)) at hb0
  change Cells (w.alloc (.cells #[.slice v.x.A v.x.l.lanes.length v.x.c, .int .i64 v.x.l.height, .int .i64 v.x.l.carries, .int .i64 v.x.l.empty, .int .i64 v.x.l.rear, .int .i64 v.x.l.axle, .int .i64 v.x.l.deck] 44)) _ _ _ _ at hl0
  change Cells (w.alloc (.cells #[.slice v.x.A v.x.l.lanes.length v.x.c, .int .i64 v.x.l.height, .int .i64 v.x.l.carries, .int .i64 v.x.l.empty, .int .i64 v.x.l.rear, .int .i64 v.x.l.axle, .int .i64 v.x.l.deck] 44)) _ _ _ _ at ht0
  generalize w.alloc (.cells #[.slice v.x.A v.x.l.lanes.length v.x.c, .int .i64 v.x.l.height, .int .i64 v.x.l.carries, .int .i64 v.x.l.empty, .int .i64 v.x.l.rear, .int .i64 v.x.l.axle, .int .i64 v.x.l.deck] 44) = W0 at *
  have q0 : W0.cell? ⟨w.heap.size, 0, none⟩ = _ := (hP).cell rfl
  have q1 : W0.cell? ⟨w.heap.size, 1, none⟩ = _ := (hP).cell rfl
  have q2 : W0.cell? ⟨w.heap.size, 2, none⟩ = _ := (hP).cell rfl
  have q3 : W0.cell? ⟨w.heap.size, 3, none⟩ = _ := (hP).cell rfl
  have q4 : W0.cell? ⟨w.heap.size, 4, none⟩ = _ := (hP).cell rfl
  have q5 : W0.cell? ⟨w.heap.size, 5, none⟩ = _ := (hP).cell rfl
  have q6 : W0.cell? ⟨w.heap.size, 6, none⟩ = _ := (hP).cell rfl
  have D1 := Lib.hid (C1.out W0 hb0)
  unfold LoV.val at D1
  generalize hce : checkE v.x.l ts = ce at *
  have Hce := Lib.hid hce
  clear hce
  go_wp2_with fail
  refine D1.out.mono ?_; rintro e W1 ⟨rfl, hx1⟩
  have hb1 := ext_trans hb0 hx1
  have hP1 := hP.ext hx1
  clear q0 q1 q2 q3 q4 q5 q6
  clear D1 hb0 hP hl0 ht0 hx1
  have q0 : W1.cell? ⟨w.heap.size, 0, none⟩ = _ := (hP1).cell rfl
  have q1 : W1.cell? ⟨w.heap.size, 1, none⟩ = _ := (hP1).cell rfl
  have q2 : W1.cell? ⟨w.heap.size, 2, none⟩ = _ := (hP1).cell rfl
  have q3 : W1.cell? ⟨w.heap.size, 3, none⟩ = _ := (hP1).cell rfl
  have q4 : W1.cell? ⟨w.heap.size, 4, none⟩ = _ := (hP1).cell rfl
  have q5 : W1.cell? ⟨w.heap.size, 5, none⟩ = _ := (hP1).cell rfl
  have q6 : W1.cell? ⟨w.heap.size, 6, none⟩ = _ := (hP1).cell rfl
  by_cases h0 : ce = 0
  · subst h0
    have D2 := Lib.hid (C2.out W1 hb1 rfl)
    unfold JbV.val at D2
    have Hr := Lib.hid (show rightB v.x.l ts (rows rs) = res by rw [← Hres.out]; simp)
    rw [Hr.out] at D2
    have h00 : ((0 : Int) == 0) = true := rfl
    go_wp2_with fail
    refine D2.out.mono ?_; rintro e W2 ⟨rfl, hx2⟩
    go_wp2
    go_ret
    exact ⟨rfl, ext_trans hb1 hx2⟩
  · have h00 : (ce == 0) = false := by simpa using h0
    have Hr := Lib.hid (show res = false by rw [← Hres.out, decide_eq_false h0]; rfl)
    clear h0
    go_wp2
    go_ret
    exact ⟨ret_congr (bool_congr Hr.out.symm), hb1⟩
theorem Less_any (a b : Int) (w : World) : Calls Try.prog 101 #[.int .i64 a, .int .i64 b] w fun e w' => e = .returned (.bool (decide (a < b))) ∧ w = w' := by
  generalize hres : decide (a < b) = res
  have Hres := Lib.hid hres
  clear hres
  by_cases h : a < b
  · have Hr := Lib.hid (show res = true by rw [← Hres.out]; simpa using h)
    go_enter Try.func101, Try.ntmps101
    go_wp2
    go_ret
    exact ⟨ret_congr (bool_congr (by rw [Hr.out])), rfl⟩
  · have Hr := Lib.hid (show res = false by rw [← Hres.out]; simpa using h)
    go_enter Try.func101, Try.ntmps101
    go_wp2
    go_ret
    exact ⟨ret_congr (bool_congr (by rw [Hr.out])), rfl⟩
set_option maxRecDepth 100000 in
set_option maxHeartbeats 1000000 in
theorem isSorted_any (A : Option Addr) (n c : Nat) (l : List Int) (w : World) (hn : l.length = n) (hm : n ≤ 1000000) (hc : Cells w A 1 Go.Bs.encI l) :
    Calls Try.prog 75 #[.slice A n c] w fun e w' => e = .returned (.bool (decide (Rises l))) ∧ Below w.heap.size w w' := by
  have Hn := Lib.hid hn
  generalize hres : decide (Rises l) = res
  have Hres := Lib.hid hres
  clear hres hn
  go_enter Try.func75, Try.ntmps75
  go_wp2
  go_loopw [3] (fun t wr => ∃ x : Int, t = .int .i64 x ∧ -1 ≤ x ∧ x ≤ (n : Int) - 1 ∧ Hid (∀ k (h : k + 1 < l.length), x ≤ (k : Int) → l[k] ≤ l[k + 1]) ∧ Below w.heap.size w wr) (fun t _ => (intOf t + 1).toNat)
  case atStart => exact ⟨_, rfl, by omega, by omega, Lib.hid (fun k h hk => by rw [Hn.out] at h; omega), Below.refl _ _⟩
  case round =>
    obtain ⟨x, rfl, h1, h2, HK, hb⟩ := hrel
    by_cases hlt : 0 < x
    · obtain ⟨q, rfl⟩ : ∃ q : Nat, x = ((q + 1 : Nat) : Int) := ⟨(x - 1).toNat, by omega⟩
      have hq1 : q + 1 < l.length := by rw [Hn.out]; omega
      have hq0 : q < l.length := by omega
      obtain ⟨b, off, rfl, -, c1⟩ := (hc.ext hb).at1 hq1 rfl
      obtain ⟨b2, off2, eA, -, c0⟩ := (hc.ext hb).at1 hq0 rfl
      cases eA
      have Hx := Lib.hid (fun (h : ((q : Nat) : Int) ≤ (q : Int)) => (rfl : l[q] = l[q]))
      have C1 := Lib.hid (fun V => Less_any l[q + 1] l[q] V)
      have k1 : ((q + 1 : Nat) : Int) < n := by omega
      have k0 : (q : Int) < n := by omega
      have k2 : (0 : Int) < ((q + 1 : Nat) : Int) := by omega
      have k3 : 0 < q + 1 := by omega
      have hb1 := hb.drew
      have g : ∀ (a : Addr) (v : Value), wr.cell? a = some v → wr.drew.cell? a = some v := fun _ _ h => h
      have HS := Lib.hid (show ∀ k (h : k + 1 < l.length), l[q + 1] < l[q] ∨ ((q : Int) ≤ (k : Int) → l[k] ≤ l[k + 1]) from fun k h => by
        rcases Int.lt_or_le l[q + 1] l[q] with h3 | h3
        · exact .inl h3
        · refine .inr fun h4 => ?_
          by_cases e : k = q
          · subst e; exact h3
          · exact HK.out k h (by omega))
      have HR := Lib.hid (show l[q + 1] < l[q] → res = false from fun h => by
        rw [← Hres.out]
        exact decide_eq_false fun hr => by have := rises_step hr hq1; omega)
      clear Hx HK hlt
      generalize l[q + 1] = a1 at *
      generalize l[q] = a0 at *
      go_upto_region 4 with fail
      refine Dr.wp_region_plan 10 [] (.q [0, 1, 2, 3, 4, 5, 6, 7, 8] (.e1 9 .done)) (by kernel_rfl) (by kernel_rfl) ?_
      have q1 := Dr.cell0 (g _ _ c0)
      have q2 := Dr.cell0 (g _ _ c1)
      clear g c0 c1 hb
      generalize World.drew _ = W1 at *
      refine Dr.plan_q (l := [_, _, _, _, _, _, _, _, _]) rfl (fun K hK => ?_)
      iterate 9 (go_big_quiet_step (fail))
      refine wpQuiet_nil (hK _ ?_); clear hK K
      clear q1 q2
      by_cases hl : a1 < a0
      · have Hr := Lib.hid (HR.out hl)
        have hd := C1.out W1
        rw [decide_eq_true hl] at hd
        have D := Lib.hid hd
        clear hd hl
        refine Dr.plan_e rfl (by rfl) (fun K hK => ?_)
        go_wp2_with fail
        refine (D.out).mono ?_; rintro e W2 ⟨rfl, rfl⟩
        refine hK _ _ (.refl _ _) ?_; clear hK K
        refine Dr.plan_end rfl ?_
        go_wp2
        go_ret
        exact ⟨ret_congr (bool_congr Hr.out.symm), hb1⟩
      · have HK2 := Lib.hid (show ∀ k (h : k + 1 < l.length), (q : Int) ≤ (k : Int) → l[k] ≤ l[k + 1] from fun k h => (HS.out k h).resolve_left hl)
        have hd := C1.out W1
        rw [decide_eq_false hl] at hd
        have D := Lib.hid hd
        clear hd hl
        refine Dr.plan_e rfl (by rfl) (fun K hK => ?_)
        go_wp2_with fail
        refine (D.out).mono ?_; rintro e W2 ⟨rfl, rfl⟩
        refine hK _ _ (.refl _ _) ?_; clear hK K
        refine Dr.plan_end rfl ?_
        go_wp2
        go_roundw
        case rel => exact ⟨q, by go_num, by omega, by omega, HK2, hb1⟩
        case measure => simp [intOf]; omega
    · have Hr := Lib.hid (show res = true by
        rw [← Hres.out]
        exact decide_eq_true (rises_of_step l fun i hi => HK.out i hi (by omega)))
      go_wp2
      go_ret
      exact ⟨ret_congr (bool_congr Hr.out.symm), hb⟩
theorem rises_ok (l : List RwV) (w : World) (h : ∀ x ∈ l, x.r.length ≤ 1000000 ∧ Cells w x.A 1 Go.Bs.encI x.r) : PredF Try.prog 74 #[] #[] RwV.val (fun x => decide (Rises x.r)) w l := by
  intro W x hx hb
  have C1 := Lib.hid (isSorted_any x.A x.r.length x.c x.r W rfl (h x hx).1 ((h x hx).2.ext hb))
  show Calls Try.prog 74 #[.slice x.A x.r.length x.c] W fun e w' => e = .returned (.bool (decide (Rises x.r))) ∧ Below W.heap.size W w'
  generalize decide (Rises x.r) = b1 at *
  generalize x.r.length = m at *
  clear hx hb h
  go_enter Try.func74, Try.ntmps74
  go_wp2_with fail
  refine C1.out.mono ?_; rintro e w1 ⟨rfl, hb1⟩
  go_wp2
  go_ret
  exact ⟨rfl, hb1⟩
set_option maxHeartbeats 1000000 in
theorem Loadable_any (v : JbV) (ts : List Th) (A : Option Addr) (n c : Nat) (rs : List RwV) (w : World) (hsl : v.x.l.lanes.length ≤ 9223372036854775807) (hst : ts.length ≤ 9223372036854775807) (hl : Cells w v.x.A 1 Go.Bs.encI v.x.l.lanes) (ht : Cells w v.T 4 Th.enc ts) (hn : rs.length = n) (hm : n ≤ 1000000) (hM : RwM w A rs) (hf : (rows rs).flatten.length ≤ 1000000) :
    Calls Try.prog 39 #[LoV.val v.x, .slice v.T ts.length v.cT, .slice A n c] w fun e w' => e = .returned (.bool (loadE v.x.l ts (rows rs))) ∧ Below w.heap.size w w' := by
  have hlen : ∀ x ∈ rs, x.r.length ≤ 1000000 := fun x hx => by
    have h := (List.sublist_flatten_of_mem (List.mem_map.2 ⟨x, hx, rfl⟩ : x.r ∈ rows rs)).length_le
    change _ ≤ (rows rs).flatten.length at h
    omega
  have C1 := Lib.hid (fun V (hV : Below w.heap.size w V) => Right_any v ts A n c rs V hsl hst (hl.ext hV) (ht.ext hV) hn hm (hM.ext hV) hf)
  have C2 := Lib.hid (fun V (hV : Below w.heap.size w V) => all_row 74 #[] #[] (fun x => decide (Rises x.r)) A n c rs V (enters_of Try.func74 (by kernel_rfl) rfl) hn (by omega) (hM.ext hV).hdr (rises_ok rs V fun x hx => ⟨hlen x hx, (hM.ext hV).row x hx⟩))
  generalize hres : loadE v.x.l ts (rows rs) = res
  have hld : loadB (rows rs) = rs.all fun x => decide (Rises x.r) := by simp [loadB, rows]; rfl
  unfold loadE at hres
  rw [hld] at hres
  have Hres := Lib.hid hres
  clear hres hf hn hM hlen hld
  have hb0 := ext_alloc w (.cells (LoV.enc v.x).toArray 44)
  have hP := Blk.new w 44 (LoV.enc v.x)
  have hl0 := hl.ext hb0
  have ht0 := ht.ext hb0
  clear hl ht
  unfold LoV.val
  unfold LoV.enc at *
  go_enter Try.func39, Try.ntmps39
  go_upto_region 1 with fail
  change Blk (w.alloc (.cells #[.slice v.x.A v.x.l.lanes.length v.x.c, .int .i64 v.x.l.height, .int .i64 v.x.l.carries, .int .i64 v.x.l.empty, .int .i64 v.x.l.rear, .int .i64 v.x.l.axle, .int .i64 v.x.l.deck] 44)) _ _ _ at hP
  change Below w.heap.size w (w.alloc (.cells #[.slice v.x.A v.x.l.lanes.length v.x.c, .int .i64 v.x.l.height, .int .i64 v.x.l.carries, .int .i64 v.x.l.empty, .int .i64 v.x.l.rear, .int .i64 v.x.l.axle, .int .i64 v.x.l.deck] 44)) at hb0
  change Cells (w.alloc (.cells #[.slice v.x.A v.x.l.lanes.length v.x.c, .int .i64 v.x.l.height, .int .i64 v.x.l.carries, .int .i64 v.x.l.empty, .int .i64 v.x.l.rear, .int .i64 v.x.l.axle, .int .i64 v.x.l.deck] 44)) _ _ _ _ at hl0
  change Cells (w.alloc (.cells #[.slice v.x.A v.x.l.lanes.length v.x.c, .int .i64 v.x.l.height, .int .i64 v.x.l.carries, .int .i64 v.x.l.empty, .int .i64 v.x.l.rear, .int .i64 v.x.l.axle, .int .i64 v.x.l.deck] 44)) _ _ _ _ at ht0
  generalize w.alloc (.cells #[.slice v.x.A v.x.l.lanes.length v.x.c, .int .i64 v.x.l.height, .int .i64 v.x.l.carries, .int .i64 v.x.l.empty, .int .i64 v.x.l.rear, .int .i64 v.x.l.axle, .int .i64 v.x.l.deck] 44) = W0 at *
  have q0 : W0.cell? ⟨w.heap.size, 0, none⟩ = _ := (hP).cell rfl
  have q1 : W0.cell? ⟨w.heap.size, 1, none⟩ = _ := (hP).cell rfl
  have q2 : W0.cell? ⟨w.heap.size, 2, none⟩ = _ := (hP).cell rfl
  have q3 : W0.cell? ⟨w.heap.size, 3, none⟩ = _ := (hP).cell rfl
  have q4 : W0.cell? ⟨w.heap.size, 4, none⟩ = _ := (hP).cell rfl
  have q5 : W0.cell? ⟨w.heap.size, 5, none⟩ = _ := (hP).cell rfl
  have q6 : W0.cell? ⟨w.heap.size, 6, none⟩ = _ := (hP).cell rfl
  have D1 := Lib.hid (C1.out W0 hb0)
  unfold LoV.val at D1
  generalize hce : rightE v.x.l ts (rows rs) = b1 at *
  clear hce
  go_wp2_with fail
  refine D1.out.mono ?_; rintro e W1 ⟨rfl, hx1⟩
  have hb1 := ext_trans hb0 hx1
  clear q0 q1 q2 q3 q4 q5 q6
  clear D1 hb0 hP hl0 ht0 hx1
  cases b1
  · have Hr := Lib.hid (show res = false by rw [← Hres.out]; rfl)
    go_wp2
    go_ret
    exact ⟨ret_congr (bool_congr Hr.out.symm), hb1⟩
  · have D2 := Lib.hid (C2.out W1 hb1)
    have Hr := Lib.hid (show (rs.all fun x => decide (Rises x.r)) = res by rw [← Hres.out]; simp)
    rw [Hr.out] at D2
    go_wp2_with fail
    refine D2.out.mono ?_; rintro e W2 ⟨rfl, hx2⟩
    go_wp2
    go_ret
    exact ⟨rfl, ext_trans hb1 hx2⟩
theorem CheckLorry_any (x : LoV) (w : World) (hm : x.l.lanes.length ≤ 9223372036854775807) (hc : Cells w x.A 1 Go.Bs.encI x.l.lanes) : Calls Try.prog 50 #[LoV.val x] w fun e w' => e = .returned (.int .i64 (if x.l.okB then 0 else 1)) ∧ Below w.heap.size w w' := by
  have hb0 := ext_alloc w (.cells (LoV.enc x).toArray 44)
  have hP := Blk.new w 44 (LoV.enc x)
  have C1 := Lib.hid (fun V (hV : Below w.heap.size w V) => lovalid_any x V hm (hc.ext hV))
  unfold LoV.val at *
  unfold LoV.enc at *
  generalize x.l.okB = b1 at *
  clear hc
  go_enter Try.func50, Try.ntmps50
  go_upto_region 1 with fail
  change Blk (w.alloc (.cells #[.slice x.A x.l.lanes.length x.c, .int .i64 x.l.height, .int .i64 x.l.carries, .int .i64 x.l.empty, .int .i64 x.l.rear, .int .i64 x.l.axle, .int .i64 x.l.deck] 44)) _ _ _ at hP
  change Below w.heap.size w (w.alloc (.cells #[.slice x.A x.l.lanes.length x.c, .int .i64 x.l.height, .int .i64 x.l.carries, .int .i64 x.l.empty, .int .i64 x.l.rear, .int .i64 x.l.axle, .int .i64 x.l.deck] 44)) at hb0
  generalize w.alloc (.cells #[.slice x.A x.l.lanes.length x.c, .int .i64 x.l.height, .int .i64 x.l.carries, .int .i64 x.l.empty, .int .i64 x.l.rear, .int .i64 x.l.axle, .int .i64 x.l.deck] 44) = W0 at *
  have q0 : W0.cell? ⟨w.heap.size, 0, none⟩ = _ := (hP).cell rfl
  have q1 : W0.cell? ⟨w.heap.size, 1, none⟩ = _ := (hP).cell rfl
  have q2 : W0.cell? ⟨w.heap.size, 2, none⟩ = _ := (hP).cell rfl
  have q3 : W0.cell? ⟨w.heap.size, 3, none⟩ = _ := (hP).cell rfl
  have q4 : W0.cell? ⟨w.heap.size, 4, none⟩ = _ := (hP).cell rfl
  have q5 : W0.cell? ⟨w.heap.size, 5, none⟩ = _ := (hP).cell rfl
  have q6 : W0.cell? ⟨w.heap.size, 6, none⟩ = _ := (hP).cell rfl
  have D1 := Lib.hid (C1.out W0 hb0)
  go_wp2_with fail
  refine D1.out.mono ?_; rintro e W1 ⟨rfl, hx1⟩
  have hb1 := ext_trans hb0 hx1
  clear q0 q1 q2 q3 q4 q5 q6
  clear D1 hb0 hP hx1
  cases b1
  · go_wp2
    go_ret
    exact ⟨rfl, hb1⟩
  · go_wp2
    go_ret
    exact ⟨rfl, hb1⟩
end Go.Proofs.Ytbpmfaibcibleaa
