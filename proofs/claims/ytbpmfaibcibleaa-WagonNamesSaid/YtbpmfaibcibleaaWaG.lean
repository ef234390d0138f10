/- Walks: what both axles bear. (Printed by mk_wagx.py.) -/
import Derived.Test.YtbpmfaibcibleaaWaF
namespace Go.Wg
open Go.Pl
theorem srtL_sorted (l : List Int) : (srtL l).Pairwise fun a b => a ≤ b :=
  (List.pairwise_mergeSort (le := fun x y : Int => decide (x ≤ y)) (by intro a b c; simp only [decide_eq_true_eq]; omega) (by intro a b; simp only [Bool.or_eq_true, decide_eq_true_eq]; omega) l).imp fun h => of_decide_eq_true h
theorem srtL_eq {l s : List Int} (h : l.Perm s) (hs : s.Pairwise fun a b => a ≤ b) : srtL l = s :=
  List.Perm.eq_of_pairwise (le := fun a b => a ≤ b) (fun a b _ _ h1 h2 => by omega) (srtL_sorted l) hs ((srtL_perm l).trans h)
/-- what is right holds each thing once -/
structure RightP (j : Lo) (ts : List Th) (p : List (List Int)) : Prop where
  many : p.length = j.lanes.length
  perm : p.flatten.Perm (upto ts.length)
  inR : ∀ l ∈ p, InR ts.length l ∧ l.length ≤ ts.length
  lane : ∀ i, i < p.length → laneB ts (j.lanes.getD i 0) (p.getD i []) = true
  car : carB j ts (upto ts.length) = true
theorem right_iff {j : Lo} {ts : List Th} {p : List (List Int)} : rightB j ts p = true ↔ RightP j ts p := by
  constructor
  · intro h
    unfold rightB wholeB at h
    simp only [Bool.and_eq_true, decide_eq_true_eq] at h
    obtain ⟨⟨⟨h1, h2⟩, h3⟩, h4⟩ := h
    have hp : p.flatten.Perm (upto ts.length) := by rw [← h2]; exact (srtL_perm _).symm
    refine ⟨h1, hp, fun l hl => ?_, (zip_all h1).1 h3, h4⟩
    have hs := List.sublist_flatten_of_mem hl
    refine ⟨fun x hx => mem_upto.1 (hp.mem_iff.1 (hs.subset hx)), ?_⟩
    have h5 := hs.length_le
    rw [hp.length_eq, upto_len] at h5
    exact h5
  · intro h
    unfold rightB wholeB
    have h2 : srtL p.flatten = upto ts.length := by
      refine srtL_eq h.perm ?_
      unfold upto
      rw [List.pairwise_map]
      exact List.pairwise_lt_range.imp fun h => by simp; omega
    rw [decide_eq_true h.many, decide_eq_true h2, (zip_all h.many).2 h.lane, h.car]; rfl
def momR (ts : List Th) : List Int → Int → Int
  | [], _ => 0
  | x :: r, a => (thAt ts x).mass * (2 * a + (thAt ts x).long) + momR ts r (a + (thAt ts x).long)
theorem momR_snoc (ts : List Th) (x : Int) : ∀ (l : List Int) (a : Int), momR ts (l ++ [x]) a = momR ts l a + (thAt ts x).mass * (2 * (a + longL ts l) + (thAt ts x).long)
  | [], a => by simp [momR, longL, isum]
  | y :: l, a => by
    show (thAt ts y).mass * (2 * a + (thAt ts y).long) + momR ts (l ++ [x]) (a + (thAt ts y).long) = (thAt ts y).mass * (2 * a + (thAt ts y).long) + momR ts l (a + (thAt ts y).long) + _
    rw [momR_snoc ts x l, show longL ts (y :: l) = (thAt ts y).long + longL ts l from rfl, Int.add_assoc a, Int.add_assoc]
theorem momR_bd {ts : List Th} (hok : ∀ t ∈ ts, t.Ok) : ∀ (l : List Int) (a : Int), InR ts.length l → 0 ≤ a → a + 2000 * l.length ≤ 28000 → 0 ≤ momR ts l a ∧ momR ts l a ≤ l.length * 5600000000
  | [], a, _, _, _ => by simp [momR]
  | x :: l, a, h, h0, h1 => by
    have h2 := h x (by simp)
    have h3 := hok _ (thAt_mem h2.1 h2.2)
    have hlo := h3.long
    have hma := h3.mass
    simp only [List.length_cons] at h1 ⊢
    have ih := momR_bd hok l (a + (thAt ts x).long) (fun y hy => h y (by simp [hy])) (by omega) (by omega)
    have hp := mul_bd hma.1 hma.2 (show 0 ≤ 2 * a + (thAt ts x).long by omega) (show 2 * a + (thAt ts x).long ≤ 56000 by omega)
    show 0 ≤ (thAt ts x).mass * (2 * a + (thAt ts x).long) + momR ts l (a + (thAt ts x).long) ∧ (thAt ts x).mass * (2 * a + (thAt ts x).long) + momR ts l (a + (thAt ts x).long) ≤ _
    generalize (thAt ts x).mass * (2 * a + (thAt ts x).long) = m at *
    omega
def momL (ts : List Th) (p : List (List Int)) : Int := isum (p.map fun l => momR ts l 0)
theorem momL_snoc (ts : List Th) (p : List (List Int)) (l : List Int) : momL ts (p ++ [l]) = momL ts p + momR ts l 0 := by
  unfold momL
  rw [List.map_append, isum_append]; simp [isum]
theorem momL_bd {ts : List Th} (hok : ∀ t ∈ ts, t.Ok) (h14 : ts.length ≤ 14) {p : List (List Int)} (h : ∀ l ∈ p, InR ts.length l ∧ l.length ≤ ts.length) : 0 ≤ momL ts p ∧ momL ts p ≤ p.length * 100000000000 :=
  isum_map_bd _ _ _ fun l hl => by
    have h2 := (h l hl).2
    have := momR_bd hok l 0 (h l hl).1 (by omega) (by omega)
    omega
def axRear (j : Lo) (ts : List Th) (p : List (List Int)) : Int := (momL ts p + j.rear - 1) / j.rear + (j.empty + 1) / 2
def axFront (j : Lo) (ts : List Th) (p : List (List Int)) : Int := j.empty + massL ts p.flatten - axRear j ts p
def holdsB (j : Lo) (front rear : Int) : Bool := decide (rear ≤ j.axle) && btw front 0 j.axle
/-- what Axles returns -/
def axVal (j : Lo) (ts : List Th) (p : List (List Int)) : Int × Int × Bool × Int :=
  if checkE j ts ≠ 0 then (0, 0, false, checkE j ts) else if rightB j ts p = false then (0, 0, false, 9) else (axFront j ts p, axRear j ts p, holdsB j (axFront j ts p) (axRear j ts p), 0)
end Go.Wg
namespace Go.Proofs.Ytbpmfaibcibleaa
open Go.RowKit Go.Bs Go.Wg Go.Pl Go.Sort
theorem middle_any (a b c d m : Int) (w : World) (ha : 0 ≤ a ∧ a ≤ 2000) (hm : 0 ≤ m ∧ m ≤ 1000000) :
    Calls Try.prog 70 #[.agg #[.int .i64 a, .int .i64 b, .int .i64 c, .int .i64 d], .int .i64 m] w fun e w' => e = .returned (.int .i64 (2 * m + a)) ∧ Below w.heap.size w w' := by
  have hb0 := ext_alloc w (.cells #[.int .i64 a, .int .i64 b, .int .i64 c, .int .i64 d] 102)
  go_enter Try.func70, Try.ntmps70
  go_wp2
  go_ret
  exact ⟨rfl, hb0⟩
set_option maxRecDepth 100000 in
set_option maxHeartbeats 4000000 in
theorem Axles_any (v : JbV) (ts : List Th) (A : Option Addr) (n c : Nat) (rs : List RwV) (w : World) (hsl : v.x.l.lanes.length ≤ 9223372036854775807) (hst : ts.length ≤ 9223372036854775807) (hl : Cells w v.x.A 1 Go.Bs.encI v.x.l.lanes) (ht : Cells w v.T 4 Th.enc ts) (hn : rs.length = n) (hm : n ≤ 1000000) (hM : RwM w A rs) (hf : (rows rs).flatten.length ≤ 1000000) :
    Calls Try.prog 37 #[LoV.val v.x, .slice v.T ts.length v.cT, .slice A n c] w fun e w' => e = .returned (.tuple #[.int .i64 (axVal v.x.l ts (rows rs)).1, .int .i64 (axVal v.x.l ts (rows rs)).2.1, .bool (axVal v.x.l ts (rows rs)).2.2.1, .int .i64 (axVal v.x.l ts (rows rs)).2.2.2]) ∧ Below w.heap.size w w' := by
  have Hf := Lib.hid hf
  have Hn := Lib.hid hn
  have HM := Lib.hid hM
  have C1 := Lib.hid (fun V (hV : Below w.heap.size w V) => check_any v ts V hsl hst (hl.ext hV) (ht.ext hV))
  have C2 := Lib.hid (fun V (hV : Below w.heap.size w V) (h0 : checkE v.x.l ts = 0) => by
    obtain ⟨h1, h2, h3⟩ := checkE_zero.1 h0
    exact right_any v ts A n c rs V ⟨hl.ext hV, ht.ext hV, by have := h1.many; omega, by omega⟩ h3 h1 h2 hn hm (hM.ext hV) hf)
  generalize hres : axVal v.x.l ts (rows rs) = res
  unfold axVal at hres
  have Hres := Lib.hid hres
  have HT := Lib.hid ht
  have HL := Lib.hid hl
  clear hres hf hn hM
  have hb0 := ext_alloc w (.cells (LoV.enc v.x).toArray 44)
  have hP := Blk.new w 44 (LoV.enc v.x)
  have hl0 := hl.ext hb0
  have ht0 := ht.ext hb0
  clear hl ht
  unfold LoV.val
  unfold LoV.enc at *
  go_enter Try.func37, Try.ntmps37
  go_upto_region 1 with fail
  change Blk (w.alloc (.cells #[.slice v.x.A v.x.l.lanes.length v.x.c, .int .i64 v.x.l.height, .int .i64 v.x.l.carries, .int .i64 v.x.l.empty, .int .i64 v.x.l.rear, .int .i64 v.x.l.axle, .int .i64 v.x.l.deck] 44)) _ _ _ at hP
  change Below w.heap.size w (w.alloc (.cells #[.slice v.x.A v.x.l.lanes.length v.x.c, .int .i64 v.x.l.height, .int .i64 v.x.l.carries, .int .i64 v.x.l.empty, .int .i64 v.x.l.rear, .int .i64 v.x.l.axle, .int .i64 v.x.l.deck] 44)) at hb0
  change Cells (w.alloc (.cells #[.slice v.x.A v.x.l.lanes.length v.x.c, .int .i64 v.x.l.height, .int .i64 v.x.l.carries, .int .i64 v.x.l.empty, .int .i64 v.x.l.rear, .int .i64 v.x.l.axle, .int .i64 v.x.l.deck] 44)) _ _ _ _ at hl0
  change Cells (w.alloc (.cells #[.slice v.x.A v.x.l.lanes.length v.x.c, .int .i64 v.x.l.height, .int .i64 v.x.l.carries, .int .i64 v.x.l.empty, .int .i64 v.x.l.rear, .int .i64 v.x.l.axle, .int .i64 v.x.l.deck] 44)) _ _ _ _ at ht0
  generalize w.alloc (.cells #[.slice v.x.A v.x.l.lanes.length v.x.c, .int .i64 v.x.l.height, .int .i64 v.x.l.carries, .int .i64 v.x.l.empty, .int .i64 v.x.l.rear, .int .i64 v.x.l.axle, .int .i64 v.x.l.deck] 44) = W0 at *
  have q0 : W0.cell? ⟨w.heap.size, 0, none⟩ = _ := (hP).cell rfl
  have q1 : W0.cell? ⟨w.heap.size, 1, none⟩ = _ := (hP).cell rfl
  have q2 : W0.cell? ⟨w.heap.size, 2, none⟩ = _ := (hP).cell rfl
  have q3 : W0.cell? ⟨w.heap.size, 3, none⟩ = _ := (hP).cell rfl
  have q4 : W0.cell? ⟨w.heap.size, 4, none⟩ = _ := (hP).cell rfl
  have q5 : W0.cell? ⟨w.heap.size, 5, none⟩ = _ := (hP).cell rfl
  have q6 : W0.cell? ⟨w.heap.size, 6, none⟩ = _ := (hP).cell rfl
  have D1 := Lib.hid (C1.out W0 hb0)
  unfold LoV.val at D1
  generalize hce : checkE v.x.l ts = ce at *
  have Hce := Lib.hid hce
  clear hce
  go_wp2_with fail
  refine D1.out.mono ?_; rintro e W1 ⟨rfl, hx1⟩
  have hb1 := ext_trans hb0 hx1
  have hP1 := hP.ext hx1
  clear q0 q1 q2 q3 q4 q5 q6
  clear D1 hb0 hP hl0 ht0 hx1
  by_cases h0 : ce = 0
  case neg =>
    have h00 : (ce != 0) = true := by rw [bne_iff_ne]; exact h0
    have Hr := Lib.hid (show res = (0, 0, false, ce) by rw [← Hres.out, if_pos h0])
    clear h0
    go_wp2
    refine bodyPost_ret (res4 rfl _ _ _) rfl ?_
    exact ⟨by rw [Hr.out]; rfl, hb1⟩
  case pos =>
  subst h0
  have h00 : ((0 : Int) != 0) = false := rfl
  go_upto_region 4 with fail
  have hJ := Blk.new W1 108 (JbV.enc v ts)
  have hx2 := ext_alloc W1 (.cells (JbV.enc v ts).toArray 108)
  unfold JbV.enc at hJ hx2
  have q0 : W1.cell? ⟨w.heap.size, 0, none⟩ = _ := (hP1).cell rfl
  have q1 : W1.cell? ⟨w.heap.size, 1, none⟩ = _ := (hP1).cell rfl
  have q2 : W1.cell? ⟨w.heap.size, 2, none⟩ = _ := (hP1).cell rfl
  have q3 : W1.cell? ⟨w.heap.size, 3, none⟩ = _ := (hP1).cell rfl
  have q4 : W1.cell? ⟨w.heap.size, 4, none⟩ = _ := (hP1).cell rfl
  have q5 : W1.cell? ⟨w.heap.size, 5, none⟩ = _ := (hP1).cell rfl
  have q6 : W1.cell? ⟨w.heap.size, 6, none⟩ = _ := (hP1).cell rfl
  go_upto_region 5 with fail
  change Blk (W1.alloc (.cells #[.slice v.x.A v.x.l.lanes.length v.x.c, .int .i64 v.x.l.height, .int .i64 v.x.l.carries, .int .i64 v.x.l.empty, .int .i64 v.x.l.rear, .int .i64 v.x.l.axle, .int .i64 v.x.l.deck, .slice v.T ts.length v.cT] 108)) _ _ _ at hJ
  change Below W1.heap.size W1 (W1.alloc (.cells #[.slice v.x.A v.x.l.lanes.length v.x.c, .int .i64 v.x.l.height, .int .i64 v.x.l.carries, .int .i64 v.x.l.empty, .int .i64 v.x.l.rear, .int .i64 v.x.l.axle, .int .i64 v.x.l.deck, .slice v.T ts.length v.cT] 108)) at hx2
  generalize W1.alloc (.cells #[.slice v.x.A v.x.l.lanes.length v.x.c, .int .i64 v.x.l.height, .int .i64 v.x.l.carries, .int .i64 v.x.l.empty, .int .i64 v.x.l.rear, .int .i64 v.x.l.axle, .int .i64 v.x.l.deck, .slice v.T ts.length v.cT] 108) = W2 at *
  clear q0 q1 q2 q3 q4 q5 q6
  have hb2 := ext_trans hb1 hx2
  have hP2 := hP1.ext hx2
  have D2 := Lib.hid (C2.out W2 hb2 (by first | rfl | trivial))
  unfold JbV.val at D2
  clear hb1 hP1
  have q0 : W2.cell? ⟨W1.heap.size, 0, none⟩ = _ := hJ.cell rfl
  have q1 : W2.cell? ⟨W1.heap.size, 1, none⟩ = _ := hJ.cell rfl
  have q2 : W2.cell? ⟨W1.heap.size, 2, none⟩ = _ := hJ.cell rfl
  have q3 : W2.cell? ⟨W1.heap.size, 3, none⟩ = _ := hJ.cell rfl
  have q4 : W2.cell? ⟨W1.heap.size, 4, none⟩ = _ := hJ.cell rfl
  have q5 : W2.cell? ⟨W1.heap.size, 5, none⟩ = _ := hJ.cell rfl
  have q6 : W2.cell? ⟨W1.heap.size, 6, none⟩ = _ := hJ.cell rfl
  have q7 : W2.cell? ⟨W1.heap.size, 7, none⟩ = _ := hJ.cell rfl
  have hJlt := hJ.lt
  generalize hrb : rightB v.x.l ts (rows rs) = rb at *
  have Hrb := Lib.hid hrb
  clear hrb
  go_wp2_with fail
  refine D2.out.mono ?_; rintro e W3 ⟨rfl, hx3⟩
  have hb3 := ext_trans hb2 hx3
  have hP3 := hP2.ext hx3
  have hJ3 := hJ.ext hx3
  clear q0 q1 q2 q3 q4 q5 q6 q7 hJ hP2 hb2 hx3 hx2 D2 hJlt
  cases rb
  case false =>
    have Hr := Lib.hid (show res = (0, 0, false, 9) by rw [← Hres.out, if_neg (by simp), if_pos rfl])
    go_wp2
    refine bodyPost_ret (res4 rfl _ _ _) rfl ?_
    exact ⟨by rw [Hr.out]; rfl, hb3⟩
  case true =>
  have Hr := Lib.hid (show res = (axFront v.x.l ts (rows rs), axRear v.x.l ts (rows rs), holdsB v.x.l (axFront v.x.l ts (rows rs)) (axRear v.x.l ts (rows rs)), 0) by rw [← Hres.out, if_neg (by simp), if_neg (by simp)])
  have HR := Lib.hid (right_iff.1 Hrb.out)
  have HO := Lib.hid (checkE_zero.1 Hce.out)
  have hM3 := HM.out.ext hb3
  have ht3 := HT.out.ext hb3
  clear Hres Hrb
  have Hmom := Lib.hid (fun k => momL_bd HO.out.2.2 HO.out.2.1 (p := (rows rs).take k) (fun l hl => HR.out.inR l (List.mem_of_mem_take hl)))
  have Hmany := Lib.hid (show n ≤ 6 from by
    have h1 := HR.out.many
    rw [rows_len, Hn.out] at h1
    have h2 := HO.out.1.many
    omega)
  have hn6 := Hmany.out
  go_wp2
  go_loopw [12, 34] (fun s t wr => ∃ k : Nat, t = .int .i64 k ∧ k ≤ n ∧ s = .int .i64 (momL ts ((rows rs).take k)) ∧ Below W3.heap.size W3 wr) (fun _ t _ => n - (intOf t).toNat)
  case atStart => exact ⟨0, rfl, by omega, rfl, Below.refl _ _⟩
  case round =>
    obtain ⟨k, rfl, hk, rfl, hb⟩ := hrel
    have hmk := Hmom.out k
    rw [List.length_take, rows_len, Hn.out] at hmk
    have hmk2 : 0 ≤ momL ts ((rows rs).take k) ∧ momL ts ((rows rs).take k) ≤ 600000000000 := by omega
    clear hmk
    by_cases hlt : k < n
    · have hlt' : (k : Int) < (n : Int) := by omega
      have hk1 : k < rs.length := by rw [Hn.out]; exact hlt
      obtain ⟨b, off, rfl, -, c0⟩ := (hM3.ext hb).hdr.at1 hk1 rfl
      have hrow := (hM3.ext hb).row _ (List.getElem_mem hk1)
      have hin := HR.out.inR rs[k].r (List.mem_map.2 ⟨_, List.getElem_mem hk1, rfl⟩)
      have Hs := Lib.hid (show momL ts ((rows rs).take (k + 1)) = momL ts ((rows rs).take k) + momR ts rs[k].r 0 by
        rw [List.take_succ_eq_append_getElem (by rw [rows_len]; exact hk1), momL_snoc]; simp [rows])
      have h14 := HO.out.2.1
      have Hin := Lib.hid hin.1
      have hlen : rs[k].r.length ≤ 14 := by omega
      clear hin
      generalize momL ts ((rows rs).take k) = M0 at *
      generalize rs[k] = x at *
      obtain ⟨xr, xA, xc⟩ := x
      simp only at *
      generalize hxl : xr.length = m at *
      have Hxl := Lib.hid hxl
      clear hxl
      go_wp2
      obtain ⟨wo, rfl⟩ : ∃ wo : World, wo = wr := ⟨_, rfl⟩
      go_loopw [12, 15, 40] (fun s a t wi => ∃ q : Nat, t = .int .i64 q ∧ q ≤ m ∧ s = .int .i64 (M0 + momR ts (xr.take q) 0) ∧ a = .int .i64 (longL ts (xr.take q)) ∧ Below wo.heap.size wo wi) (fun _ _ t _ => m - (intOf t).toNat)
      case atStart => exact ⟨0, rfl, by omega, by simp [momR], by simp [longL, isum], Below.refl _ _⟩
      case round =>
        obtain ⟨q, rfl, hq, rfl, rfl, hbi⟩ := hrel
        have hmq := momR_bd HO.out.2.2 (xr.take q) 0 (fun y hy => Hin.out y (List.mem_of_mem_take hy)) (by omega) (by rw [List.length_take, Hxl.out]; omega)
        rw [List.length_take, Hxl.out] at hmq
        have hlq := longL_take_bd HO.out.2.2 Hin.out q
        rw [Hxl.out] at hlq
        have hmq2 : 0 ≤ momR ts (xr.take q) 0 ∧ momR ts (xr.take q) 0 ≤ 100000000000 := by omega
        have hlq2 : 0 ≤ longL ts (xr.take q) ∧ longL ts (xr.take q) ≤ 28000 := by omega
        clear hmq hlq
        by_cases hql : q < m
        · have hql' : (q : Int) < (m : Int) := by omega
          have hq1 : q < xr.length := by rw [Hxl.out]; exact hql
          obtain ⟨b3, off3, rfl, -, e0⟩ := (hrow.ext hbi).at1 hq1 rfl
          have hx := Hin.out _ (List.getElem_mem hq1)
          obtain ⟨j, hj⟩ : ∃ j : Nat, xr[q] = j := ⟨xr[q].toNat, by omega⟩
          have hjt : j < ts.length := by omega
          have Hl := Lib.hid (longL_succ (ts := ts) hq1)
          have Hmo := Lib.hid (show momR ts (xr.take (q + 1)) 0 = momR ts (xr.take q) 0 + (thAt ts xr[q]).mass * (2 * (longL ts (xr.take q)) + (thAt ts xr[q]).long) by
            rw [List.take_succ_eq_append_getElem hq1, momR_snoc, Int.zero_add])
          rw [hj] at e0 hx Hl Hmo
          rw [thAt_eq hjt] at Hl Hmo
          obtain ⟨b4, off4, eT, -, d0, d1, d2, d3⟩ := ((ht3.ext hb).ext hbi).at4 hjt rfl
          have hto := HO.out.2.2 _ (List.getElem_mem hjt)
          have htl := hto.long
          have htm := hto.mass
          have hjt' : (j : Int) < (ts.length : Int) := by omega
          have ET := Lib.hid eT
          rw [eT]
          clear hto hj eT
          generalize hlo : ts[j].long = lo at *
          have Hlo := Lib.hid hlo
          clear hlo
          generalize ts[j].mass = ma at *
          generalize ts[j].high = hi at *
          generalize ts[j].need = ne at *
          generalize momR ts (xr.take q) 0 = m0 at *
          generalize longL ts (xr.take q) = L0 at *
          have hsz := hbi.size
          go_upto_region 16 with fail
          refine Dr.wp_region_plan 12 [] (.q [0, 1, 2, 3, 4, 5, 6, 7] (.e1 8 (.q [9, 10, 11] .done))) (by kernel_rfl) (by kernel_rfl) ?_
          have hb5 := hbi.drew
          have g : ∀ (a : Addr) (v : Value), wr.cell? a = some v → wr.drew.cell? a = some v := fun _ _ h => h
          have g2 := Dr.cell0 (g _ _ d2)
          have ht5 := (((ht3.ext hb).ext hbi)).drew
          clear g e0 d0 d1 d2 d3 hbi
          generalize World.drew _ = W5 at *
          refine Dr.plan_q (l := [_, _, _, _, _, _, _, _]) rfl (fun K hK => ?_)
          iterate 8 (go_big_quiet_step (fail))
          refine wpQuiet_nil (hK _ ?_); clear hK K
          clear g2
          have CM := Lib.hid (middle_any lo hi ma ne L0 W5 (by omega) (by omega))
          have hmul := mul_bd htm.1 htm.2 (show 0 ≤ 2 * L0 + lo by omega) (show 2 * L0 + lo ≤ 60000 by omega)
          refine Dr.plan_e rfl (by rfl) (fun K hK => ?_)
          go_wp2_with fail
          refine (CM.out).mono ?_; rintro e W6 ⟨rfl, hx6⟩
          refine hK _ _ (.of hx6) ?_; clear hK K
          have hb6 := ext_trans hb5 hx6
          obtain ⟨b5, off5, eT5, -, f0, -, -, -⟩ := (ht5.ext hx6).at4 hjt rfl
          rw [ET.out] at eT5
          cases eT5
          rw [Hlo.out] at f0
          clear CM hb5 hx6 ht5
          refine Dr.plan_q (l := [_, _, _]) rfl (fun K hK => ?_)
          iterate 3 (go_big_quiet_step (fail))
          refine wpQuiet_nil (hK _ ?_); clear hK K
          refine Dr.plan_end rfl ?_
          go_wp2
          go_roundw
          case rel => exact ⟨q + 1, by go_num, by omega, by rw [Hmo.out]; exact int_congr (by omega), by rw [Hl.out], hb6⟩
          case measure => simp [intOf]; omega
        · have hqm : xr.take q = xr := List.take_of_length_le (by rw [Hxl.out]; omega)
          rw [hqm]
          rw [hqm] at hmq2
          clear hqm
          generalize momR ts xr 0 = m0 at *
          have hb7 := ext_trans hb hbi
          clear hbi
          go_wp2
          go_roundw
          case rel => exact ⟨k + 1, by go_num, by omega, by rw [Hs.out], hb7⟩
          case measure => simp [intOf]; omega
    · have hkn : (rows rs).take k = rows rs := List.take_of_length_le (by rw [rows_len, Hn.out]; omega)
      rw [hkn]
      rw [hkn] at hmk2
      clear hkn
      have hb4 := ext_trans hb3 hb
      have hP4 := hP3.ext hb
      have hJ4 := hJ3.ext hb
      clear hb hb3 hP3 hJ3 hM3 ht3
      go_upto_region 20 with fail
      have hlo := HO.out.1
      have hre := hlo.rear
      have hem := hlo.empty
      have hx0 : 0 ≤ momL ts (rows rs) + v.x.l.rear - 1 := by omega
      have hD0 : 0 ≤ (momL ts (rows rs) + v.x.l.rear - 1) / v.x.l.rear := Int.ediv_nonneg hx0 (by omega)
      have hD1 : (momL ts (rows rs) + v.x.l.rear - 1) / v.x.l.rear ≤ momL ts (rows rs) + v.x.l.rear - 1 := Int.ediv_le_self _ hx0
      have hrr : 0 < v.x.l.rear := by omega
      have Hrear := Lib.hid (show axRear v.x.l ts (rows rs) = (momL ts (rows rs) + v.x.l.rear - 1) / v.x.l.rear + (v.x.l.empty + 1) / 2 from rfl)
      have Hfront := Lib.hid (show axFront v.x.l ts (rows rs) = v.x.l.empty + massL ts (rows rs).flatten - axRear v.x.l ts (rows rs) from rfl)
      have hin : InR ts.length (rows rs).flatten := fun y hy => mem_upto.1 (HR.out.perm.mem_iff.1 hy)
      have Hin := Lib.hid hin
      have hfl : (rows rs).flatten.length ≤ 14 := by
        have h1 := HR.out.perm.length_eq
        rw [upto_len] at h1
        have := HO.out.2.1
        omega
      have Hfl := Lib.hid hfl
      have hml := massL_bd HO.out.2.2 hin
      have hml2 : 0 ≤ massL ts (rows rs).flatten ∧ massL ts (rows rs).flatten ≤ 1400000 := by omega
      clear hlo hin hml hfl hx0
      generalize momL ts (rows rs) = M at *
      refine Dr.wp_region_plan 14 [] (.q [0, 1, 2, 3, 4, 5, 6, 7, 8, 9, 10, 11, 12, 13] .done) (by kernel_rfl) (by kernel_rfl) ?_
      have hb5 := hb4.drew
      have hP5 := hP4.drew
      have hJ5 := hJ4.drew
      clear hb4 hP4 hJ4
      generalize World.drew _ = W5 at *
      have q3 := Dr.cell0 (hP5.cell (i := 3) rfl)
      have q4 := Dr.cell0 (hP5.cell (i := 4) rfl)
      refine Dr.plan_q (l := [_, _, _, _, _, _, _, _, _, _, _, _, _, _]) rfl (fun K hK => ?_)
      iterate 14 (go_big_quiet_step (fail))
      refine wpQuiet_nil (hK _ ?_); clear hK K
      clear q3 q4
      refine Dr.plan_end rfl ?_
      generalize (M + v.x.l.rear - 1) / v.x.l.rear = D at *
      have hre2 : 0 ≤ axRear v.x.l ts (rows rs) ∧ axRear v.x.l ts (rows rs) ≤ 700000000000 := by rw [Hrear.out]; omega
      rw [← Hrear.out]
      clear Hrear hD0 hD1
      generalize axRear v.x.l ts (rows rs) = RE at *
      go_upto_region 21 with fail
      refine Dr.wp_region_plan 10 [] (.q [0, 1, 2, 3, 7] (.e1 4 (.e1 5 (.q [6, 8, 9] .done)))) (by kernel_rfl) (by kernel_rfl) ?_
      have hb6 := hb5.drew
      have hP6 := hP5.drew
      have hJ6 := hJ5.drew
      clear hb5 hP5 hJ5
      generalize World.drew _ = W6 at *
      have p3 := Dr.cell0 (hP6.cell (i := 3) rfl)
      have q0 := Dr.cell0 (hJ6.cell (i := 0) rfl)
      have q1 := Dr.cell0 (hJ6.cell (i := 1) rfl)
      have q2 := Dr.cell0 (hJ6.cell (i := 2) rfl)
      have q3 := Dr.cell0 (hJ6.cell (i := 3) rfl)
      have q4 := Dr.cell0 (hJ6.cell (i := 4) rfl)
      have q5 := Dr.cell0 (hJ6.cell (i := 5) rfl)
      have q6 := Dr.cell0 (hJ6.cell (i := 6) rfl)
      have q7 := Dr.cell0 (hJ6.cell (i := 7) rfl)
      refine Dr.plan_q (l := [_, _, _, _, _]) rfl (fun K hK => ?_)
      iterate 5 (go_big_quiet_step (fail))
      refine wpQuiet_nil (hK _ ?_); clear hK K
      clear q0 q1 q2 q3 q4 q5 q6 q7 p3
      have CC := Lib.hid (concat_any A n c rs W6 Hn.out hm (HM.out.ext hb6) (by have := Hfl.out; omega))
      refine Dr.plan_e rfl (by rfl) (fun K hK => ?_)
      go_wp2_with fail
      refine CC.out.mono ?_; rintro e W7 ⟨v1, rfl, ho7, hx7⟩
      obtain ⟨A1, c1, rfl, -, -, hc7⟩ := ho7.cells Go.Bs.encI_len
      refine hK _ _ (.of hx7) ?_; clear hK K CC
      have hb7 := ext_trans hb6 hx7
      have hP7 := hP6.ext hx7
      have hj7 : JbM W7 v ts := ⟨HL.out.ext hb7, HT.out.ext hb7, by have := HO.out.1.many; omega, by have := HO.out.2.1; omega⟩
      have CM := Lib.hid (mass_any v ts A1 _ c1 (rows rs).flatten W7 hj7 HO.out.2.2 rfl (by have := Hfl.out; omega) Hin.out hc7)
      unfold JbV.val at CM
      generalize massL ts (rows rs).flatten = MA at *
      generalize (rows rs).flatten.length = fl at *
      refine Dr.plan_e rfl (by rfl) (fun K hK => ?_)
      go_wp2_with fail
      refine (CM.out).mono ?_; rintro e W8 ⟨rfl, hx8⟩
      refine hK _ _ (.of hx8) ?_; clear hK K
      refine Dr.plan_q (l := [_, _, _]) rfl (fun K hK => ?_)
      iterate 3 (go_big_quiet_step (fail))
      refine wpQuiet_nil (hK _ ?_); clear hK K
      refine Dr.plan_end rfl ?_
      have hb8 := ext_trans hb7 hx8
      have hP8 := hP7.ext hx8
      clear CM hb6 hb7 hx7 hx8 hP6 hP7 hJ6 ho7 hc7 hj7
      rw [← Hfront.out]
      generalize axFront v.x.l ts (rows rs) = FR at *
      have p5 : W8.cell? ⟨w.heap.size, 5, none⟩ = _ := hP8.cell rfl
      clear Hfront hml2
      have CW := Lib.hid (fun V => within_any FR 0 v.x.l.axle V)
      by_cases hle : RE ≤ v.x.l.axle
      · go_wp2_with fail
        refine (CW.out _).mono ?_; rintro e W9 ⟨rfl, rfl⟩
        go_wp2
        refine bodyPost_ret (res4 rfl _ _ _) rfl ?_
        exact ⟨by rw [Hr.out]; simp [holdsB, hle], hb8⟩
      · have hle2 : decide (RE ≤ v.x.l.axle) = false := decide_eq_false hle
        go_wp2
        refine bodyPost_ret (res4 rfl _ _ _) rfl ?_
        exact ⟨by rw [Hr.out]; simp [holdsB, hle2], hb8⟩
end Go.Proofs.Ytbpmfaibcibleaa
