/- Walks: may things stand so in a lane; is a packing right; Right. -/
import Derived.Test.YtbpmfaibcibleaaWaD
namespace Go.Wg
open Go.RowKit Go.Bs Go.Pl
/-- needs fall -/
def Falls (ts : List Th) (l : List Int) : Prop := l.Pairwise fun a b => (thAt ts b).need ≤ (thAt ts a).need
instance (ts : List Th) (l : List Int) : Decidable (Falls ts l) := inferInstanceAs (Decidable (List.Pairwise _ l))
def laneB (ts : List Th) (room : Int) (l : List Int) : Bool := decide (Falls ts l) && decide (longL ts l ≤ room)
theorem falls_take {ts : List Th} {l : List Int} (h : Falls ts l) (k : Nat) : Falls ts (l.take k) := List.Pairwise.sublist (List.take_sublist k l) h
theorem falls_zero (ts : List Th) (l : List Int) : Falls ts (l.take 0) := List.Pairwise.nil
theorem falls_one {ts : List Th} {l : List Int} (h : 0 < l.length) : Falls ts (l.take 1) := by
  cases l with
  | nil => simp at h
  | cons a l => simp [Falls]
theorem falls_succ {ts : List Th} {l : List Int} {k : Nat} (h : k + 1 < l.length) : Falls ts (l.take (k + 1 + 1)) ↔ Falls ts (l.take (k + 1)) ∧ (thAt ts l[k + 1]).need ≤ (thAt ts l[k]).need := by
  unfold Falls
  rw [List.take_succ_eq_append_getElem (i := k + 1) h, List.pairwise_append]
  constructor
  · rintro ⟨h1, -, h3⟩
    exact ⟨h1, h3 _ (by rw [List.mem_take_iff_getElem]; exact ⟨k, by omega, rfl⟩) _ (by simp)⟩
  · rintro ⟨h1, h2⟩
    refine ⟨h1, List.pairwise_singleton _ _, fun a ha b hb => ?_⟩
    simp only [List.mem_singleton] at hb
    subst hb
    rw [List.take_succ_eq_append_getElem (i := k) (by omega)] at ha h1
    rcases List.mem_append.1 ha with ha | ha
    · exact Int.le_trans h2 ((List.pairwise_append.1 h1).2.2 a ha _ (by simp))
    · simp only [List.mem_singleton] at ha
      rw [ha]; exact h2
theorem longL_succ {ts : List Th} {l : List Int} {k : Nat} (h : k < l.length) : longL ts (l.take (k + 1)) = longL ts (l.take k) + (thAt ts l[k]).long := by
  unfold longL
  rw [List.take_succ_eq_append_getElem h, List.map_append, isum_append]; simp [isum]
theorem longL_bd {ts : List Th} (hok : ∀ t ∈ ts, t.Ok) {l : List Int} (h : InR ts.length l) : 0 ≤ longL ts l ∧ longL ts l ≤ l.length * 2000 :=
  isum_map_bd _ _ _ fun x hx => by have := (hok _ (thAt_mem (h x hx).1 (h x hx).2)).long; omega
theorem longL_take_bd {ts : List Th} (hok : ∀ t ∈ ts, t.Ok) {l : List Int} (h : InR ts.length l) (k : Nat) : 0 ≤ longL ts (l.take k) ∧ longL ts (l.take k) ≤ l.length * 2000 := by
  have h1 := longL_bd hok (l := l.take k) fun x hx => h x (List.mem_of_mem_take hx)
  have h2 : (l.take k).length ≤ l.length := by rw [List.length_take]; omega
  omega
/-- is a packing right (lorry and things are valid) -/
def wholeB (n : Nat) (p : List (List Int)) : Bool := decide (srtL p.flatten = upto n)
def rightB (j : Lo) (ts : List Th) (p : List (List Int)) : Bool :=
  decide (p.length = j.lanes.length) && wholeB ts.length p && (p.zip j.lanes).all (fun x => laneB ts x.2 x.1) && carB j ts (upto ts.length)
theorem zip_all {ts : List Th} {p : List (List Int)} {L : List Int} (h : p.length = L.length) : (p.zip L).all (fun x => laneB ts x.2 x.1) = true ↔ ∀ i, i < p.length → laneB ts (L.getD i 0) (p.getD i []) = true := by
  rw [List.all_eq_true]
  constructor
  · intro H i hi
    have h2 : i < L.length := by omega
    have := H (p[i], L[i]) (by rw [List.mem_iff_getElem]; exact ⟨i, by simp; omega, by simp⟩)
    simpa [List.getD, hi, h2] using this
  · intro H x hx
    obtain ⟨i, hi, rfl⟩ := List.mem_iff_getElem.1 hx
    simp only [List.length_zip] at hi
    have h1 : i < p.length := by omega
    have h2 : i < L.length := by omega
    have := H i h1
    simpa [List.getD, h1, h2] using this
end Go.Wg
/-! ### printed by mk_wae.py -/
namespace Go.Proofs.Ytbpmfaibcibleaa
open Go.RowKit Go.Bs Go.Wg Go.Pl Go.Sort
set_option maxRecDepth 100000 in
set_option maxHeartbeats 2000000 in
theorem lane_any (v : JbV) (ts : List Th) (room : Int) (A : Option Addr) (n c : Nat) (l : List Int) (w : World) (hj : JbM w v ts) (hok : ∀ t ∈ ts, t.Ok) (hr : 0 ≤ room ∧ room ≤ 1000000) (hn : l.length = n) (hm : n ≤ 1000) (hin : InR ts.length l) (hc : Cells w A 1 Go.Bs.encI l) :
    Calls Try.prog 95 #[JbV.val v ts, .int .i64 room, .slice A n c] w fun e w' => e = .returned (.bool (laneB ts room l)) ∧ Below w.heap.size w w' := by
  have hb0 := ext_alloc w (.cells (JbV.enc v ts).toArray 108)
  have hP := Blk.new w 108 (JbV.enc v ts)
  have hj0 := hj.ext hb0
  have hc0 := hc.ext hb0
  have Hn := Lib.hid hn
  have Hin := Lib.hid hin
  have Hbd := Lib.hid (longL_take_bd hok hin)
  generalize hres : laneB ts room l = res
  have Hres := Lib.hid hres
  clear hres hn hj hc hin hok
  unfold JbV.val
  unfold JbV.enc at *
  go_enter Try.func95, Try.ntmps95
  go_upto_region 1 with fail
  change Blk (w.alloc (.cells #[.slice v.x.A v.x.l.lanes.length v.x.c, .int .i64 v.x.l.height, .int .i64 v.x.l.carries, .int .i64 v.x.l.empty, .int .i64 v.x.l.rear, .int .i64 v.x.l.axle, .int .i64 v.x.l.deck, .slice v.T ts.length v.cT] 108)) _ _ _ at hP
  change Below w.heap.size w (w.alloc (.cells #[.slice v.x.A v.x.l.lanes.length v.x.c, .int .i64 v.x.l.height, .int .i64 v.x.l.carries, .int .i64 v.x.l.empty, .int .i64 v.x.l.rear, .int .i64 v.x.l.axle, .int .i64 v.x.l.deck, .slice v.T ts.length v.cT] 108)) at hb0
  change JbM (w.alloc (.cells #[.slice v.x.A v.x.l.lanes.length v.x.c, .int .i64 v.x.l.height, .int .i64 v.x.l.carries, .int .i64 v.x.l.empty, .int .i64 v.x.l.rear, .int .i64 v.x.l.axle, .int .i64 v.x.l.deck, .slice v.T ts.length v.cT] 108)) _ _ at hj0
  change Cells (w.alloc (.cells #[.slice v.x.A v.x.l.lanes.length v.x.c, .int .i64 v.x.l.height, .int .i64 v.x.l.carries, .int .i64 v.x.l.empty, .int .i64 v.x.l.rear, .int .i64 v.x.l.axle, .int .i64 v.x.l.deck, .slice v.T ts.length v.cT] 108)) _ _ _ _ at hc0
  generalize w.alloc (.cells #[.slice v.x.A v.x.l.lanes.length v.x.c, .int .i64 v.x.l.height, .int .i64 v.x.l.carries, .int .i64 v.x.l.empty, .int .i64 v.x.l.rear, .int .i64 v.x.l.axle, .int .i64 v.x.l.deck, .slice v.T ts.length v.cT] 108) = W0 at *
  go_wp2
  go_loopw [1, 7, 8, 11] (fun s _ _ t wr => ∃ k : Nat, t = .int .i64 k ∧ k ≤ n ∧ s = .int .i64 (room - longL ts (l.take k)) ∧ Hid (Falls ts (l.take k)) ∧ Below W0.heap.size W0 wr) (fun _ _ _ t _ => n - (intOf t).toNat)
  case atStart => exact ⟨0, rfl, by omega, by simp [longL, isum], Lib.hid (falls_zero _ _), Below.refl _ _⟩
  case round =>
    obtain ⟨k, rfl, hk, rfl, Hf, hb⟩ := hrel
    have hL := Hbd.out k
    rw [Hn.out] at hL
    by_cases hlt : k < n
    · have hlt' : (k : Int) < (n : Int) := by omega
      have hk1 : k < l.length := by rw [Hn.out]; exact hlt
      obtain ⟨b, off, rfl, -, c0⟩ := (hc0.ext hb).at1 hk1 rfl
      have hx := Hin.out _ (List.getElem_mem hk1)
      have y7 := (hP.ext hb).cell (i := 7) rfl
      obtain ⟨j, hj⟩ : ∃ j : Nat, l[k] = j := ⟨l[k].toNat, by omega⟩
      have hjt : j < ts.length := by omega
      have Hl := Lib.hid (longL_succ (ts := ts) hk1)
      rw [hj] at c0 hx Hl
      rw [thAt_eq hjt] at Hl
      obtain ⟨b2, off2, hT, -, d0, -, -, d3⟩ := (hj0.things.ext hb).at4 hjt rfl
      rw [hT] at y7
      have hjt' : (j : Int) < (ts.length : Int) := by omega
      have hst := hj0.st
      have hL2 := Hbd.out (k + 1)
      rw [Hl.out, Hn.out] at hL2
      have Hj := Lib.hid hj
      have HT := Lib.hid hT
      clear hj hT
      by_cases h0 : k = 0
      · have Hf1 := Lib.hid (show Falls ts (l.take (k + 1)) by rw [h0]; exact falls_one (by omega))
        have k0 : ¬ (0 : Int) < (k : Int) := by omega
        have k1 : ¬ 0 < k := by omega
        clear h0
        have hb1 := hb.drew
        have cdr := c0
        have hlo := hb.size
        generalize ts[j].long = lo at *
        generalize longL ts (l.take k) = L at *
        go_upto_region 5 with fail
        refine Dr.wp_region_plan 21 [] (.q [0, 1, 2, 3, 4, 5, 6, 7, 8, 9, 10, 11, 12, 13, 14, 15, 16, 17, 18, 19, 20] .done) (by kernel_rfl) (by kernel_rfl) ?_
        clear c0 y7 d0 d3 hb cdr
        generalize World.drew _ = W1 at *
        refine Dr.plan_q (l := [_, _, _, _, _, _, _, _, _, _, _, _, _, _, _, _, _, _, _, _, _]) rfl (fun K hK => ?_)
        iterate 21 (go_big_quiet_step (fail))
        refine wpQuiet_nil (hK _ ?_); clear hK K
        refine Dr.plan_end rfl ?_
        go_wp2
        go_roundw
        case rel => exact ⟨k + 1, by go_num, by omega, by rw [Hl.out]; exact int_congr (by omega), Hf1, hb1⟩
        case measure => simp [intOf]; omega
      · obtain ⟨q, rfl⟩ : ∃ q, k = q + 1 := ⟨k - 1, by omega⟩
        have hq1 : q < l.length := by omega
        obtain ⟨b', off', eA, -, cq⟩ := (hc0.ext hb).at1 hq1 rfl
        cases eA
        have hx' := Hin.out _ (List.getElem_mem hq1)
        obtain ⟨i, hi⟩ : ∃ i : Nat, l[q] = i := ⟨l[q].toNat, by omega⟩
        have hit : i < ts.length := by omega
        have Hfs := falls_succ (ts := ts) hk1
        have hj' := Hj.out
        rw [hi] at cq Hfs
        rw [hj', thAt_eq hjt, thAt_eq hit] at Hfs
        have HF := Lib.hid Hfs
        obtain ⟨b3, off3, eT, -, -, -, -, f3⟩ := (hj0.things.ext hb).at4 hit rfl
        have y7' := y7
        rw [← (show v.T = some ⟨b2, off2, none⟩ from HT.out)] at y7'
        rw [HT.out] at eT
        cases eT
        have hit' : (i : Int) < (ts.length : Int) := by omega
        clear Hfs hj' hi hx' y7'
        have k0 : (0 : Int) < ((q + 1 : Nat) : Int) := by omega
        have k1 : 0 < q + 1 := by omega
        have hqn : (q : Int) < (n : Int) := by omega
        have hlo := hb.size
        have hb1 := hb.drew
        generalize ts[j].long = lo at *
        generalize ts[j].need = a1 at *
        generalize ts[i].need = a2 at *
        by_cases hf : a1 ≤ a2
        · have Hf1 := Lib.hid (HF.out.2 ⟨Hf.out, hf⟩)
          generalize longL ts (l.take (q + 1)) = L at *
          go_upto_region 5 with fail
          refine Dr.wp_region_plan 21 [] (.q [0, 1, 2, 3, 4, 5, 6, 7, 8, 9, 10, 11, 12, 13, 14, 15, 16, 17, 18, 19, 20] .done) (by kernel_rfl) (by kernel_rfl) ?_
          have g : ∀ (a : Addr) (v : Value), wr.cell? a = some v → wr.drew.cell? a = some v := fun _ _ h => h
          have q1 := Dr.cell0 (g _ _ cq)
          have q2 := Dr.cell0 (g _ _ y7)
          have q3 := Dr.cell0 (g _ _ d3)
          have q4 := Dr.cell0 (g _ _ f3)
          clear g c0 cq y7 d0 d3 f3 hb
          generalize World.drew _ = W1 at *
          refine Dr.plan_q (l := [_, _, _, _, _, _, _, _, _, _, _, _, _, _, _, _, _, _, _, _, _]) rfl (fun K hK => ?_)
          iterate 21 (go_big_quiet_step (fail))
          refine wpQuiet_nil (hK _ ?_); clear hK K
          clear q1 q2 q3 q4
          refine Dr.plan_end rfl ?_
          go_wp2
          go_roundw
          case rel => exact ⟨q + 1 + 1, by go_num, by omega, by rw [Hl.out]; exact int_congr (by omega), Hf1, hb1⟩
          case measure => simp [intOf]; omega
        · have Hr := Lib.hid (show res = false by
            rw [← Hres.out]
            unfold laneB
            rw [decide_eq_false (fun h => hf (HF.out.1 (falls_take h _)).2), Bool.false_and])
          generalize longL ts (l.take (q + 1)) = L at *
          go_upto_region 5 with fail
          refine Dr.wp_region_plan 21 [] (.q [0, 1, 2, 3, 4, 5, 6, 7, 8, 9, 10, 11, 12, 13, 14, 15, 16, 17, 18, 19, 20] .done) (by kernel_rfl) (by kernel_rfl) ?_
          have g : ∀ (a : Addr) (v : Value), wr.cell? a = some v → wr.drew.cell? a = some v := fun _ _ h => h
          have q1 := Dr.cell0 (g _ _ cq)
          have q2 := Dr.cell0 (g _ _ y7)
          have q3 := Dr.cell0 (g _ _ d3)
          have q4 := Dr.cell0 (g _ _ f3)
          clear g c0 cq y7 d0 d3 f3 hb
          generalize World.drew _ = W1 at *
          refine Dr.plan_q (l := [_, _, _, _, _, _, _, _, _, _, _, _, _, _, _, _, _, _, _, _, _]) rfl (fun K hK => ?_)
          iterate 21 (go_big_quiet_step (fail))
          refine wpQuiet_nil (hK _ ?_); clear hK K
          clear q1 q2 q3 q4
          refine Dr.plan_end rfl ?_
          go_wp2
          go_ret
          exact ⟨ret_congr (bool_congr Hr.out.symm), ext_trans hb0 hb1⟩
    · have hk' : l.take k = l := List.take_of_length_le (by rw [Hn.out]; omega)
      have hfl : Falls ts l := by have := Hf.out; rwa [hk'] at this
      have Hr := Lib.hid (show decide (longL ts l ≤ room) = res by
        rw [← Hres.out, show laneB ts room l = (decide (Falls ts l) && decide (longL ts l ≤ room)) from rfl, decide_eq_true hfl, Bool.true_and])
      clear hfl
      rw [hk'] at hL ⊢
      generalize longL ts l = L at *
      go_wp2
      go_ret
      exact ⟨ret_congr (bool_congr Hr.out), ext_trans hb0 hb⟩
set_option maxRecDepth 100000 in
set_option maxHeartbeats 2000000 in
theorem right_any (v : JbV) (ts : List Th) (A : Option Addr) (n c : Nat) (rs : List RwV) (w : World) (hj : JbM w v ts) (hok : ∀ t ∈ ts, t.Ok) (hlo : v.x.l.Ok) (h14 : ts.length ≤ 14) (hn : rs.length = n) (hm : n ≤ 1000000) (hM : RwM w A rs) (hl : (rows rs).flatten.length ≤ 1000000) :
    Calls Try.prog 69 #[JbV.val v ts, .slice A n c] w fun e w' => e = .returned (.bool (rightB v.x.l ts (rows rs))) ∧ Below w.heap.size w w' := by
  have hb0 := ext_alloc w (.cells (JbV.enc v ts).toArray 108)
  have hP := Blk.new w 108 (JbV.enc v ts)
  have hj0 := hj.ext hb0
  have hM0 := hM.ext hb0
  have Hn := Lib.hid hn
  have Hok := Lib.hid hok
  have Hlo := Lib.hid hlo
  have Hl := Lib.hid hl
  generalize hres : rightB v.x.l ts (rows rs) = res
  have Hres := Lib.hid hres
  clear hres hn hj hM hl hok hlo
  unfold JbV.val
  unfold JbV.enc at *
  go_enter Try.func69, Try.ntmps69
  go_upto_region 1 with fail
  change Blk (w.alloc (.cells #[.slice v.x.A v.x.l.lanes.length v.x.c, .int .i64 v.x.l.height, .int .i64 v.x.l.carries, .int .i64 v.x.l.empty, .int .i64 v.x.l.rear, .int .i64 v.x.l.axle, .int .i64 v.x.l.deck, .slice v.T ts.length v.cT] 108)) _ _ _ at hP
  change Below w.heap.size w (w.alloc (.cells #[.slice v.x.A v.x.l.lanes.length v.x.c, .int .i64 v.x.l.height, .int .i64 v.x.l.carries, .int .i64 v.x.l.empty, .int .i64 v.x.l.rear, .int .i64 v.x.l.axle, .int .i64 v.x.l.deck, .slice v.T ts.length v.cT] 108)) at hb0
  change JbM (w.alloc (.cells #[.slice v.x.A v.x.l.lanes.length v.x.c, .int .i64 v.x.l.height, .int .i64 v.x.l.carries, .int .i64 v.x.l.empty, .int .i64 v.x.l.rear, .int .i64 v.x.l.axle, .int .i64 v.x.l.deck, .slice v.T ts.length v.cT] 108)) _ _ at hj0
  change RwM (w.alloc (.cells #[.slice v.x.A v.x.l.lanes.length v.x.c, .int .i64 v.x.l.height, .int .i64 v.x.l.carries, .int .i64 v.x.l.empty, .int .i64 v.x.l.rear, .int .i64 v.x.l.axle, .int .i64 v.x.l.deck, .slice v.T ts.length v.cT] 108)) _ _ at hM0
  generalize w.alloc (.cells #[.slice v.x.A v.x.l.lanes.length v.x.c, .int .i64 v.x.l.height, .int .i64 v.x.l.carries, .int .i64 v.x.l.empty, .int .i64 v.x.l.rear, .int .i64 v.x.l.axle, .int .i64 v.x.l.deck, .slice v.T ts.length v.cT] 108) = W0 at *
  have C1 := Lib.hid (concat_any A n c rs W0 Hn.out hm hM0 Hl.out)
  go_wp2_with fail
  refine C1.out.mono ?_; rintro e W1 ⟨v1, rfl, ho1, hb1⟩
  obtain ⟨A1, c1, rfl, -, -, -⟩ := ho1.cells Go.Bs.encI_len
  have x0 := (hP.ext hb1).cell (i := 0) rfl
  have x7 := (hP.ext hb1).cell (i := 7) rfl
  have hl1 := Hl.out
  have hsl := hj0.sl
  clear C1
  by_cases h1 : n = v.x.l.lanes.length
  case neg =>
    have h1' : ((n : Int) == (v.x.l.lanes.length : Int)) = false := by simp; omega
    have h1'' : ((n : Int) != (v.x.l.lanes.length : Int)) = true := by simp; omega
    have Hr := Lib.hid (show res = false by
      rw [← Hres.out]; unfold rightB
      rw [decide_eq_false (by rw [rows_len, Hn.out]; exact h1)]; rfl)
    clear h1
    generalize (rows rs).flatten = L at *
    go_wp2
    go_ret
    exact ⟨ret_congr (bool_congr Hr.out.symm), ext_trans hb0 hb1⟩
  case pos =>
  have h1' : ((n : Int) != (v.x.l.lanes.length : Int)) = false := by simp; omega
  have H1 := Lib.hid h1
  clear h1
  by_cases h2 : (rows rs).flatten.length = ts.length
  case neg =>
    have h2' : (((rows rs).flatten.length : Int) != (ts.length : Int)) = true := by rw [bne_iff_ne]; omega
    have Hr := Lib.hid (show res = false by
      rw [← Hres.out]; unfold rightB wholeB
      rw [decide_eq_false (p := srtL _ = _) (fun e => h2 (by rw [← srtL_len, e, upto_len])), Bool.and_false]; rfl)
    clear h2
    generalize (rows rs).flatten = L at *
    go_wp2
    go_ret
    exact ⟨ret_congr (bool_congr Hr.out.symm), ext_trans hb0 hb1⟩
  case pos =>
  have h2' : (((rows rs).flatten.length : Int) != (ts.length : Int)) = false := by rw [bne_eq_false_iff_eq]; omega
  have H2 := Lib.hid h2
  clear h2
  have Hwh := Lib.hid (show wholeB ts.length (rows rs) = decide (srtL (rows rs).flatten = upto ts.length) from rfl)
  generalize hLL : (rows rs).flatten = L at *
  have HLL := Lib.hid hLL
  clear hLL
  have hsrt := srtL_len L
  go_upto_region 4 with fail
  have CS := Lib.hid (sort_own W0.heap.size _ L W1 ho1 hl1)
  have hlt1 := hb1.size
  clear ho1 x0 x7 h1' h2'
  go_wp2_with fail
  refine CS.out.mono ?_; rintro e W2 ⟨rfl, ho2, hg2⟩
  have hb2 : Below W0.heap.size W0 W2 := hb1.grown hg2 hlt1 (fun k hk => (ho2.lt hk).1)
  have hcs : Cells W2 A1 1 Go.Bs.encI (srtL L) := by
    obtain ⟨A2, c2, e1, -, -, h⟩ := ho2.cells Go.Bs.encI_len
    simp only [Value.slice.injEq] at e1
    obtain ⟨rfl, -, -⟩ := e1
    exact h
  have Hsl := Lib.hid hsrt
  have HL2 := Lib.hid (show L.length = ts.length from H2.out)
  clear CS hg2 hlt1 ho2 hsrt hb1
  generalize hS : srtL L = S at *
  have HS := Lib.hid hS
  have Hm := Lib.hid (show ∀ k, k < L.length → k < S.length from fun k hk => by rw [Hsl.out]; exact hk)
  clear hS
  generalize hm1 : L.length = m at *
  have Hm1 := Lib.hid hm1
  clear hm1
  go_wp2
  go_loop [6, 7, 31] (fun _ _ t => ∃ k : Nat, t = .int .i64 k ∧ k ≤ m ∧ Hid (∀ i, i < k → S[i]? = some (i : Int))) (fun _ _ t => m - (intOf t).toNat)
  case atStart => exact ⟨0, rfl, by omega, Lib.hid (fun i h => absurd h (by omega))⟩
  case round =>
    obtain ⟨k, rfl, hk, HK⟩ := hrel
    by_cases hlt : k < m
    · have hlt' : (k : Int) < (m : Int) := by omega
      have hk1 := Hm.out k hlt
      obtain ⟨b, off, rfl, -, c0⟩ := hcs.at1 hk1 rfl
      have Hx := Lib.hid (List.getElem?_eq_getElem hk1)
      generalize S[k] = x at *
      by_cases hxk : x = k
      · subst hxk
        have hne : ((k : Int) != (k : Int)) = false := by simp
        go_wp2
        go_round
        case rel => exact ⟨k + 1, by go_num, by omega, Lib.hid (fun i hi => by
          rcases Nat.lt_or_ge i k with h | h
          · exact HK.out i h
          · obtain rfl : i = k := by omega
            exact Hx.out)⟩
        case measure => simp [intOf]; omega
      · have hne : (x != (k : Int)) = true := by rw [bne_iff_ne]; exact hxk
        have Hr := Lib.hid (show res = false by
          rw [← Hres.out]; unfold rightB
          rw [Hwh.out, decide_eq_false (p := S = _) (fun e => hxk (by
            have h1 := Hx.out
            rw [e] at h1
            have h2 : k < ts.length := by have := HL2.out; omega
            simp [upto, h2] at h1
            omega)), Bool.and_false]; rfl)
        clear hxk
        go_wp2
        go_ret
        exact ⟨ret_congr (bool_congr Hr.out.symm), ext_trans hb0 hb2⟩
    · have hSu : S = upto ts.length := by
        apply List.ext_getElem?
        intro i
        have h2 := HL2.out
        rcases Nat.lt_or_ge i m with h | h
        · rw [HK.out i (by omega)]
          simp [upto, show i < ts.length by omega]
        · rw [List.getElem?_eq_none (by have := Hsl.out; omega), List.getElem?_eq_none (by rw [upto_len]; omega)]
      clear HK Hm
      subst hSu
      have Hmem := Lib.hid (show ∀ x ∈ rs, InR ts.length x.r ∧ x.r.length ≤ 1000 from fun x hx => by
        have hsub : x.r.Sublist L := by rw [← HLL.out]; exact List.sublist_flatten_of_mem (List.mem_map.2 ⟨x, hx, rfl⟩)
        refine ⟨fun y hy => ?_, ?_⟩
        · have h3 := (srtL_perm L).mem_iff.2 (hsub.subset hy)
          rw [HS.out] at h3
          exact mem_upto.1 h3
        · have := hsub.length_le
          have := HL2.out
          have := Hm1.out
          omega)
      have Hw1 := Lib.hid (show wholeB ts.length (rows rs) = true by rw [Hwh.out]; simp)
      clear Hwh HS Hsl
      have hM2 := hM0.ext hb2
      go_wp2
      go_loopw [8, 9, 42] (fun _ _ t wr => ∃ k : Nat, t = .int .i64 k ∧ k ≤ n ∧ Hid (∀ i, i < k → laneB ts (v.x.l.lanes.getD i 0) ((rows rs).getD i []) = true) ∧ Below W2.heap.size W2 wr) (fun _ _ t _ => n - (intOf t).toNat)
      case atStart => exact ⟨0, rfl, by omega, Lib.hid (fun i h => absurd h (by omega)), Below.refl _ _⟩
      case round =>
        obtain ⟨k, rfl, hk, HK, hb⟩ := hrel
        have hb02 := ext_trans hb2 hb
        by_cases hlt : k < n
        · have hlt' : (k : Int) < (n : Int) := by omega
          have hk1 : k < rs.length := by rw [Hn.out]; exact hlt
          have hk2 : k < v.x.l.lanes.length := by rw [← H1.out]; exact hlt
          have hk2' : (k : Int) < (v.x.l.lanes.length : Int) := by omega
          obtain ⟨b, off, rfl, -, c0⟩ := (hM2.ext hb).hdr.at1 hk1 rfl
          have hrow := (hM2.ext hb).row _ (List.getElem_mem hk1)
          obtain ⟨b2, off2, eL, -, d0⟩ := (hj0.lanes.ext hb02).at1 hk2 rfl
          have hrm := Hmem.out _ (List.getElem_mem hk1)
          have hroom := Hlo.out.lanes _ (List.getElem_mem hk2)
          have Hg := Lib.hid (show laneB ts (v.x.l.lanes.getD k 0) ((rows rs).getD k []) = laneB ts v.x.l.lanes[k] rs[k].r by
            simp [List.getD, hk1, hk2, rows])
          have x0 := (hP.ext hb02).cell (i := 0) rfl
          have EL := Lib.hid eL
          rw [eL] at x0
          go_upto_region 14 with fail
          have hj2 := (hj0.ext hb02).ext (ext_drew wr)
          have hP2 := (hP.ext hb02).drew
          have hr2 := hrow.drew
          have hb3 := hb.drew
          have g : ∀ (a : Addr) (v : Value), wr.cell? a = some v → wr.drew.cell? a = some v := fun _ _ h => h
          have g1 := Dr.cell0 (g _ _ d0)
          have hsz := hb.size
          refine Dr.wp_region_plan 10 [] (.q [0, 1, 2, 3, 4, 5, 6, 7] (.e1 8 (.q [9] .done))) (by kernel_rfl) (by kernel_rfl) ?_
          clear g c0 d0 x0 hb hb02 hrow eL
          generalize World.drew _ = W3 at *
          have q0 := Dr.cell0 (hP2.cell (i := 0) rfl)
          rw [EL.out] at q0
          have q1 := Dr.cell0 (hP2.cell (i := 1) rfl)
          have q2 := Dr.cell0 (hP2.cell (i := 2) rfl)
          have q3 := Dr.cell0 (hP2.cell (i := 3) rfl)
          have q4 := Dr.cell0 (hP2.cell (i := 4) rfl)
          have q5 := Dr.cell0 (hP2.cell (i := 5) rfl)
          have q6 := Dr.cell0 (hP2.cell (i := 6) rfl)
          have q7 := Dr.cell0 (hP2.cell (i := 7) rfl)
          refine Dr.plan_q (l := [_, _, _, _, _, _, _, _]) rfl (fun K hK => ?_)
          iterate 8 (go_big_quiet_step (fail))
          refine wpQuiet_nil (hK _ ?_); clear hK K
          clear q0 q1 q2 q3 q4 q5 q6 q7 g1
          have CL := Lib.hid (lane_any v ts v.x.l.lanes[k] rs[k].A _ rs[k].c rs[k].r W3 hj2 Hok.out (by omega) rfl hrm.2 hrm.1 hr2)
          unfold JbV.val at CL
          rw [EL.out, ← Hg.out] at CL
          generalize v.x.l.lanes[k] = rm at *
          generalize rs[k] = x at *
          cases hq : laneB ts (v.x.l.lanes.getD k 0) ((rows rs).getD k [])
          · rw [hq] at CL
            have Hr := Lib.hid (show res = false by
              rw [← Hres.out]; unfold rightB
              have : ((rows rs).zip v.x.l.lanes).all (fun x => laneB ts x.2 x.1) = false := by
                rw [Bool.eq_false_iff]
                intro h
                rw [(zip_all (by rw [rows_len, Hn.out, H1.out])).1 h k (by rw [rows_len]; exact hk1)] at hq
                cases hq
              rw [this, Bool.and_false]; rfl)
            clear hq
            refine Dr.plan_e rfl (by rfl) (fun K hK => ?_)
            go_wp2_with fail
            refine (CL.out).mono ?_; rintro e W4 ⟨rfl, hx4⟩
            refine hK _ _ (.of hx4) ?_; clear hK K
            refine Dr.plan_q (l := [_]) rfl (fun K hK => ?_)
            iterate 1 (go_big_quiet_step (fail))
            refine wpQuiet_nil (hK _ ?_); clear hK K
            refine Dr.plan_end rfl ?_
            go_wp2
            go_ret
            exact ⟨ret_congr (bool_congr Hr.out.symm), ext_trans hb0 (ext_trans hb2 (ext_trans hb3 hx4))⟩
          · rw [hq] at CL
            have HK2 := Lib.hid (show ∀ i, i < k + 1 → laneB ts (v.x.l.lanes.getD i 0) ((rows rs).getD i []) = true from fun i hi => by
              rcases Nat.lt_or_ge i k with h | h
              · exact HK.out i h
              · obtain rfl : k = i := by omega
                exact hq)
            clear hq
            refine Dr.plan_e rfl (by rfl) (fun K hK => ?_)
            go_wp2_with fail
            refine (CL.out).mono ?_; rintro e W4 ⟨rfl, hx4⟩
            refine hK _ _ (.of hx4) ?_; clear hK K
            refine Dr.plan_q (l := [_]) rfl (fun K hK => ?_)
            iterate 1 (go_big_quiet_step (fail))
            refine wpQuiet_nil (hK _ ?_); clear hK K
            refine Dr.plan_end rfl ?_
            have hb4 := ext_trans hb3 hx4
            clear hb3 hx4 CL
            go_wp2
            go_roundw
            case rel => exact ⟨k + 1, by go_num, by omega, HK2, hb4⟩
            case measure => simp [intOf]; omega
        · have hall : ((rows rs).zip v.x.l.lanes).all (fun x => laneB ts x.2 x.1) = true :=
            (zip_all (by rw [rows_len, Hn.out, H1.out])).2 fun i hi => HK.out i (by rw [rows_len, Hn.out] at hi; omega)
          have Hr := Lib.hid (show carB v.x.l ts (upto ts.length) = res by
            rw [← Hres.out]; unfold rightB
            rw [hall, Hw1.out, decide_eq_true (by rw [rows_len, Hn.out, H1.out])]; simp)
          clear hall
          have hcs2 := hcs.ext hb
          have HL3 := HL2.out
          have CC := Lib.hid (carries_any v ts A1 m c1 (upto ts.length) wr (hj0.ext hb02) Hok.out (by rw [upto_len]; omega) (by omega) (fun x hx => mem_upto.1 hx) hcs2)
          rw [Hr.out] at CC
          unfold JbV.val at CC
          have q0 := (hP.ext hb02).cell (i := 0) rfl
          have q1 := (hP.ext hb02).cell (i := 1) rfl
          have q2 := (hP.ext hb02).cell (i := 2) rfl
          have q3 := (hP.ext hb02).cell (i := 3) rfl
          have q4 := (hP.ext hb02).cell (i := 4) rfl
          have q5 := (hP.ext hb02).cell (i := 5) rfl
          have q6 := (hP.ext hb02).cell (i := 6) rfl
          have q7 := (hP.ext hb02).cell (i := 7) rfl
          clear hcs2 HL3
          go_wp2_with fail
          refine CC.out.mono ?_; rintro e W4 ⟨rfl, hx4⟩
          go_wp2
          go_ret
          exact ⟨rfl, ext_trans hb0 (ext_trans hb02 hx4)⟩
end Go.Proofs.Ytbpmfaibcibleaa
