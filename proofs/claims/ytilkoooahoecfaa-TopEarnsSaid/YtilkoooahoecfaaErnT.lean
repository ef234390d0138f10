/- Walks: route: a right tour is valid: quarters, Town.valid, Tour.valid, check. -/
import Derived.Test.YtilkoooahoecfaaErnS
namespace Go.Proofs.Ytilkoooahoecfaa.Er
open Go.RowKit Go.Bs Go.Pl Go.Sort Go.Er
theorem bel_below {n L : Nat} {W W' : World} (hb : Dr.Bel [L] W W') (hL : n ≤ L) (hn : n ≤ W.heap.size) : Below n W W' :=
  ⟨hb.os, hb.tape, hb.output, hb.size, fun k hk => hb.block k (by omega) (by simp; omega)⟩
theorem all_true {α : Type} (l : List α) : (l.all fun _ => true) = true := by simp
set_option maxRecDepth 100000 in
set_option maxHeartbeats 2000000 in
theorem tvalid_t (v : TwV) (days : Int) (w : World) (hd : 1 ≤ days ∧ days ≤ 60) (hM : TwM w v) (ht : TownOk v.x days) :
    Calls Try.prog 57 #[v.val, .int .i64 days] w fun e w' => e = .returned (.bool true) ∧ Below w.heap.size w w' := by
  have hx1 := ext_alloc w (.cells v.enc.toArray 97)
  have hx2 := ext_alloc (w.alloc (.cells v.enc.toArray 97)) (.cells #[.int .i64 days] 3)
  have hx3 := ext_alloc ((w.alloc (.cells v.enc.toArray 97)).alloc (.cells #[.int .i64 days] 3)) (.cells #[.int .i64 (-1)] 3)
  have k1 := ((Blk.new w 97 v.enc).ext hx2).ext hx3
  have k2 := (Blk.new (w.alloc (.cells v.enc.toArray 97)) 3 [.int .i64 days]).ext hx3
  have k3 := Blk.new ((w.alloc (.cells v.enc.toArray 97)).alloc (.cells #[.int .i64 days] 3)) 3 [.int .i64 (-1)]
  have e1 : (w.alloc (.cells v.enc.toArray 97)).heap.size = w.heap.size + 1 := by simp
  have e2 : ((w.alloc (.cells v.enc.toArray 97)).alloc (.cells #[.int .i64 days] 3)).heap.size = w.heap.size + 2 := by simp
  rw [e1] at k2
  rw [e2] at k3
  have hbx := ext_trans (ext_trans hx1 hx2) hx3
  have hMx := hM.ext hbx
  have hsz : w.heap.size + 3 ≤ (((w.alloc (.cells v.enc.toArray 97)).alloc (.cells #[.int .i64 days] 3)).alloc (.cells #[.int .i64 (-1)] 3)).heap.size := by simp
  have hao : ∀ k, v.O.map (·.block) = some k → k < w.heap.size ∨ v.x.opn = [] := fun k hk => by
    by_cases h0 : v.x.opn.length = 0
    · exact .inr (List.length_eq_zero_iff.1 h0)
    · obtain ⟨b, off, hA, hlt, -⟩ := at_rng hM.opn (show 0 < v.x.opn.length by omega)
      rw [hA] at hk
      simp at hk
      subst hk
      exact .inl hlt
  have har : ∀ k, v.R.map (·.block) = some k → k < w.heap.size ∨ v.x.riv = [] := fun k hk => by
    by_cases h0 : v.x.riv.length = 0
    · exact .inr (List.length_eq_zero_iff.1 h0)
    · obtain ⟨b, off, hA, hlt, -⟩ := at_rng hM.riv (show 0 < v.x.riv.length by omega)
      rw [hA] at hk
      simp at hk
      subst hk
      exact .inl hlt
  have ho1 := ht.n1
  have Ht := Lib.hid ht
  clear hx1 hx2 hx3 e1 e2 hM
  obtain ⟨⟨opn, slo, shi, pay, lot, rent, riv, cold, cut⟩, O, co, R, cr⟩ := v
  unfold TwV.val TwV.enc at *
  simp only at k1 k2 k3 hbx hMx hsz hao har ho1 ⊢
  change Blk (((w.alloc (.cells #[.slice O opn.length co, .int .i64 slo, .int .i64 shi, .int .i64 pay, .int .i64 lot, .int .i64 rent, .slice R riv.length cr, .int .i64 cold, .int .i64 cut] 97)).alloc (.cells #[.int .i64 days] 3)).alloc (.cells #[.int .i64 (-1)] 3)) _ _ _ at k1 k2 k3
  change Below w.heap.size w (((w.alloc (.cells #[.slice O opn.length co, .int .i64 slo, .int .i64 shi, .int .i64 pay, .int .i64 lot, .int .i64 rent, .slice R riv.length cr, .int .i64 cold, .int .i64 cut] 97)).alloc (.cells #[.int .i64 days] 3)).alloc (.cells #[.int .i64 (-1)] 3)) at hbx
  have CA := Lib.hid (fun (V : World) (hV : V = ((w.alloc (.cells #[.slice O opn.length co, .int .i64 slo, .int .i64 shi, .int .i64 pay, .int .i64 lot, .int .i64 rent, .slice R riv.length cr, .int .i64 cold, .int .i64 cut] 97)).alloc (.cells #[.int .i64 days] 3)).alloc (.cells #[.int .i64 (-1)] 3)) => apart_all opn O opn.length co days (w.heap.size + 2) (w.heap.size + 1) V rfl (by have := Ht.out.n3; simp only at this; omega) (hV ▸ hMx.opn) (fun k hk hm => by
    rcases hao k hk with h | h
    · simp at hm; omega
    · rw [h] at ho1; simp at ho1) (hV ▸ k3) (hV ▸ k2) (by omega) (by exact Ht.out.opn) hd)
  have C1 := Lib.hid (fun V => rwithin_t (show (1 : Int) ≤ (opn.length : Int) ∧ (opn.length : Int) ≤ 3 from by have h1 := Ht.out.n1; have h3 := Ht.out.n3; simp only at h1 h3; omega) V)
  have C2 := Lib.hid (fun V => rin_t (show 1 ≤ slo ∧ slo ≤ shi ∧ shi ≤ 10 from Ht.out.stay) V)
  have C3 := Lib.hid (fun V => rwithin_t (show 0 ≤ pay ∧ pay ≤ 1000000 from Ht.out.pay) V)
  have C4 := Lib.hid (fun V => rwithin_t (show 0 ≤ lot ∧ lot ≤ 100000 from Ht.out.lot) V)
  have C5 := Lib.hid (fun V => rwithin_t (show 0 ≤ rent ∧ rent ≤ 1000000 from Ht.out.rent) V)
  have C7 := Lib.hid (fun V => rwithin_t (show 0 ≤ cold ∧ cold ≤ 60 from Ht.out.cold) V)
  have C8 := Lib.hid (fun V => rwithin_t (show 0 ≤ cut ∧ cut ≤ 1000 from Ht.out.cut) V)
  have hr3 : ((riv.length : Nat) : Int) ≤ 3 := by have := Ht.out.r3; simp only at this; omega
  have CR := Lib.hid (fun (V : World) (hV : Cells V R 2 encR riv) => all_rng 101 #[] #[] (fun _ => true) R riv.length cr riv V (enters_of Try.func101 (by kernel_rfl) rfl) rfl (by omega) hV (riv_ok riv V (by exact Ht.out.riv)))
  have hRM := hMx.riv
  have hR3 : riv.length ≤ 3 := by omega
  have HRB := Lib.hid (show ∀ (V V' : World), Cells V R 2 encR riv → Dr.Bel [w.heap.size + 2] V V' → Cells V' R 2 encR riv from fun V V' hV hb => by
    by_cases h0 : riv = []
    · intro i x hi
      rw [h0] at hi
      simp at hi
    · refine cells_bel2 hV hb (fun k hk hm => ?_)
      rcases har k hk with h | h
      · simp at hm; omega
      · exact h0 h)
  clear Ht hao har ho1 hMx ht
  rw [all_true] at CR
  generalize opn.length = no at *
  generalize hnr : riv.length = nr at *
  have Hnr := Lib.hid hnr
  clear hnr
  go_enter Try.func57, Try.ntmps57
  go_upto_region 2 with fail
  generalize hW1 : ((w.alloc (.cells #[.slice O no co, .int .i64 slo, .int .i64 shi, .int .i64 pay, .int .i64 lot, .int .i64 rent, .slice R nr cr, .int .i64 cold, .int .i64 cut] 97)).alloc (.cells #[.int .i64 days] 3)).alloc (.cells #[.int .i64 (-1)] 3) = W1 at *
  simp only [Nat.add_assoc, Nat.reduceAdd]
  have c0 : W1.cell? ⟨w.heap.size, 0, none⟩ = _ := k1.cell (i := 0) rfl
  have c1 : W1.cell? ⟨w.heap.size, 1, none⟩ = _ := k1.cell (i := 1) rfl
  have c2 : W1.cell? ⟨w.heap.size, 2, none⟩ = _ := k1.cell (i := 2) rfl
  have c3 : W1.cell? ⟨w.heap.size, 3, none⟩ = _ := k1.cell (i := 3) rfl
  have c4 : W1.cell? ⟨w.heap.size, 4, none⟩ = _ := k1.cell (i := 4) rfl
  have c5 : W1.cell? ⟨w.heap.size, 5, none⟩ = _ := k1.cell (i := 5) rfl
  have c6 : W1.cell? ⟨w.heap.size, 6, none⟩ = _ := k1.cell (i := 6) rfl
  have c7 : W1.cell? ⟨w.heap.size, 7, none⟩ = _ := k1.cell (i := 7) rfl
  have c8 : W1.cell? ⟨w.heap.size, 8, none⟩ = _ := k1.cell (i := 8) rfl
  go_wp2_with fail
  refine (C1.out _).mono ?_; rintro e w1 ⟨rfl, rfl⟩
  go_wp2_with fail
  refine (CA.out _ rfl).mono ?_; rintro e W2 ⟨rfl, hb1⟩
  have hb2 := hbx.trans (bel_below hb1 (show w.heap.size ≤ w.heap.size + 2 by omega) (by omega))
  have k1b : Blk W2 w.heap.size 97 _ := (hb1.block _ k1.lt (by simp)).trans k1
  have hRM2 := HRB.out _ _ hRM hb1
  clear c0 c1 c2 c3 c4 c5 c6 c7 c8 CA C1 k1 k2 k3 hbx hb1 hRM
  have c0 : W2.cell? ⟨w.heap.size, 0, none⟩ = _ := k1b.cell (i := 0) rfl
  have c1 : W2.cell? ⟨w.heap.size, 1, none⟩ = _ := k1b.cell (i := 1) rfl
  have c2 : W2.cell? ⟨w.heap.size, 2, none⟩ = _ := k1b.cell (i := 2) rfl
  have c3 : W2.cell? ⟨w.heap.size, 3, none⟩ = _ := k1b.cell (i := 3) rfl
  have c4 : W2.cell? ⟨w.heap.size, 4, none⟩ = _ := k1b.cell (i := 4) rfl
  have c5 : W2.cell? ⟨w.heap.size, 5, none⟩ = _ := k1b.cell (i := 5) rfl
  have c6 : W2.cell? ⟨w.heap.size, 6, none⟩ = _ := k1b.cell (i := 6) rfl
  have c7 : W2.cell? ⟨w.heap.size, 7, none⟩ = _ := k1b.cell (i := 7) rfl
  have c8 : W2.cell? ⟨w.heap.size, 8, none⟩ = _ := k1b.cell (i := 8) rfl
  go_wp2_with fail
  refine (C2.out _).mono ?_; rintro e W3 ⟨rfl, hb3⟩
  have hb4 := ext_trans hb2 hb3
  have k1c := k1b.ext hb3
  have hRM3 := hRM2.ext hb3
  clear c0 c1 c2 c3 c4 c5 c6 c7 c8 C2 hb3 hb2 k1b hRM2
  have c0 : W3.cell? ⟨w.heap.size, 0, none⟩ = _ := k1c.cell (i := 0) rfl
  have c1 : W3.cell? ⟨w.heap.size, 1, none⟩ = _ := k1c.cell (i := 1) rfl
  have c2 : W3.cell? ⟨w.heap.size, 2, none⟩ = _ := k1c.cell (i := 2) rfl
  have c3 : W3.cell? ⟨w.heap.size, 3, none⟩ = _ := k1c.cell (i := 3) rfl
  have c4 : W3.cell? ⟨w.heap.size, 4, none⟩ = _ := k1c.cell (i := 4) rfl
  have c5 : W3.cell? ⟨w.heap.size, 5, none⟩ = _ := k1c.cell (i := 5) rfl
  have c6 : W3.cell? ⟨w.heap.size, 6, none⟩ = _ := k1c.cell (i := 6) rfl
  have c7 : W3.cell? ⟨w.heap.size, 7, none⟩ = _ := k1c.cell (i := 7) rfl
  have c8 : W3.cell? ⟨w.heap.size, 8, none⟩ = _ := k1c.cell (i := 8) rfl
  go_wp2_with fail
  refine (C3.out _).mono ?_; rintro e w1 ⟨rfl, rfl⟩
  go_wp2_with fail
  refine (C4.out _).mono ?_; rintro e w1 ⟨rfl, rfl⟩
  go_wp2_with fail
  refine (C5.out _).mono ?_; rintro e w1 ⟨rfl, rfl⟩
  go_wp2_with fail
  refine (CR.out _ hRM3).mono ?_; rintro e W4 ⟨rfl, hb5⟩
  have hb6 := ext_trans hb4 hb5
  have k1d := k1c.ext hb5
  clear c0 c1 c2 c3 c4 c5 c6 c7 c8 CR hb5 hb4 k1c hRM3
  have c0 : W4.cell? ⟨w.heap.size, 0, none⟩ = _ := k1d.cell (i := 0) rfl
  have c1 : W4.cell? ⟨w.heap.size, 1, none⟩ = _ := k1d.cell (i := 1) rfl
  have c2 : W4.cell? ⟨w.heap.size, 2, none⟩ = _ := k1d.cell (i := 2) rfl
  have c3 : W4.cell? ⟨w.heap.size, 3, none⟩ = _ := k1d.cell (i := 3) rfl
  have c4 : W4.cell? ⟨w.heap.size, 4, none⟩ = _ := k1d.cell (i := 4) rfl
  have c5 : W4.cell? ⟨w.heap.size, 5, none⟩ = _ := k1d.cell (i := 5) rfl
  have c6 : W4.cell? ⟨w.heap.size, 6, none⟩ = _ := k1d.cell (i := 6) rfl
  have c7 : W4.cell? ⟨w.heap.size, 7, none⟩ = _ := k1d.cell (i := 7) rfl
  have c8 : W4.cell? ⟨w.heap.size, 8, none⟩ = _ := k1d.cell (i := 8) rfl
  go_wp2_with fail
  refine (C7.out _).mono ?_; rintro e w1 ⟨rfl, rfl⟩
  go_wp2_with fail
  refine (C8.out _).mono ?_; rintro e w1 ⟨rfl, rfl⟩
  go_wp2
  go_ret
  exact ⟨rfl, hb6⟩
theorem blk_ints {w : World} {B T : Nat} {l : List Int} (h : Blk w B T (l.map (Value.int .i64))) : Cells w (some ⟨B, 0, none⟩) 1 encI l := fun i x hi => ⟨B, 0, rfl, fun j u hu => by
  rcases j with _ | j
  · simp [encI] at hu; subst hu
    have := h.cell (i := i) (v := .int .i64 x) (by simp [hi])
    simpa using this
  · simp [encI] at hu⟩
theorem num_ok (l : List Int) (w : World) (h : ∀ x ∈ l, x = 0) : PredR Try.prog 95 #[] #[] (Value.int .i64) (fun _ => true) w l := by
  intro W x hx hb
  obtain rfl := h x hx
  show Calls Try.prog 95 #[.int .i64 0] W fun e w' => e = .returned (.bool true) ∧ Below W.heap.size W w'
  go_enter Try.func95, Try.ntmps95
  go_wp2
  go_ret
  exact ⟨rfl, Below.refl _ _⟩
theorem quarters_t (v : TwV) (w : World) (h : emptyT v.x) : Calls Try.prog 54 #[v.val] w fun e w' => e = .returned (.bool true) ∧ Below w.heap.size w w' := by
  obtain ⟨⟨opn, slo, shi, pay, lot, rent, riv, cold, cut⟩, O, co, R, cr⟩ := v
  obtain ⟨h1, h2, h3, h4, h5, h6, h7, h8, h9⟩ := h
  simp only at h1 h2 h3 h4 h5 h6 h7 h8 h9
  subst h1 h2 h3 h4 h5 h6 h7 h8 h9
  unfold TwV.val
  simp only [List.length_nil]
  have hx := ext_alloc w (.cells #[.slice O 0 co, .int .i64 0, .int .i64 0, .int .i64 0, .int .i64 0, .int .i64 0, .slice R 0 cr, .int .i64 0, .int .i64 0] 97)
  have hB := Blk.new w 97 [.slice O 0 co, .int .i64 0, .int .i64 0, .int .i64 0, .int .i64 0, .int .i64 0, .slice R 0 cr, .int .i64 0, .int .i64 0]
  have CN := Lib.hid (fun (V : World) b (hV : Cells V (some ⟨b, 0, none⟩) 1 encI [0, 0, 0, 0, 0]) => all_num 95 #[] #[] (fun _ => true) (some ⟨b, 0, none⟩) 5 5 [0, 0, 0, 0, 0] V (enters_of Try.func95 (by kernel_rfl) rfl) rfl (by omega) hV (num_ok _ V (by simp)))
  rw [all_true] at CN
  go_enter Try.func54, Try.ntmps54
  go_upto_region 1 with fail
  change Blk (w.alloc (.cells #[.slice O 0 co, .int .i64 0, .int .i64 0, .int .i64 0, .int .i64 0, .int .i64 0, .slice R 0 cr, .int .i64 0, .int .i64 0] 97)) _ _ _ at hB
  generalize w.alloc (.cells #[.slice O 0 co, .int .i64 0, .int .i64 0, .int .i64 0, .int .i64 0, .int .i64 0, .slice R 0 cr, .int .i64 0, .int .i64 0] 97) = W1 at *
  have c0 : W1.cell? ⟨w.heap.size, 0, none⟩ = _ := hB.cell (i := 0) rfl
  have c1 : W1.cell? ⟨w.heap.size, 1, none⟩ = _ := hB.cell (i := 1) rfl
  have c2 : W1.cell? ⟨w.heap.size, 2, none⟩ = _ := hB.cell (i := 2) rfl
  have c3 : W1.cell? ⟨w.heap.size, 3, none⟩ = _ := hB.cell (i := 3) rfl
  have c4 : W1.cell? ⟨w.heap.size, 4, none⟩ = _ := hB.cell (i := 4) rfl
  have c5 : W1.cell? ⟨w.heap.size, 5, none⟩ = _ := hB.cell (i := 5) rfl
  have c6 : W1.cell? ⟨w.heap.size, 6, none⟩ = _ := hB.cell (i := 6) rfl
  have c7 : W1.cell? ⟨w.heap.size, 7, none⟩ = _ := hB.cell (i := 7) rfl
  have c8 : W1.cell? ⟨w.heap.size, 8, none⟩ = _ := hB.cell (i := 8) rfl
  have hx2 := hx.trans ((ext_alloc W1 (.cells #[.int .i64 0, .int .i64 0, .int .i64 0, .int .i64 0, .int .i64 0] 3)).mono hx.size)
  have hN := blk_ints (l := [0, 0, 0, 0, 0]) (Blk.new W1 3 [.int .i64 0, .int .i64 0, .int .i64 0, .int .i64 0, .int .i64 0])
  go_wp2_with fail
  refine (CN.out _ _ hN).mono ?_; rintro e w1 ⟨rfl, hb1⟩
  go_wp2
  go_ret
  exact ⟨rfl, hx2.trans (hb1.mono (by have := hx.size; simp; omega))⟩
theorem leg_ok (l : List (Int × Int)) (w : World) (h : ∀ x ∈ l, 0 ≤ x.1 ∧ x.1 ≤ 200 ∧ 0 ≤ x.2 ∧ x.2 ≤ 1000000) : PredR Try.prog 59 #[] #[] valR (fun _ => true) w l := by
  intro W x hx hb
  have h1 := h x hx
  obtain ⟨x, y⟩ := x
  simp only at h1
  have C1 := Lib.hid (fun V => rwithin_t (show 0 ≤ x ∧ x ≤ 200 from ⟨h1.1, h1.2.1⟩) V)
  have C2 := Lib.hid (fun V => rwithin_t (show 0 ≤ y ∧ y ≤ 1000000 from ⟨h1.2.2.1, h1.2.2.2⟩) V)
  have hx := ext_alloc W (.cells #[.int .i64 x, .int .i64 y] 99)
  clear h1 h
  show Calls Try.prog 59 #[.agg #[.int .i64 x, .int .i64 y]] W fun e w' => e = .returned (.bool true) ∧ Below W.heap.size W w'
  go_enter Try.func59, Try.ntmps59
  go_wp2_with fail
  refine (C1.out _).mono ?_; rintro e w1 ⟨rfl, rfl⟩
  go_wp2_with fail
  refine (C2.out _).mono ?_; rintro e w1 ⟨rfl, rfl⟩
  go_wp2
  go_ret
  exact ⟨rfl, hx⟩
theorem tw_ok (l : List TwV) (days : Int) (X : Nat) (w : World) (hd : 1 ≤ days ∧ days ≤ 60) (hX : w.cell? ⟨X, 0, none⟩ = some (.int .i64 days)) (hM : ∀ v ∈ l, TwM w v) (h : ∀ v ∈ l, TownOk v.x days) : PredR Try.prog 56 #[] #[.pointer (some ⟨X, 0, none⟩)] TwV.val (fun _ => true) w l := by
  intro W v hv hb
  have hX1 := cell_ext hX hb
  have hXl := cell_lt hX1
  have C1 := Lib.hid (fun V (hV : Below W.heap.size W V) => tvalid_t v days V hd ((hM v hv).ext (ext_trans hb hV)) (h v hv))
  clear hX hM h hv
  obtain ⟨⟨opn, slo, shi, pay, lot, rent, riv, cold, cut⟩, O, co, R, cr⟩ := v
  unfold TwV.val at *
  simp only at C1
  generalize opn.length = no at *
  generalize riv.length = nr at *
  have hx := ext_alloc W (.cells #[.slice O no co, .int .i64 slo, .int .i64 shi, .int .i64 pay, .int .i64 lot, .int .i64 rent, .slice R nr cr, .int .i64 cold, .int .i64 cut] 97)
  show Calls Try.prog 56 #[.agg #[.slice O no co, .int .i64 slo, .int .i64 shi, .int .i64 pay, .int .i64 lot, .int .i64 rent, .slice R nr cr, .int .i64 cold, .int .i64 cut], .pointer (some ⟨X, 0, none⟩)] W fun e w' => e = .returned (.bool true) ∧ Below W.heap.size W w'
  go_enter Try.func56, Try.ntmps56
  go_wp2_with fail
  refine (C1.out _ hx).mono ?_; rintro e w1 ⟨rfl, hb1⟩
  go_wp2
  go_ret
  exact ⟨rfl, ext_trans hx hb1⟩
end Go.Proofs.Ytilkoooahoecfaa.Er
