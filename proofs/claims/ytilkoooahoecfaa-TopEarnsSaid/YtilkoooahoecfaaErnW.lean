/- Walk: route: licensed. -/
import Derived.Test.YtilkoooahoecfaaErnV
namespace Go.Proofs.Ytilkoooahoecfaa.Er
open Go.RowKit Go.Bs Go.Pl Go.Sort Go.Er
set_option maxRecDepth 100000 in
set_option maxHeartbeats 2000000 in
theorem licensed_any (v : TwV) (s : StE) (days : Int) (w : World) (hM : TwM w v) (ht : TownOk v.x days) : Calls Try.prog 87 #[v.val, s.val] w (Soft (0 ≤ s.fst ∧ s.lst ≤ days - 1) w) := by
  have hx1 := ext_alloc w (.cells v.enc.toArray 97)
  have hx2 := ext_alloc (w.alloc (.cells v.enc.toArray 97)) (.cells s.enc.toArray 104)
  have k1 := (Blk.new w 97 v.enc).ext hx2
  have k2 := Blk.new (w.alloc (.cells v.enc.toArray 97)) 104 s.enc
  have hx := ext_trans hx1 hx2
  have hO := hM.opn.ext hx
  have hn3 := ht.n3
  have Hk := Lib.hid ht.opn.1
  clear hM hx1 hx2 ht
  obtain ⟨⟨opn, slo, shi, pay, lot, rent, riv, cold, cut⟩, O, co, R, cr⟩ := v
  obtain ⟨a, f, z⟩ := s
  unfold TwV.val TwV.enc StE.val StE.enc at *
  simp only at hO hn3 Hk k1 k2 hx ⊢
  generalize hno : opn.length = no at *
  have Hno := Lib.hid hno
  clear hno
  generalize riv.length = nr at *
  generalize hP : (0 ≤ f ∧ z ≤ days - 1) = P
  have HP := Lib.hid (show 0 ≤ f → z ≤ days - 1 → P from fun h1 h2 => by rw [← hP]; exact ⟨h1, h2⟩)
  clear hP
  have i0 : ∀ w : World, (Instr.index 114 (.agg #[.int .i64 f, .int .i64 z]) (.int .i64 0)).run Try.prog w = .ok (.int .i64 f) w := fun _ => by kernel_rfl
  have i1 : ∀ w : World, (Instr.index 114 (.agg #[.int .i64 f, .int .i64 z]) (.int .i64 1)).run Try.prog w = .ok (.int .i64 z) w := fun _ => by kernel_rfl
  go_enter Try.func87, Try.ntmps87
  go_upto_region 1 with fail
  have e1 : (w.alloc (.cells #[.slice O no co, .int .i64 slo, .int .i64 shi, .int .i64 pay, .int .i64 lot, .int .i64 rent, .slice R nr cr, .int .i64 cold, .int .i64 cut] 97)).heap.size = w.heap.size + 1 := by simp
  change Blk ((w.alloc (.cells #[.slice O no co, .int .i64 slo, .int .i64 shi, .int .i64 pay, .int .i64 lot, .int .i64 rent, .slice R nr cr, .int .i64 cold, .int .i64 cut] 97)).alloc (.cells #[.int .i64 a, .int .i64 f, .int .i64 z] 104)) _ _ _ at k1
  change Blk ((w.alloc (.cells #[.slice O no co, .int .i64 slo, .int .i64 shi, .int .i64 pay, .int .i64 lot, .int .i64 rent, .slice R nr cr, .int .i64 cold, .int .i64 cut] 97)).alloc (.cells #[.int .i64 a, .int .i64 f, .int .i64 z] 104)) (w.alloc (.cells #[.slice O no co, .int .i64 slo, .int .i64 shi, .int .i64 pay, .int .i64 lot, .int .i64 rent, .slice R nr cr, .int .i64 cold, .int .i64 cut] 97)).heap.size 104 _ at k2
  rw [e1] at k2
  change Below w.heap.size w ((w.alloc (.cells #[.slice O no co, .int .i64 slo, .int .i64 shi, .int .i64 pay, .int .i64 lot, .int .i64 rent, .slice R nr cr, .int .i64 cold, .int .i64 cut] 97)).alloc (.cells #[.int .i64 a, .int .i64 f, .int .i64 z] 104)) at hx
  generalize ((w.alloc (.cells #[.slice O no co, .int .i64 slo, .int .i64 shi, .int .i64 pay, .int .i64 lot, .int .i64 rent, .slice R nr cr, .int .i64 cold, .int .i64 cut] 97)).alloc (.cells #[.int .i64 a, .int .i64 f, .int .i64 z] 104)) = W0 at *
  clear e1
  refine wp_scope_straight ?_
  go_wp2
  refine wp_label ?_
  have c0 : W0.cell? ⟨w.heap.size, 0, none⟩ = _ := k1.cell (i := 0) rfl
  go_wp2
  go_loopw [5, 13] (fun is kk wr => is = .bool false ∧ ∃ k : Nat, kk = .int .i64 k ∧ k ≤ no ∧ Below W0.heap.size W0 wr) (fun _ kk _ => no - (intOf kk).toNat)
  case atStart => exact ⟨rfl, 0, rfl, by omega, Below.refl _ _⟩
  case round =>
    obtain ⟨rfl, k, rfl, hk, hb⟩ := hrel
    by_cases hlt : k < no
    · have hk1 : k < opn.length := by rw [Hno.out]; exact hlt
      obtain ⟨b, off, rfl, -, r0, r1⟩ := at_rng (hO.ext hb) hk1
      have Hkk := Lib.hid (Hk.out k hlt)
      obtain ⟨x, hxe⟩ : ∃ x, (opn.getD k (0, 0)).1 = x := ⟨_, rfl⟩
      obtain ⟨y, hye⟩ : ∃ x, (opn.getD k (0, 0)).2 = x := ⟨_, rfl⟩
      rw [hxe, hye] at Hkk
      rw [hxe] at r0
      rw [hye] at r1
      clear hxe hye
      have hkn : (k : Int) < (no : Int) := by omega
      have hk0 : (0 : Int) ≤ (k : Int) := by omega
      have hxr := ext_alloc wr (.cells #[.int .i64 x, .int .i64 y] 95)
      have hR := Blk.new wr 95 [.int .i64 x, .int .i64 y]
      have hbr := ext_trans hb hxr
      have k2r := (k2.ext hb).ext hxr
      have d1 : (wr.alloc (.cells #[.int .i64 x, .int .i64 y] 95)).cell? ⟨w.heap.size + 1, 1, none⟩ = _ := k2r.cell (i := 1) rfl
      have d2 : (wr.alloc (.cells #[.int .i64 x, .int .i64 y] 95)).cell? ⟨w.heap.size + 1, 2, none⟩ = _ := k2r.cell (i := 2) rfl
      go_upto_block 2 with fail
      change Blk (wr.alloc (.cells #[.int .i64 x, .int .i64 y] 95)) _ _ _ at hR
      change Below _ W0 (wr.alloc (.cells #[.int .i64 x, .int .i64 y] 95)) at hbr
      generalize hw4 : wr.alloc (.cells #[.int .i64 x, .int .i64 y] 95) = w4 at *
      generalize hrs : wr.heap.size = rs at *
      clear hxr hw4 hrs d1 d2 r0 r1 k2r
      go_wp2
      go_loopw [22] (fun jj wr => ∃ j : Nat, jj = .int .i64 j ∧ j ≤ 2 ∧ Hid ((1 ≤ j → x ≤ f ∧ f ≤ y) ∧ (2 ≤ j → x ≤ z ∧ z ≤ y)) ∧ Below W0.heap.size W0 wr ∧ Blk wr rs 95 [.int .i64 x, .int .i64 y]) (fun jj _ => 2 - (intOf jj).toNat)
      case atStart => exact ⟨0, rfl, by omega, Lib.hid ⟨fun h => absurd h (by omega), fun h => absurd h (by omega)⟩, hbr, hR⟩
      case round =>
        obtain ⟨j, rfl, hj, Hj, hb2, hR2⟩ := hrel
        have d0 : wr.cell? ⟨rs, 0, none⟩ = _ := hR2.cell (i := 0) rfl
        have d1 : wr.cell? ⟨rs, 1, none⟩ = _ := hR2.cell (i := 1) rfl
        rcases (show j = 0 ∨ j = 1 ∨ j = 2 by omega) with rfl | rfl | rfl
        · have C1 := Lib.hid (fun V => rhas_any x y f V)
          have Hq := Lib.hid (show btwE f x y = true → x ≤ f ∧ f ≤ y from fun h => of_decide_eq_true h)
          generalize btwE f x y = q at *
          go_wp2_with fail
          refine (C1.out _).mono ?_; rintro e w1 ⟨rfl, hb1⟩
          have hbf := ext_trans hb2 hb1
          cases q
          · go_wp2
            go_roundw
            case rel => exact ⟨rfl, k + 1, by go_num, by omega, hbf⟩
            case measure => simp [intOf]; omega
          · go_wp2
            go_roundw
            case rel => exact ⟨1, rfl, by omega, Lib.hid ⟨fun _ => Hq.out (by trivial), fun h => absurd h (by omega)⟩, hbf, hR2.ext hb1⟩
            case measure => simp [intOf]
        · have C1 := Lib.hid (fun V => rhas_any x y z V)
          have Hq := Lib.hid (show btwE z x y = true → x ≤ z ∧ z ≤ y from fun h => of_decide_eq_true h)
          generalize btwE z x y = q at *
          go_wp2_with fail
          refine (C1.out _).mono ?_; rintro e w1 ⟨rfl, hb1⟩
          have hbf := ext_trans hb2 hb1
          cases q
          · go_wp2
            go_roundw
            case rel => exact ⟨rfl, k + 1, by go_num, by omega, hbf⟩
            case measure => simp [intOf]; omega
          · go_wp2
            go_roundw
            case rel => exact ⟨2, rfl, by omega, Lib.hid ⟨fun _ => Hj.out.1 (by omega), fun h => Hq.out (by trivial)⟩, hbf, hR2.ext hb1⟩
            case measure => simp [intOf]
        · have HPr := Lib.hid (show P from by
            have h1 := Hj.out.1 (by omega)
            have h2 := Hj.out.2 (by omega)
            have h3 := Hkk.out
            exact HP.out (by omega) (by omega))
          go_wp2
          try rw [Exit.noGoto_ret]
          go_ret
          exact Soft.of (ext_trans hx hb2) fun _ => HPr.out
    · obtain rfl : k = no := by omega
      go_wp2
      try rw [Exit.noGoto_ret]
      go_ret
      exact Soft.no (ext_trans hx hb)
end Go.Proofs.Ytilkoooahoecfaa.Er
