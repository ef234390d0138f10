/- The law ProgrammeProves: its walk. -/
import Derived.Test.YtcnidhcdkbfpcaaGreatPvsA
import Derived.Test.YtcnidhcdkbfpcaaGreatPrlJ
import Derived.Test.YtcnidhcdkbfpcaaGreatPrlH
import Derived.Test.YtcnidhcdkbfpcaaGreatPrlI
import Derived.Deep.CutRange
namespace Go.Proofs.YtcnidhcdkbfpcaaGreat
open Go.RowKit Go.Bs Go.Pg Go.Pl Go.Sort
theorem prov_bad {s : Sh} {l : List Int} {c : Int} {T : List (List Int)} (h : s.okB = false) : provB s l c T = false := by
  unfold provB rightE askE
  rw [h]
  rfl
theorem prov_p {s : Sh} {l : List Int} {c : Int} {T : List (List Int)} (hok : s.okB = true) (h : progV s l = false) : provB s l c T = false := by
  unfold provB
  rw [progV_eq hok, h]; rfl
theorem prov_c {s : Sh} {l : List Int} {c : Int} {T : List (List Int)} (h : ¬ s.cost (l.map Int.toNat) = c) : provB s l c T = false := by
  unfold provB
  rw [decide_eq_false h]; simp
theorem prov_t {s : Sh} {l : List Int} {c : Int} {T : List (List Int)} (h : s.rightT T = false) : provB s l c T = false := by
  unfold provB
  rw [h]; simp
theorem prov_b {s : Sh} {l : List Int} {c : Int} {T : List (List Int)} (hok : s.okB = true) (h1 : progV s l = true) (h2 : s.cost (l.map Int.toNat) = c) (h3 : s.rightT T = true) : provB s l c T = decide (c ≤ s.bound T) := by
  unfold provB
  rw [progV_eq hok, h1, h2, h3]; simp
theorem shape_of {s : Sh} {T : List (List Int)} (h : s.rightT T = true) : s.shapeB T = true := by
  unfold Sh.rightT at h
  simp only [Bool.and_eq_true] at h
  exact h.1
theorem progV_nat {s : Sh} {l : List Int} (h : progV s l = true) : ∃ k, l = toI k ∧ (∀ i ∈ k, i < s.acts.length) ∧ l.map Int.toNat = k := by
  unfold progV at h
  simp only [Bool.and_eq_true] at h
  obtain ⟨k, rfl, -, hk, -⟩ := ord_nat h.1
  exact ⟨k, rfl, hk, toI_toNat k⟩
set_option maxRecDepth 100000 in
set_option maxHeartbeats 10000000 in
theorem proves_law (s : Sh) (p : ShP) (A : Option Addr) (n c : Nat) (l : List Int) (cost : Int) (B : Option Addr) (m d : Nat) (T : List (List Int)) (own : Bool) (rw1 at1 by1 : Int) (w : World) (h : ShW w s p) (hn : l.length = n) (hn9 : n ≤ 9223372036854775807) (hd : Cells w A 1 encI l)
    (hm : T.length = m) (hm9 : m ≤ 9223372036854775807) (hr9 : ∀ r ∈ T, r.length ≤ 9223372036854775807) (hT : TabA w B T) (hrw : 0 ≤ rw1 ∧ rw1 ≤ 255) (hat : 0 ≤ at1 ∧ at1 ≤ 255) :
    Calls Tryz.prog 3 #[shV s p, .slice A n c, .int .i64 cost, .slice B m d, .bool own, .int .u8 rw1, .int .u8 at1, .int .i64 by1] w fun e w' => e = .returned (.bool true) ∧ Below w.heap.size w w' := by
  have hb0 := ext_alloc w (.cells (shC s p).toArray 26)
  have hS := Blk.new w 26 (shC s p)
  have h0 := h.ext hb0
  have HA := Lib.hid (fun W (hW : Below w.heap.size w W) => And.intro (hd.ext hW) (hT.ext hW))
  have Hn := Lib.hid hn
  have Hm := Lib.hid hm
  have Hr9 := Lib.hid hr9
  clear h hd hT hn hm hr9
  unfold shV at *
  unfold shC at *
  go_enter Tryz.func3, Tryz.ntmps3
  go_upto_region 1 with fail
  change Blk (w.alloc (.cells #[.slice p.A s.acts.length p.cA, .slice p.R s.rest.length p.cR, .slice p.I s.ins.length p.cI, .slice p.O s.outs.length p.cO, .int .i64 s.cover, .int .i64 s.dull, .slice p.B s.before.length p.cB] 26)) _ _ _ at hS
  generalize w.alloc (.cells #[.slice p.A s.acts.length p.cA, .slice p.R s.rest.length p.cR, .slice p.I s.ins.length p.cI, .slice p.O s.outs.length p.cO, .int .i64 s.cover, .int .i64 s.dull, .slice p.B s.before.length p.cB] 26) = W0 at *
  have x0 : W0.cell? ⟨w.heap.size, 0, none⟩ = _ := hS.cell (i := 0) rfl
  have x1 : W0.cell? ⟨w.heap.size, 1, none⟩ = _ := hS.cell (i := 1) rfl
  have x2 : W0.cell? ⟨w.heap.size, 2, none⟩ = _ := hS.cell (i := 2) rfl
  have x3 : W0.cell? ⟨w.heap.size, 3, none⟩ = _ := hS.cell (i := 3) rfl
  have x4 : W0.cell? ⟨w.heap.size, 4, none⟩ = _ := hS.cell (i := 4) rfl
  have x5 : W0.cell? ⟨w.heap.size, 5, none⟩ = _ := hS.cell (i := 5) rfl
  have x6 : W0.cell? ⟨w.heap.size, 6, none⟩ = _ := hS.cell (i := 6) rfl
  go_wp2_with fail
  refine (Few_any s p W0 h0).mono ?_; rintro e W1 ⟨rfl, hb1⟩
  cases hf : s.fewB
  · clear x0 x1 x2 x3 x4 x5 x6
    go_wp2_with fail
    refine (wakes_any _).mono ?_; rintro e wz ⟨rfl, hbz⟩
    go_wp2
    go_ret
    exact ⟨rfl, ext_trans (ext_trans hb0 hb1) hbz⟩
  have hm1 := (h0.few hf).ext hb1
  have hS1 := hS.ext hb1
  have hbw := ext_trans hb0 hb1
  clear hb0 hb1 h0 hS hf x0 x1 x2 x3 x4 x5 x6
  have x0 : W1.cell? ⟨w.heap.size, 0, none⟩ = _ := hS1.cell (i := 0) rfl
  by_cases g1 : s.acts.length ≤ 5
  rotate_left
  · have g1' : (s.acts.length : Int) > 5 := by omega
    go_wp2_with fail
    refine (wakes_any _).mono ?_; rintro e wz ⟨rfl, hbz⟩
    go_wp2
    go_ret
    exact ⟨rfl, ext_trans hbw hbz⟩
  have g1' : ¬ (s.acts.length : Int) > 5 := by omega
  by_cases g2 : n ≤ 12
  rotate_left
  · have g2' : (n : Int) > 12 := by omega
    go_wp2_with fail
    refine (wakes_any _).mono ?_; rintro e wz ⟨rfl, hbz⟩
    go_wp2
    go_ret
    exact ⟨rfl, ext_trans hbw hbz⟩
  have g2' : ¬ (n : Int) > 12 := by omega
  by_cases g3 : m ≤ 40
  rotate_left
  · have g3' : (m : Int) > 40 := by omega
    go_wp2_with fail
    refine (wakes_any _).mono ?_; rintro e wz ⟨rfl, hbz⟩
    go_wp2
    go_ret
    exact ⟨rfl, ext_trans hbw hbz⟩
  have g3' : ¬ (m : Int) > 40 := by omega
  go_upto_block 0 with fail
  clear x0 g1' g2' g3'
  have HM := Lib.hid (fun W (hW : Below W1.heap.size W1 W) => And.intro (hm1.ext hW) (And.intro (hS1.ext hW) (ext_trans hbw hW)))
  have HA1 := Lib.hid (HA.out W1 hbw)
  clear hm1 hS1
  go_wp2
  go_loopw [17] (fun t wq => ∃ (i : Nat), t = .int .i64 i ∧ i ≤ m ∧ wq = W1 ∧ Hid (∀ q (h : q < T.length), q < i → T[q].length ≤ 40)) (fun t _ => m - (intOf t).toNat)
  case atStart => exact ⟨0, rfl, by omega, rfl, Lib.hid (fun q _ h => by omega)⟩
  case round =>
    obtain ⟨i, rfl, hi, rfl, Hq⟩ := hrel
    by_cases hlt : i < m
    · have hlt' : (i : Int) < (m : Int) := by omega
      have hi0 : (0 : Int) ≤ (i : Int) := by omega
      have hiT : i < T.length := by rw [Hm.out]; exact hlt
      obtain ⟨bb, ob, A1, c1, hB, q0, -⟩ := HA1.out.2.row hiT
      subst hB
      by_cases g4 : T[i].length ≤ 40
      · have g4' : ¬ (T[i].length : Int) > 40 := by omega
        have Hq2 := Lib.hid (show ∀ q (h : q < T.length), q < i + 1 → T[q].length ≤ 40 from fun q h hq => by
          rcases Nat.lt_or_ge q i with h1 | h1
          · exact Hq.out q h h1
          · obtain rfl : q = i := by omega
            exact g4)
        generalize T[i].length = tl at *
        clear Hq
        go_wp2
        go_roundw
        case rel => exact ⟨i + 1, by go_num, by omega, by first | rfl | trivial, Hq2⟩
        case measure => simp [intOf] <;> omega
      · have g4' : (T[i].length : Int) > 40 := by omega
        generalize T[i].length = tl at *
        clear Hq
        go_wp2_with fail
        refine (wakes_any _).mono ?_; rintro e wz ⟨rfl, hbz⟩
        go_wp2
        go_ret
        exact ⟨rfl, ext_trans hbw hbz⟩
    · obtain rfl : i = m := by omega
      have Hr40 := Lib.hid (show ∀ r ∈ T, r.length ≤ 1000 from fun r hr => by
        obtain ⟨q, hq, rfl⟩ := List.mem_iff_getElem.1 hr
        have := Hq.out q hq (by rw [← Hm.out]; exact hq)
        omega)
      clear Hq
      go_upto_region 8 with fail
      go_wp2_with fail
      refine (list_any A n c l wr Hn.out (by omega) HA1.out.1).mono ?_; rintro e W2 ⟨vl, rfl, ⟨A5, c5, rfl, -, -, hd5, -⟩, hb2⟩
      rw [Hn.out]
      go_wp2_with fail
      refine (rows2_any B i d T W2 Hm.out (by omega) Hr40.out (HA1.out.2.ext hb2)).mono ?_; rintro e W3 ⟨⟨A6, c6, rfl, hJ⟩, hb3⟩
      have hb13 := ext_trans hb2 hb3
      have HF := Lib.hid (fun W (hW : Below W3.heap.size W3 W) => And.intro ((hd5.ext hb3).ext hW) (hJ.toA.ext hW))
      have HM3 := Lib.hid (fun W (hW : Below W3.heap.size W3 W) => HM.out W (ext_trans hb13 hW))
      have hsz3 := hb13.size
      clear hd5 hJ hb2 hb3 hb13 HA1 HA HM hbw
      cases own
      · have hbW := Below.refl W3.heap.size W3
        obtain ⟨hc3, ht3⟩ := HF.out W3 hbW
        clear HF
        go_upto_region 18 with fail
        have HC := Lib.hid (fun W (hW : Below W3.heap.size W3 W) => And.intro (HM3.out W (ext_trans hbW hW)) (And.intro (hc3.ext hW) (ht3.ext hW)))
        have Hbad := Lib.hid (fun h => prov_bad (s := s) (l := l) (c := cost) (T := T) h)
        have Hp := Lib.hid (fun h1 h2 => prov_p (s := s) (l := l) (c := cost) (T := T) h1 h2)
        have Hc := Lib.hid (fun h => prov_c (s := s) (l := l) (c := cost) (T := T) h)
        have Ht := Lib.hid (fun h => prov_t (s := s) (l := l) (c := cost) (T := T) h)
        have Hbd := Lib.hid (fun h1 h2 h3 h4 => prov_b (s := s) (l := l) (c := cost) (T := T) h1 h2 h3 h4)
        generalize hpv : provB s l cost T = pv at *
        have Hpv := Lib.hid hpv
        clear hpv
        obtain ⟨hmw, hSw, -⟩ := HM3.out W3 hbW
        have CR := Lib.hid (Right_any s p W3 hmw)
        have x0 : W3.cell? ⟨w.heap.size, 0, none⟩ = _ := hSw.cell (i := 0) rfl
        have x1 : W3.cell? ⟨w.heap.size, 1, none⟩ = _ := hSw.cell (i := 1) rfl
        have x2 : W3.cell? ⟨w.heap.size, 2, none⟩ = _ := hSw.cell (i := 2) rfl
        have x3 : W3.cell? ⟨w.heap.size, 3, none⟩ = _ := hSw.cell (i := 3) rfl
        have x4 : W3.cell? ⟨w.heap.size, 4, none⟩ = _ := hSw.cell (i := 4) rfl
        have x5 : W3.cell? ⟨w.heap.size, 5, none⟩ = _ := hSw.cell (i := 5) rfl
        have x6 : W3.cell? ⟨w.heap.size, 6, none⟩ = _ := hSw.cell (i := 6) rfl
        clear hmw hSw
        go_cut [25] from 132 to 157 (fun v W => v = .bool pv ∧ Below W3.heap.size W3 W)
        case first =>
          cases hok : s.okB
          · rw [hok] at CR
            obtain rfl := Hbad.out hok
            clear Hbad Hp Hc Ht Hbd hok Hpv
            go_wp2_with fail
            refine CR.out.mono ?_; rintro e U1 ⟨rfl, hu1⟩
            clear x0 x1 x2 x3 x4 x5 x6
            go_wp2
            go_meet
            case rel => exact ⟨by first | rfl | trivial, hu1⟩
          rw [hok] at CR
          have Hok := Lib.hid hok
          clear hok
          go_wp2_with fail
          refine CR.out.mono ?_; rintro e U1 ⟨rfl, hu1⟩
          clear x0 x1 x2 x3 x4 x5 x6
          clear CR
          obtain ⟨⟨hmu, hSu, -⟩, hcu, -⟩ := HC.out U1 hu1
          have CP := Lib.hid (RProg_any s p A5 n c5 l U1 hmu (Sh.ok_of Hok.out) Hn.out (by omega) hcu)
          have x0 : U1.cell? ⟨w.heap.size, 0, none⟩ = _ := hSu.cell (i := 0) rfl
          have x1 : U1.cell? ⟨w.heap.size, 1, none⟩ = _ := hSu.cell (i := 1) rfl
          have x2 : U1.cell? ⟨w.heap.size, 2, none⟩ = _ := hSu.cell (i := 2) rfl
          have x3 : U1.cell? ⟨w.heap.size, 3, none⟩ = _ := hSu.cell (i := 3) rfl
          have x4 : U1.cell? ⟨w.heap.size, 4, none⟩ = _ := hSu.cell (i := 4) rfl
          have x5 : U1.cell? ⟨w.heap.size, 5, none⟩ = _ := hSu.cell (i := 5) rfl
          have x6 : U1.cell? ⟨w.heap.size, 6, none⟩ = _ := hSu.cell (i := 6) rfl
          clear hmu hSu hcu
          cases hpg : progV s l
          · rw [hpg] at CP
            obtain rfl := Hp.out Hok.out hpg
            clear Hbad Hp Hc Ht Hbd hpg Hpv
            go_wp2_with fail
            refine CP.out.mono ?_; rintro e U2 ⟨rfl, hu2⟩
            clear x0 x1 x2 x3 x4 x5 x6
            go_wp2
            go_meet
            case rel => exact ⟨by first | rfl | trivial, ext_trans hu1 hu2⟩
          rw [hpg] at CP
          obtain ⟨k, hlk, hkn, hkm⟩ := progV_nat hpg
          have Hpg := Lib.hid hpg
          clear hpg
          go_wp2_with fail
          refine CP.out.mono ?_; rintro e U2 ⟨rfl, hu2⟩
          clear x0 x1 x2 x3 x4 x5 x6
          clear CP
          have hu2w := ext_trans hu1 hu2
          obtain ⟨⟨hmu, hSu, -⟩, hcu, -⟩ := HC.out U2 hu2w
          have CC := Lib.hid (RCost_any s p A5 n c5 k U2 hmu (Sh.ok_of Hok.out) hkn (by have := Hn.out; rw [hlk, toI_len] at this; exact this) (by omega) (hlk ▸ hcu))
          have x0 : U2.cell? ⟨w.heap.size, 0, none⟩ = _ := hSu.cell (i := 0) rfl
          have x1 : U2.cell? ⟨w.heap.size, 1, none⟩ = _ := hSu.cell (i := 1) rfl
          have x2 : U2.cell? ⟨w.heap.size, 2, none⟩ = _ := hSu.cell (i := 2) rfl
          have x3 : U2.cell? ⟨w.heap.size, 3, none⟩ = _ := hSu.cell (i := 3) rfl
          have x4 : U2.cell? ⟨w.heap.size, 4, none⟩ = _ := hSu.cell (i := 4) rfl
          have x5 : U2.cell? ⟨w.heap.size, 5, none⟩ = _ := hSu.cell (i := 5) rfl
          have x6 : U2.cell? ⟨w.heap.size, 6, none⟩ = _ := hSu.cell (i := 6) rfl
          have Hcc := Lib.hid (show s.cost k = s.cost (l.map Int.toNat) by rw [hkm])
          clear hmu hSu hcu hlk hkn hkm hu1 hu2
          generalize s.cost k = ck at *
          by_cases hce : ck = cost
          rotate_left
          · obtain rfl := Hc.out (by rw [← Hcc.out]; exact hce)
            clear Hbad Hp Hc Ht Hbd Hpv
            go_wp2_with fail
            refine CC.out.mono ?_; rintro e U3 ⟨rfl, hu3⟩
            clear x0 x1 x2 x3 x4 x5 x6
            go_wp2
            go_meet
            case rel => exact ⟨by first | rfl | trivial, ext_trans hu2w hu3⟩
          subst hce
          go_wp2_with fail
          refine CC.out.mono ?_; rintro e U3 ⟨rfl, hu3⟩
          clear x0 x1 x2 x3 x4 x5 x6
          clear CC
          have hu3w := ext_trans hu2w hu3
          obtain ⟨⟨hmu, hSu, -⟩, -, htu⟩ := HC.out U3 hu3w
          have CT := Lib.hid (RTable_any s p A6 i c6 T U3 hmu (Sh.ok_of Hok.out) Hm.out (by omega) (fun r hr => Nat.le_trans (Hr40.out r hr) (by decide)) htu)
          have x0 : U3.cell? ⟨w.heap.size, 0, none⟩ = _ := hSu.cell (i := 0) rfl
          have x1 : U3.cell? ⟨w.heap.size, 1, none⟩ = _ := hSu.cell (i := 1) rfl
          have x2 : U3.cell? ⟨w.heap.size, 2, none⟩ = _ := hSu.cell (i := 2) rfl
          have x3 : U3.cell? ⟨w.heap.size, 3, none⟩ = _ := hSu.cell (i := 3) rfl
          have x4 : U3.cell? ⟨w.heap.size, 4, none⟩ = _ := hSu.cell (i := 4) rfl
          have x5 : U3.cell? ⟨w.heap.size, 5, none⟩ = _ := hSu.cell (i := 5) rfl
          have x6 : U3.cell? ⟨w.heap.size, 6, none⟩ = _ := hSu.cell (i := 6) rfl
          clear hmu hSu htu hu2w hu3
          cases hrt : s.rightT T
          · rw [hrt] at CT
            obtain rfl := Ht.out hrt
            clear Hbad Hp Hc Ht Hbd hrt Hpv
            go_wp2_with fail
            refine CT.out.mono ?_; rintro e U4 ⟨rfl, hu4⟩
            clear x0 x1 x2 x3 x4 x5 x6
            go_wp2
            go_meet
            case rel => exact ⟨by first | rfl | trivial, ext_trans hu3w hu4⟩
          rw [hrt] at CT
          go_wp2_with fail
          refine CT.out.mono ?_; rintro e U4 ⟨rfl, hu4⟩
          clear x0 x1 x2 x3 x4 x5 x6
          clear CT
          have hu4w := ext_trans hu3w hu4
          obtain ⟨⟨hmu, hSu, -⟩, -, htu⟩ := HC.out U4 hu4w
          have CB := Lib.hid (RBound_any s p A6 i c6 T U4 hmu (Sh.ok_of Hok.out) Hm.out htu (shape_of hrt))
          have x0 : U4.cell? ⟨w.heap.size, 0, none⟩ = _ := hSu.cell (i := 0) rfl
          have x1 : U4.cell? ⟨w.heap.size, 1, none⟩ = _ := hSu.cell (i := 1) rfl
          have x2 : U4.cell? ⟨w.heap.size, 2, none⟩ = _ := hSu.cell (i := 2) rfl
          have x3 : U4.cell? ⟨w.heap.size, 3, none⟩ = _ := hSu.cell (i := 3) rfl
          have x4 : U4.cell? ⟨w.heap.size, 4, none⟩ = _ := hSu.cell (i := 4) rfl
          have x5 : U4.cell? ⟨w.heap.size, 5, none⟩ = _ := hSu.cell (i := 5) rfl
          have x6 : U4.cell? ⟨w.heap.size, 6, none⟩ = _ := hSu.cell (i := 6) rfl
          have hfin := Hbd.out Hok.out Hpg.out Hcc.out.symm hrt
          clear hmu hSu htu hu3w hu4 Hbad Hp Hc Ht Hbd Hpv hrt Hpg
          generalize s.bound T = bd at *
          subst hfin
          go_wp2_with fail
          refine CB.out.mono ?_; rintro e U5 ⟨rfl, hu5⟩
          clear x0 x1 x2 x3 x4 x5 x6
          go_wp2
          go_meet
          case rel => exact ⟨by first | rfl | trivial | simp, ext_trans hu4w hu5⟩
        case rest =>
          obtain ⟨rfl, hu⟩ := hcut
          clear x0 x1 x2 x3 x4 x5 x6 CR Hbad Hp Hc Ht Hbd
          obtain ⟨⟨hmu, hSu, -⟩, -, -⟩ := HC.out wc hu
          have x0 : wc.cell? ⟨w.heap.size, 0, none⟩ = _ := hSu.cell (i := 0) rfl
          have x1 : wc.cell? ⟨w.heap.size, 1, none⟩ = _ := hSu.cell (i := 1) rfl
          have x2 : wc.cell? ⟨w.heap.size, 2, none⟩ = _ := hSu.cell (i := 2) rfl
          have x3 : wc.cell? ⟨w.heap.size, 3, none⟩ = _ := hSu.cell (i := 3) rfl
          have x4 : wc.cell? ⟨w.heap.size, 4, none⟩ = _ := hSu.cell (i := 4) rfl
          have x5 : wc.cell? ⟨w.heap.size, 5, none⟩ = _ := hSu.cell (i := 5) rfl
          have x6 : wc.cell? ⟨w.heap.size, 6, none⟩ = _ := hSu.cell (i := 6) rfl
          clear hSu
          go_wp2_with fail
          refine (Show_any s p wc hmu).mono ?_; rintro e Y1 ⟨⟨p9, rfl, hm9'⟩, hy1⟩
          clear x0 x1 x2 x3 x4 x5 x6
          have hy1w := ext_trans hu hy1
          clear hmu
          go_wp2_with fail
          refine (list_any A5 n c5 l Y1 Hn.out (by omega) (HC.out Y1 hy1w).2.1).mono ?_; rintro e Y2 ⟨vl9, rfl, ⟨A9, c9, rfl, -, -, hd9, -⟩, hy2⟩
          rw [Hn.out]
          have hy2w := ext_trans hy1w hy2
          go_wp2_with fail
          refine (rows2_any A6 i c6 T Y2 Hm.out (by omega) Hr40.out (HC.out Y2 hy2w).2.2).mono ?_; rintro e Y3 ⟨⟨A8, c8, rfl, hJ9⟩, hy3⟩
          have hy3w := ext_trans hy2w hy3
          have CV := Lib.hid (Prove_any s p9 A9 n c9 l cost A8 i c8 T Y3 (hm9'.ext (ext_trans hy2 hy3)) Hn.out (by omega) (hd9.ext hy3) Hm.out (by omega) (fun r hr => Nat.le_trans (Hr40.out r hr) (by decide)) hJ9.toA)
          rw [Hpv.out] at CV
          clear hm9' hd9 hJ9 hy1 hy2 hy3 hy1w hy2w
          go_wp2_with fail
          refine CV.out.mono ?_; rintro e Y4 ⟨rfl, hy4⟩
          have hbz0 := (HC.out Y4 (ext_trans hy3w hy4)).1.2.2
          clear CV hy3w hy4 HC
          cases pv
          all_goals
            go_wp2_with fail
            refine (wakes_any Y4).mono ?_; rintro e wz ⟨rfl, hbz⟩
            go_wp2
            go_ret
            exact ⟨rfl, ext_trans hbz0 hbz⟩
      · obtain ⟨hmw0, hSw0, -⟩ := HM3.out W3 (Below.refl _ _)
        have CR0 := Lib.hid (Right_any s p W3 hmw0)
        have x0 : W3.cell? ⟨w.heap.size, 0, none⟩ = _ := hSw0.cell (i := 0) rfl
        have x1 : W3.cell? ⟨w.heap.size, 1, none⟩ = _ := hSw0.cell (i := 1) rfl
        have x2 : W3.cell? ⟨w.heap.size, 2, none⟩ = _ := hSw0.cell (i := 2) rfl
        have x3 : W3.cell? ⟨w.heap.size, 3, none⟩ = _ := hSw0.cell (i := 3) rfl
        have x4 : W3.cell? ⟨w.heap.size, 4, none⟩ = _ := hSw0.cell (i := 4) rfl
        have x5 : W3.cell? ⟨w.heap.size, 5, none⟩ = _ := hSw0.cell (i := 5) rfl
        have x6 : W3.cell? ⟨w.heap.size, 6, none⟩ = _ := hSw0.cell (i := 6) rfl
        clear hmw0 hSw0
        cases hok0 : s.okB
        · rw [hok0] at CR0
          go_wp2_with fail
          refine CR0.out.mono ?_; rintro e W4 ⟨rfl, hb4⟩
          clear x0 x1 x2 x3 x4 x5 x6 CR0
          obtain ⟨hc3, ht3⟩ := HF.out W4 hb4
          clear HF hok0
          go_upto_region 18 with fail
          have HC := Lib.hid (fun W (hW : Below W4.heap.size W4 W) => And.intro (HM3.out W (ext_trans hb4 hW)) (And.intro (hc3.ext hW) (ht3.ext hW)))
          have Hbad := Lib.hid (fun h => prov_bad (s := s) (l := l) (c := cost) (T := T) h)
          have Hp := Lib.hid (fun h1 h2 => prov_p (s := s) (l := l) (c := cost) (T := T) h1 h2)
          have Hc := Lib.hid (fun h => prov_c (s := s) (l := l) (c := cost) (T := T) h)
          have Ht := Lib.hid (fun h => prov_t (s := s) (l := l) (c := cost) (T := T) h)
          have Hbd := Lib.hid (fun h1 h2 h3 h4 => prov_b (s := s) (l := l) (c := cost) (T := T) h1 h2 h3 h4)
          generalize hpv : provB s l cost T = pv at *
          have Hpv := Lib.hid hpv
          clear hpv
          obtain ⟨hmw, hSw, -⟩ := HM3.out W4 hb4
          have CR := Lib.hid (Right_any s p W4 hmw)
          have x0 : W4.cell? ⟨w.heap.size, 0, none⟩ = _ := hSw.cell (i := 0) rfl
          have x1 : W4.cell? ⟨w.heap.size, 1, none⟩ = _ := hSw.cell (i := 1) rfl
          have x2 : W4.cell? ⟨w.heap.size, 2, none⟩ = _ := hSw.cell (i := 2) rfl
          have x3 : W4.cell? ⟨w.heap.size, 3, none⟩ = _ := hSw.cell (i := 3) rfl
          have x4 : W4.cell? ⟨w.heap.size, 4, none⟩ = _ := hSw.cell (i := 4) rfl
          have x5 : W4.cell? ⟨w.heap.size, 5, none⟩ = _ := hSw.cell (i := 5) rfl
          have x6 : W4.cell? ⟨w.heap.size, 6, none⟩ = _ := hSw.cell (i := 6) rfl
          clear hmw hSw
          go_cut [25] from 132 to 157 (fun v W => v = .bool pv ∧ Below W4.heap.size W4 W)
          case first =>
            cases hok : s.okB
            · rw [hok] at CR
              obtain rfl := Hbad.out hok
              clear Hbad Hp Hc Ht Hbd hok Hpv
              go_wp2_with fail
              refine CR.out.mono ?_; rintro e U1 ⟨rfl, hu1⟩
              clear x0 x1 x2 x3 x4 x5 x6
              go_wp2
              go_meet
              case rel => exact ⟨by first | rfl | trivial, hu1⟩
            rw [hok] at CR
            have Hok := Lib.hid hok
            clear hok
            go_wp2_with fail
            refine CR.out.mono ?_; rintro e U1 ⟨rfl, hu1⟩
            clear x0 x1 x2 x3 x4 x5 x6
            clear CR
            obtain ⟨⟨hmu, hSu, -⟩, hcu, -⟩ := HC.out U1 hu1
            have CP := Lib.hid (RProg_any s p A5 n c5 l U1 hmu (Sh.ok_of Hok.out) Hn.out (by omega) hcu)
            have x0 : U1.cell? ⟨w.heap.size, 0, none⟩ = _ := hSu.cell (i := 0) rfl
            have x1 : U1.cell? ⟨w.heap.size, 1, none⟩ = _ := hSu.cell (i := 1) rfl
            have x2 : U1.cell? ⟨w.heap.size, 2, none⟩ = _ := hSu.cell (i := 2) rfl
            have x3 : U1.cell? ⟨w.heap.size, 3, none⟩ = _ := hSu.cell (i := 3) rfl
            have x4 : U1.cell? ⟨w.heap.size, 4, none⟩ = _ := hSu.cell (i := 4) rfl
            have x5 : U1.cell? ⟨w.heap.size, 5, none⟩ = _ := hSu.cell (i := 5) rfl
            have x6 : U1.cell? ⟨w.heap.size, 6, none⟩ = _ := hSu.cell (i := 6) rfl
            clear hmu hSu hcu
            cases hpg : progV s l
            · rw [hpg] at CP
              obtain rfl := Hp.out Hok.out hpg
              clear Hbad Hp Hc Ht Hbd hpg Hpv
              go_wp2_with fail
              refine CP.out.mono ?_; rintro e U2 ⟨rfl, hu2⟩
              clear x0 x1 x2 x3 x4 x5 x6
              go_wp2
              go_meet
              case rel => exact ⟨by first | rfl | trivial, ext_trans hu1 hu2⟩
            rw [hpg] at CP
            obtain ⟨k, hlk, hkn, hkm⟩ := progV_nat hpg
            have Hpg := Lib.hid hpg
            clear hpg
            go_wp2_with fail
            refine CP.out.mono ?_; rintro e U2 ⟨rfl, hu2⟩
            clear x0 x1 x2 x3 x4 x5 x6
            clear CP
            have hu2w := ext_trans hu1 hu2
            obtain ⟨⟨hmu, hSu, -⟩, hcu, -⟩ := HC.out U2 hu2w
            have CC := Lib.hid (RCost_any s p A5 n c5 k U2 hmu (Sh.ok_of Hok.out) hkn (by have := Hn.out; rw [hlk, toI_len] at this; exact this) (by omega) (hlk ▸ hcu))
            have x0 : U2.cell? ⟨w.heap.size, 0, none⟩ = _ := hSu.cell (i := 0) rfl
            have x1 : U2.cell? ⟨w.heap.size, 1, none⟩ = _ := hSu.cell (i := 1) rfl
            have x2 : U2.cell? ⟨w.heap.size, 2, none⟩ = _ := hSu.cell (i := 2) rfl
            have x3 : U2.cell? ⟨w.heap.size, 3, none⟩ = _ := hSu.cell (i := 3) rfl
            have x4 : U2.cell? ⟨w.heap.size, 4, none⟩ = _ := hSu.cell (i := 4) rfl
            have x5 : U2.cell? ⟨w.heap.size, 5, none⟩ = _ := hSu.cell (i := 5) rfl
            have x6 : U2.cell? ⟨w.heap.size, 6, none⟩ = _ := hSu.cell (i := 6) rfl
            have Hcc := Lib.hid (show s.cost k = s.cost (l.map Int.toNat) by rw [hkm])
            clear hmu hSu hcu hlk hkn hkm hu1 hu2
            generalize s.cost k = ck at *
            by_cases hce : ck = cost
            rotate_left
            · obtain rfl := Hc.out (by rw [← Hcc.out]; exact hce)
              clear Hbad Hp Hc Ht Hbd Hpv
              go_wp2_with fail
              refine CC.out.mono ?_; rintro e U3 ⟨rfl, hu3⟩
              clear x0 x1 x2 x3 x4 x5 x6
              go_wp2
              go_meet
              case rel => exact ⟨by first | rfl | trivial, ext_trans hu2w hu3⟩
            subst hce
            go_wp2_with fail
            refine CC.out.mono ?_; rintro e U3 ⟨rfl, hu3⟩
            clear x0 x1 x2 x3 x4 x5 x6
            clear CC
            have hu3w := ext_trans hu2w hu3
            obtain ⟨⟨hmu, hSu, -⟩, -, htu⟩ := HC.out U3 hu3w
            have CT := Lib.hid (RTable_any s p A6 i c6 T U3 hmu (Sh.ok_of Hok.out) Hm.out (by omega) (fun r hr => Nat.le_trans (Hr40.out r hr) (by decide)) htu)
            have x0 : U3.cell? ⟨w.heap.size, 0, none⟩ = _ := hSu.cell (i := 0) rfl
            have x1 : U3.cell? ⟨w.heap.size, 1, none⟩ = _ := hSu.cell (i := 1) rfl
            have x2 : U3.cell? ⟨w.heap.size, 2, none⟩ = _ := hSu.cell (i := 2) rfl
            have x3 : U3.cell? ⟨w.heap.size, 3, none⟩ = _ := hSu.cell (i := 3) rfl
            have x4 : U3.cell? ⟨w.heap.size, 4, none⟩ = _ := hSu.cell (i := 4) rfl
            have x5 : U3.cell? ⟨w.heap.size, 5, none⟩ = _ := hSu.cell (i := 5) rfl
            have x6 : U3.cell? ⟨w.heap.size, 6, none⟩ = _ := hSu.cell (i := 6) rfl
            clear hmu hSu htu hu2w hu3
            cases hrt : s.rightT T
            · rw [hrt] at CT
              obtain rfl := Ht.out hrt
              clear Hbad Hp Hc Ht Hbd hrt Hpv
              go_wp2_with fail
              refine CT.out.mono ?_; rintro e U4 ⟨rfl, hu4⟩
              clear x0 x1 x2 x3 x4 x5 x6
              go_wp2
              go_meet
              case rel => exact ⟨by first | rfl | trivial, ext_trans hu3w hu4⟩
            rw [hrt] at CT
            go_wp2_with fail
            refine CT.out.mono ?_; rintro e U4 ⟨rfl, hu4⟩
            clear x0 x1 x2 x3 x4 x5 x6
            clear CT
            have hu4w := ext_trans hu3w hu4
            obtain ⟨⟨hmu, hSu, -⟩, -, htu⟩ := HC.out U4 hu4w
            have CB := Lib.hid (RBound_any s p A6 i c6 T U4 hmu (Sh.ok_of Hok.out) Hm.out htu (shape_of hrt))
            have x0 : U4.cell? ⟨w.heap.size, 0, none⟩ = _ := hSu.cell (i := 0) rfl
            have x1 : U4.cell? ⟨w.heap.size, 1, none⟩ = _ := hSu.cell (i := 1) rfl
            have x2 : U4.cell? ⟨w.heap.size, 2, none⟩ = _ := hSu.cell (i := 2) rfl
            have x3 : U4.cell? ⟨w.heap.size, 3, none⟩ = _ := hSu.cell (i := 3) rfl
            have x4 : U4.cell? ⟨w.heap.size, 4, none⟩ = _ := hSu.cell (i := 4) rfl
            have x5 : U4.cell? ⟨w.heap.size, 5, none⟩ = _ := hSu.cell (i := 5) rfl
            have x6 : U4.cell? ⟨w.heap.size, 6, none⟩ = _ := hSu.cell (i := 6) rfl
            have hfin := Hbd.out Hok.out Hpg.out Hcc.out.symm hrt
            clear hmu hSu htu hu3w hu4 Hbad Hp Hc Ht Hbd Hpv hrt Hpg
            generalize s.bound T = bd at *
            subst hfin
            go_wp2_with fail
            refine CB.out.mono ?_; rintro e U5 ⟨rfl, hu5⟩
            clear x0 x1 x2 x3 x4 x5 x6
            go_wp2
            go_meet
            case rel => exact ⟨by first | rfl | trivial | simp, ext_trans hu4w hu5⟩
          case rest =>
            obtain ⟨rfl, hu⟩ := hcut
            clear x0 x1 x2 x3 x4 x5 x6 CR Hbad Hp Hc Ht Hbd
            obtain ⟨⟨hmu, hSu, -⟩, -, -⟩ := HC.out wc hu
            have x0 : wc.cell? ⟨w.heap.size, 0, none⟩ = _ := hSu.cell (i := 0) rfl
            have x1 : wc.cell? ⟨w.heap.size, 1, none⟩ = _ := hSu.cell (i := 1) rfl
            have x2 : wc.cell? ⟨w.heap.size, 2, none⟩ = _ := hSu.cell (i := 2) rfl
            have x3 : wc.cell? ⟨w.heap.size, 3, none⟩ = _ := hSu.cell (i := 3) rfl
            have x4 : wc.cell? ⟨w.heap.size, 4, none⟩ = _ := hSu.cell (i := 4) rfl
            have x5 : wc.cell? ⟨w.heap.size, 5, none⟩ = _ := hSu.cell (i := 5) rfl
            have x6 : wc.cell? ⟨w.heap.size, 6, none⟩ = _ := hSu.cell (i := 6) rfl
            clear hSu
            go_wp2_with fail
            refine (Show_any s p wc hmu).mono ?_; rintro e Y1 ⟨⟨p9, rfl, hm9'⟩, hy1⟩
            clear x0 x1 x2 x3 x4 x5 x6
            have hy1w := ext_trans hu hy1
            clear hmu
            go_wp2_with fail
            refine (list_any A5 n c5 l Y1 Hn.out (by omega) (HC.out Y1 hy1w).2.1).mono ?_; rintro e Y2 ⟨vl9, rfl, ⟨A9, c9, rfl, -, -, hd9, -⟩, hy2⟩
            rw [Hn.out]
            have hy2w := ext_trans hy1w hy2
            go_wp2_with fail
            refine (rows2_any A6 i c6 T Y2 Hm.out (by omega) Hr40.out (HC.out Y2 hy2w).2.2).mono ?_; rintro e Y3 ⟨⟨A8, c8, rfl, hJ9⟩, hy3⟩
            have hy3w := ext_trans hy2w hy3
            have CV := Lib.hid (Prove_any s p9 A9 n c9 l cost A8 i c8 T Y3 (hm9'.ext (ext_trans hy2 hy3)) Hn.out (by omega) (hd9.ext hy3) Hm.out (by omega) (fun r hr => Nat.le_trans (Hr40.out r hr) (by decide)) hJ9.toA)
            rw [Hpv.out] at CV
            clear hm9' hd9 hJ9 hy1 hy2 hy3 hy1w hy2w
            go_wp2_with fail
            refine CV.out.mono ?_; rintro e Y4 ⟨rfl, hy4⟩
            have hbz0 := (HC.out Y4 (ext_trans hy3w hy4)).1.2.2
            clear CV hy3w hy4 HC
            cases pv
            all_goals
              go_wp2_with fail
              refine (wakes_any Y4).mono ?_; rintro e wz ⟨rfl, hbz⟩
              go_wp2
              go_ret
              exact ⟨rfl, ext_trans hbz0 hbz⟩
        rw [hok0] at CR0
        go_wp2_with fail
        refine CR0.out.mono ?_; rintro e W4 ⟨rfl, hb4⟩
        clear x0 x1 x2 x3 x4 x5 x6 CR0
        clear HF
        obtain ⟨hm4, hS4, -⟩ := HM3.out W4 hb4
        have x0 : W4.cell? ⟨w.heap.size, 0, none⟩ = _ := hS4.cell (i := 0) rfl
        have x1 : W4.cell? ⟨w.heap.size, 1, none⟩ = _ := hS4.cell (i := 1) rfl
        have x2 : W4.cell? ⟨w.heap.size, 2, none⟩ = _ := hS4.cell (i := 2) rfl
        have x3 : W4.cell? ⟨w.heap.size, 3, none⟩ = _ := hS4.cell (i := 3) rfl
        have x4 : W4.cell? ⟨w.heap.size, 4, none⟩ = _ := hS4.cell (i := 4) rfl
        have x5 : W4.cell? ⟨w.heap.size, 5, none⟩ = _ := hS4.cell (i := 5) rfl
        have x6 : W4.cell? ⟨w.heap.size, 6, none⟩ = _ := hS4.cell (i := 6) rfl
        go_wp2_with fail
        refine (Show_any s p W4 hm4).mono ?_; rintro e W5 ⟨⟨p5, rfl, hm5⟩, hb5⟩
        clear x0 x1 x2 x3 x4 x5 x6
        go_wp2_with fail
        refine (Best_any s p5 W5 hm5).mono ?_; rintro e W6 ⟨v, rfl, hb6, hcase⟩
        have hb6w := ext_trans hb4 (ext_trans hb5 hb6)
        clear hm4 hS4 hm5
        rcases hcase with ⟨h1, -⟩ | ⟨-, hso, rfl⟩ | ⟨-, q, sl, tv, hi, hso, hsl, htv, rfl⟩
        · rw [hok0] at h1; cases h1
        · have hbz0 := (HM3.out W6 hb6w).2.2
          go_wp2_with fail
          refine (wakes_any _).mono ?_; rintro e wz ⟨rfl, hbz⟩
          go_wp2
          go_ret
          exact ⟨rfl, ext_trans hbz0 hbz⟩
        have Hok := Lib.hid (Sh.ok_of hok0)
        have hql := Sh.progs_len Hok.out (Sh.solve_some Hok.out hso).1
        obtain ⟨A7, c7, rfl, -, -, hq7⟩ := hsl.cells encI_len
        rw [toI_len]
        obtain ⟨A8, c8, rfl, hta⟩ := htv.toA
        have hnq : q.length ≤ 12 := by omega
        have hwl : s.tabV.length = s.whole + 1 := by unfold Sh.tabV; simp
        have htl : s.tabV.length ≤ 1000 := by
          rw [hwl]
          unfold Sh.whole
          have := pow_le8 Hok.out.n8
          omega
        have hsh := shape_of (Sh.tab_right Hok.out)
        unfold Sh.shapeB at hsh
        simp only [Bool.and_eq_true, List.all_eq_true, decide_eq_true_eq, btw_iff] at hsh
        have hn1 := Hok.out.n1
        have hsq : 1 ≤ s.acts.length * s.acts.length ∧ s.acts.length * s.acts.length ≤ 1000 := by
          have := Nat.mul_le_mul g1 g1
          have := Nat.mul_le_mul hn1 hn1
          omega
        have Hrw := Lib.hid (show ∀ r ∈ s.tabV, 1 ≤ r.length ∧ r.length ≤ 1000 from fun r hr => by rw [(hsh.2 r hr).1]; exact hsq)
        have Hen := Lib.hid (show ∀ r ∈ s.tabV, ∀ k ∈ r, 0 ≤ k ∧ k ≤ maxT from fun r hr k hk => (hsh.2 r hr).2 k hk)
        have ht1 : 1 ≤ s.tabV.length := by omega
        have Hln := Lib.hid (toI_len q)
        have HQ := Lib.hid (fun W (hW : Below W6.heap.size W6 W) => hq7.ext hW)
        clear hsl htv hso hql hwl hsh hsq hok0 Hok hq7
        generalize s.tabV = T0 at *
        generalize s.least = lc at *
        generalize toI q = l1 at *
        generalize q.length = nq at *
        go_wp2_with fail
        refine (rows2_any A8 T0.length c8 T0 W6 rfl htl (fun r hr => (Hrw.out r hr).2) hta).mono ?_; rintro e W7 ⟨⟨A9t, cT, rfl, hJ⟩, hb7⟩
        have hq7 := HQ.out W7 hb7
        have hb7w := ext_trans hb6w hb7
        have hs67 := hb6w.size
        have hne : ¬ (T0.length : Int) = 0 := by omega
        have hneb : ((T0.length : Int) == 0) = false := by rw [beq_eq_false_iff_ne]; exact hne
        have hr0 := Int.emod_nonneg rw1 hne
        have hr1 := Int.emod_lt_of_pos rw1 (show (0 : Int) < (T0.length : Int) by omega)
        obtain ⟨i0, hi0⟩ : ∃ i0 : Nat, rw1 % (T0.length : Int) = i0 := ⟨(rw1 % (T0.length : Int)).toNat, by omega⟩
        rw [hi0] at hr0 hr1
        have hil : i0 < T0.length := by omega
        have hrl := Hrw.out T0[i0] (List.getElem_mem hil)
        have hne2 : ¬ (T0[i0].length : Int) = 0 := by omega
        have hneb2 : ((T0[i0].length : Int) == 0) = false := by rw [beq_eq_false_iff_ne]; exact hne2
        have hs0 := Int.emod_nonneg at1 hne2
        have hs1 := Int.emod_lt_of_pos at1 (show (0 : Int) < (T0[i0].length : Int) by omega)
        obtain ⟨j0, hj0⟩ : ∃ j0 : Nat, at1 % (T0[i0].length : Int) = j0 := ⟨(at1 % (T0[i0].length : Int)).toNat, by omega⟩
        rw [hj0] at hs0 hs1
        have hjl : j0 < T0[i0].length := by omega
        have hen := Hen.out T0[i0] (List.getElem_mem hil) T0[i0][j0] (List.getElem_mem hjl)
        obtain ⟨b9, o9, g9, cr, rfl, hg9, r0, r1, r2, hput⟩ := hJ.put hil hjl
        have Hput := Lib.hid hput
        have HL1 := Lib.hid (show ∀ y, (T0.set i0 (T0[i0].set j0 y)).length = T0.length from fun y => by simp)
        have HR1 := Lib.hid (show ∀ y, ∀ r ∈ T0.set i0 (T0[i0].set j0 y), r.length ≤ 1000 from fun y r hr => by
          rcases List.mem_or_eq_of_mem_set hr with h1 | h1
          · exact (Hrw.out r h1).2
          · rw [h1, List.length_set]; exact hrl.2)
        have CI := Lib.hid (In_any by1 (-2000000) 2000000 W7)
        have Hbt := Lib.hid (show btw by1 (-2000000) 2000000 = true → -2000000 ≤ by1 ∧ by1 ≤ 2000000 from fun h => btw_iff.1 h)
        clear hput hJ hta Hen Hrw
        generalize T0[i0][j0] = e0 at *
        generalize T0[i0].length = rl at *
        generalize hbt : btw by1 (-2000000) 2000000 = bt at *
        clear hbt
        go_wp2_with fail
        refine CI.out.mono ?_; rintro e w1 ⟨rfl, rfl⟩
        cases bt
        · have hbz0 := (HM3.out W7 hb7w).2.2
          have ht0 : (T0.length : Int) > 0 := by omega
          go_wp2_with fail
          refine (wakes_any _).mono ?_; rintro e wz ⟨rfl, hbz⟩
          go_wp2
          go_ret
          exact ⟨rfl, ext_trans hbz0 hbz⟩
        have hbt := Hbt.out (by first | rfl | trivial)
        have hmx : maxT = 1000000 := rfl
        rw [hmx] at hen
        have hT1 := Hput.out (e0 + by1)
        have hL1 := HL1.out (e0 + by1)
        have HR2 := Lib.hid (HR1.out (e0 + by1))
        clear HR1
        have hb8w := hb7w.setCell (p := ⟨g9, j0, none⟩) (show W3.heap.size ≤ g9 by omega) (.int .i64 (e0 + by1))
        clear Hput HL1 Hbt CI
        have HT1 := Lib.hid hT1
        have HL1 := Lib.hid hL1
        have Hb8 := Lib.hid hb8w
        have Hq8 := Lib.hid (HQ.out _ (hb7.setCell (p := ⟨g9, j0, none⟩) hg9 (.int .i64 (e0 + by1))))
        clear hT1 hL1 hb8w hb7w hq7 HQ hb7
        generalize T0.set i0 (T0[i0].set j0 (e0 + by1)) = T1 at *
        go_upto_region 18 with fail
        clear r0 r1 r2
        generalize W7.setCell ⟨g9, j0, none⟩ (.int .i64 (e0 + by1)) = W8 at *
        clear hi0 hj0 hr0 hr1 hs0 hs1 hne hneb hne2 hneb2 hen hbt hmx hrl hil hjl hg9 hs67 hrw hat
        have hb8 := Hb8.out
        have hc8 := Hq8.out
        have ht8 := HT1.out
        go_upto_region 18 with fail
        have HC := Lib.hid (fun W (hW : Below W8.heap.size W8 W) => And.intro (HM3.out W (ext_trans hb8 hW)) (And.intro (hc8.ext hW) (ht8.ext hW)))
        have Hbad := Lib.hid (fun h => prov_bad (s := s) (l := l1) (c := lc) (T := T1) h)
        have Hp := Lib.hid (fun h1 h2 => prov_p (s := s) (l := l1) (c := lc) (T := T1) h1 h2)
        have Hc := Lib.hid (fun h => prov_c (s := s) (l := l1) (c := lc) (T := T1) h)
        have Ht := Lib.hid (fun h => prov_t (s := s) (l := l1) (c := lc) (T := T1) h)
        have Hbd := Lib.hid (fun h1 h2 h3 h4 => prov_b (s := s) (l := l1) (c := lc) (T := T1) h1 h2 h3 h4)
        generalize hpv : provB s l1 lc T1 = pv at *
        have Hpv := Lib.hid hpv
        clear hpv
        obtain ⟨hmw, hSw, -⟩ := HM3.out W8 hb8
        have CR := Lib.hid (Right_any s p W8 hmw)
        have x0 : W8.cell? ⟨w.heap.size, 0, none⟩ = _ := hSw.cell (i := 0) rfl
        have x1 : W8.cell? ⟨w.heap.size, 1, none⟩ = _ := hSw.cell (i := 1) rfl
        have x2 : W8.cell? ⟨w.heap.size, 2, none⟩ = _ := hSw.cell (i := 2) rfl
        have x3 : W8.cell? ⟨w.heap.size, 3, none⟩ = _ := hSw.cell (i := 3) rfl
        have x4 : W8.cell? ⟨w.heap.size, 4, none⟩ = _ := hSw.cell (i := 4) rfl
        have x5 : W8.cell? ⟨w.heap.size, 5, none⟩ = _ := hSw.cell (i := 5) rfl
        have x6 : W8.cell? ⟨w.heap.size, 6, none⟩ = _ := hSw.cell (i := 6) rfl
        clear hmw hSw
        go_cut [25] from 132 to 157 (fun v W => v = .bool pv ∧ Below W8.heap.size W8 W)
        case first =>
          cases hok : s.okB
          · rw [hok] at CR
            obtain rfl := Hbad.out hok
            clear Hbad Hp Hc Ht Hbd hok Hpv
            go_wp2_with fail
            refine CR.out.mono ?_; rintro e U1 ⟨rfl, hu1⟩
            clear x0 x1 x2 x3 x4 x5 x6
            go_wp2
            go_meet
            case rel => exact ⟨by first | rfl | trivial, hu1⟩
          rw [hok] at CR
          have Hok := Lib.hid hok
          clear hok
          go_wp2_with fail
          refine CR.out.mono ?_; rintro e U1 ⟨rfl, hu1⟩
          clear x0 x1 x2 x3 x4 x5 x6
          clear CR
          obtain ⟨⟨hmu, hSu, -⟩, hcu, -⟩ := HC.out U1 hu1
          have CP := Lib.hid (RProg_any s p A7 nq c7 l1 U1 hmu (Sh.ok_of Hok.out) Hln.out (by omega) hcu)
          have x0 : U1.cell? ⟨w.heap.size, 0, none⟩ = _ := hSu.cell (i := 0) rfl
          have x1 : U1.cell? ⟨w.heap.size, 1, none⟩ = _ := hSu.cell (i := 1) rfl
          have x2 : U1.cell? ⟨w.heap.size, 2, none⟩ = _ := hSu.cell (i := 2) rfl
          have x3 : U1.cell? ⟨w.heap.size, 3, none⟩ = _ := hSu.cell (i := 3) rfl
          have x4 : U1.cell? ⟨w.heap.size, 4, none⟩ = _ := hSu.cell (i := 4) rfl
          have x5 : U1.cell? ⟨w.heap.size, 5, none⟩ = _ := hSu.cell (i := 5) rfl
          have x6 : U1.cell? ⟨w.heap.size, 6, none⟩ = _ := hSu.cell (i := 6) rfl
          clear hmu hSu hcu
          cases hpg : progV s l1
          · rw [hpg] at CP
            obtain rfl := Hp.out Hok.out hpg
            clear Hbad Hp Hc Ht Hbd hpg Hpv
            go_wp2_with fail
            refine CP.out.mono ?_; rintro e U2 ⟨rfl, hu2⟩
            clear x0 x1 x2 x3 x4 x5 x6
            go_wp2
            go_meet
            case rel => exact ⟨by first | rfl | trivial, ext_trans hu1 hu2⟩
          rw [hpg] at CP
          obtain ⟨k, hlk, hkn, hkm⟩ := progV_nat hpg
          have Hpg := Lib.hid hpg
          clear hpg
          go_wp2_with fail
          refine CP.out.mono ?_; rintro e U2 ⟨rfl, hu2⟩
          clear x0 x1 x2 x3 x4 x5 x6
          clear CP
          have hu2w := ext_trans hu1 hu2
          obtain ⟨⟨hmu, hSu, -⟩, hcu, -⟩ := HC.out U2 hu2w
          have CC := Lib.hid (RCost_any s p A7 nq c7 k U2 hmu (Sh.ok_of Hok.out) hkn (by have := Hln.out; rw [hlk, toI_len] at this; exact this) (by omega) (hlk ▸ hcu))
          have x0 : U2.cell? ⟨w.heap.size, 0, none⟩ = _ := hSu.cell (i := 0) rfl
          have x1 : U2.cell? ⟨w.heap.size, 1, none⟩ = _ := hSu.cell (i := 1) rfl
          have x2 : U2.cell? ⟨w.heap.size, 2, none⟩ = _ := hSu.cell (i := 2) rfl
          have x3 : U2.cell? ⟨w.heap.size, 3, none⟩ = _ := hSu.cell (i := 3) rfl
          have x4 : U2.cell? ⟨w.heap.size, 4, none⟩ = _ := hSu.cell (i := 4) rfl
          have x5 : U2.cell? ⟨w.heap.size, 5, none⟩ = _ := hSu.cell (i := 5) rfl
          have x6 : U2.cell? ⟨w.heap.size, 6, none⟩ = _ := hSu.cell (i := 6) rfl
          have Hcc := Lib.hid (show s.cost k = s.cost (l1.map Int.toNat) by rw [hkm])
          clear hmu hSu hcu hlk hkn hkm hu1 hu2
          generalize s.cost k = ck at *
          by_cases hce : ck = lc
          rotate_left
          · obtain rfl := Hc.out (by rw [← Hcc.out]; exact hce)
            clear Hbad Hp Hc Ht Hbd Hpv
            go_wp2_with fail
            refine CC.out.mono ?_; rintro e U3 ⟨rfl, hu3⟩
            clear x0 x1 x2 x3 x4 x5 x6
            go_wp2
            go_meet
            case rel => exact ⟨by first | rfl | trivial, ext_trans hu2w hu3⟩
          subst hce
          go_wp2_with fail
          refine CC.out.mono ?_; rintro e U3 ⟨rfl, hu3⟩
          clear x0 x1 x2 x3 x4 x5 x6
          clear CC
          have hu3w := ext_trans hu2w hu3
          obtain ⟨⟨hmu, hSu, -⟩, -, htu⟩ := HC.out U3 hu3w
          have CT := Lib.hid (RTable_any s p (some ⟨b9, o9, none⟩) T0.length cT T1 U3 hmu (Sh.ok_of Hok.out) HL1.out (by omega) (fun r hr => Nat.le_trans (HR2.out r hr) (by decide)) htu)
          have x0 : U3.cell? ⟨w.heap.size, 0, none⟩ = _ := hSu.cell (i := 0) rfl
          have x1 : U3.cell? ⟨w.heap.size, 1, none⟩ = _ := hSu.cell (i := 1) rfl
          have x2 : U3.cell? ⟨w.heap.size, 2, none⟩ = _ := hSu.cell (i := 2) rfl
          have x3 : U3.cell? ⟨w.heap.size, 3, none⟩ = _ := hSu.cell (i := 3) rfl
          have x4 : U3.cell? ⟨w.heap.size, 4, none⟩ = _ := hSu.cell (i := 4) rfl
          have x5 : U3.cell? ⟨w.heap.size, 5, none⟩ = _ := hSu.cell (i := 5) rfl
          have x6 : U3.cell? ⟨w.heap.size, 6, none⟩ = _ := hSu.cell (i := 6) rfl
          clear hmu hSu htu hu2w hu3
          cases hrt : s.rightT T1
          · rw [hrt] at CT
            obtain rfl := Ht.out hrt
            clear Hbad Hp Hc Ht Hbd hrt Hpv
            go_wp2_with fail
            refine CT.out.mono ?_; rintro e U4 ⟨rfl, hu4⟩
            clear x0 x1 x2 x3 x4 x5 x6
            go_wp2
            go_meet
            case rel => exact ⟨by first | rfl | trivial, ext_trans hu3w hu4⟩
          rw [hrt] at CT
          go_wp2_with fail
          refine CT.out.mono ?_; rintro e U4 ⟨rfl, hu4⟩
          clear x0 x1 x2 x3 x4 x5 x6
          clear CT
          have hu4w := ext_trans hu3w hu4
          obtain ⟨⟨hmu, hSu, -⟩, -, htu⟩ := HC.out U4 hu4w
          have CB := Lib.hid (RBound_any s p (some ⟨b9, o9, none⟩) T0.length cT T1 U4 hmu (Sh.ok_of Hok.out) HL1.out htu (shape_of hrt))
          have x0 : U4.cell? ⟨w.heap.size, 0, none⟩ = _ := hSu.cell (i := 0) rfl
          have x1 : U4.cell? ⟨w.heap.size, 1, none⟩ = _ := hSu.cell (i := 1) rfl
          have x2 : U4.cell? ⟨w.heap.size, 2, none⟩ = _ := hSu.cell (i := 2) rfl
          have x3 : U4.cell? ⟨w.heap.size, 3, none⟩ = _ := hSu.cell (i := 3) rfl
          have x4 : U4.cell? ⟨w.heap.size, 4, none⟩ = _ := hSu.cell (i := 4) rfl
          have x5 : U4.cell? ⟨w.heap.size, 5, none⟩ = _ := hSu.cell (i := 5) rfl
          have x6 : U4.cell? ⟨w.heap.size, 6, none⟩ = _ := hSu.cell (i := 6) rfl
          have hfin := Hbd.out Hok.out Hpg.out Hcc.out.symm hrt
          clear hmu hSu htu hu3w hu4 Hbad Hp Hc Ht Hbd Hpv hrt Hpg
          generalize s.bound T1 = bd at *
          subst hfin
          go_wp2_with fail
          refine CB.out.mono ?_; rintro e U5 ⟨rfl, hu5⟩
          clear x0 x1 x2 x3 x4 x5 x6
          go_wp2
          go_meet
          case rel => exact ⟨by first | rfl | trivial | simp, ext_trans hu4w hu5⟩
        case rest =>
          obtain ⟨rfl, hu⟩ := hcut
          clear x0 x1 x2 x3 x4 x5 x6 CR Hbad Hp Hc Ht Hbd
          obtain ⟨⟨hmu, hSu, -⟩, -, -⟩ := HC.out wc hu
          have x0 : wc.cell? ⟨w.heap.size, 0, none⟩ = _ := hSu.cell (i := 0) rfl
          have x1 : wc.cell? ⟨w.heap.size, 1, none⟩ = _ := hSu.cell (i := 1) rfl
          have x2 : wc.cell? ⟨w.heap.size, 2, none⟩ = _ := hSu.cell (i := 2) rfl
          have x3 : wc.cell? ⟨w.heap.size, 3, none⟩ = _ := hSu.cell (i := 3) rfl
          have x4 : wc.cell? ⟨w.heap.size, 4, none⟩ = _ := hSu.cell (i := 4) rfl
          have x5 : wc.cell? ⟨w.heap.size, 5, none⟩ = _ := hSu.cell (i := 5) rfl
          have x6 : wc.cell? ⟨w.heap.size, 6, none⟩ = _ := hSu.cell (i := 6) rfl
          clear hSu
          go_wp2_with fail
          refine (Show_any s p wc hmu).mono ?_; rintro e Y1 ⟨⟨p9, rfl, hm9'⟩, hy1⟩
          clear x0 x1 x2 x3 x4 x5 x6
          have hy1w := ext_trans hu hy1
          clear hmu
          go_wp2_with fail
          refine (list_any A7 nq c7 l1 Y1 Hln.out (by omega) (HC.out Y1 hy1w).2.1).mono ?_; rintro e Y2 ⟨vl9, rfl, ⟨A9, c9, rfl, -, -, hd9, -⟩, hy2⟩
          rw [Hln.out]
          have hy2w := ext_trans hy1w hy2
          go_wp2_with fail
          refine (rows2_any (some ⟨b9, o9, none⟩) T0.length cT T1 Y2 HL1.out (by omega) HR2.out (HC.out Y2 hy2w).2.2).mono ?_; rintro e Y3 ⟨⟨A8, c8, rfl, hJ9⟩, hy3⟩
          have hy3w := ext_trans hy2w hy3
          have CV := Lib.hid (Prove_any s p9 A9 nq c9 l1 lc A8 T0.length c8 T1 Y3 (hm9'.ext (ext_trans hy2 hy3)) Hln.out (by omega) (hd9.ext hy3) HL1.out (by omega) (fun r hr => Nat.le_trans (HR2.out r hr) (by decide)) hJ9.toA)
          rw [Hpv.out] at CV
          clear hm9' hd9 hJ9 hy1 hy2 hy3 hy1w hy2w
          go_wp2_with fail
          refine CV.out.mono ?_; rintro e Y4 ⟨rfl, hy4⟩
          have hbz0 := (HC.out Y4 (ext_trans hy3w hy4)).1.2.2
          clear CV hy3w hy4 HC
          cases pv
          all_goals
            go_wp2_with fail
            refine (wakes_any Y4).mono ?_; rintro e wz ⟨rfl, hbz⟩
            go_wp2
            go_ret
            exact ⟨rfl, ext_trans hbz0 hbz⟩
end Go.Proofs.YtcnidhcdkbfpcaaGreat
